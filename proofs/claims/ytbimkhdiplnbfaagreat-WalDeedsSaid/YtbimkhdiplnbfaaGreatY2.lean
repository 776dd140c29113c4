/- Building a version, and a row of one, of whatever cells. -/
import Derived.Test.YtbimkhdiplnbfaaGreatY1
import Derived.Test.YtbimkhdiplnbfaaGreatY3
import Derived.Deep.MidRow
import Derived.Deep.AppendLies
import Derived.KernelRfl
import Derived.ChangeKeysEq
set_option linter.unusedVariables false
set_option linter.unusedSimpArgs false
namespace Go.Proofs.YtbimkhdiplnbfaaGreat
set_option maxRecDepth 1000000
set_option maxHeartbeats 16000000
section
open Go.RowKit
theorem splice_fold (vs : List Value) : ∀ (off k : Nat) (cells : Array Value), off + k + vs.length ≤ cells.size →
  ((vs.zipIdx k).foldl (fun (cs : Array Value) (x : Value × Nat) => cs.setIfInBounds (off + x.2) x.1) cells).toList = cells.toList.take (off + k) ++ vs ++ cells.toList.drop (off + k + vs.length) := by
 induction vs with
 |nil => intro off k cells _; simp
 |cons v vs ih =>
  intro off k cells h
  simp only [List.length_cons] at h
  rw [List.zipIdx_cons, List.foldl_cons, ih off (k + 1) _ (by simp; omega)]
  simp only [Array.toList_setIfInBounds, List.length_cons]
  apply List.ext_getElem?
  intro j
  simp only [List.getElem?_append, List.getElem?_take, List.length_take, List.length_set, Array.length_toList, List.getElem?_set, List.getElem?_drop, List.length_append, List.length_cons]
  by_cases h1 : j < off + k
  ·simp [h1, show j < off + (k + 1) by omega, show off + k ≠ j by omega, show j < min (off + (k + 1)) cells.size by omega, show j < min (off + k) cells.size by omega, show j < min (off + (k + 1)) cells.size + vs.length by omega, show j < min (off + k) cells.size + (vs.length + 1) by omega]
  ·by_cases h2 : j = off + k
   ·subst h2
    simp [show off + k < off + (k + 1) by omega, show off + k < min (off + (k + 1)) cells.size by omega, show off + k < min (off + (k + 1)) cells.size + vs.length by omega, show min (off + k) cells.size = off + k by omega, show off + k < cells.size by omega]
   ·obtain ⟨m, rfl⟩ : ∃ m, j = off + k + 1 + m := ⟨j - (off + k + 1), by omega⟩
    have e1 : min (off + (k + 1)) cells.size = off + k + 1 := by omega
    have e2 : min (off + k) cells.size = off + k := by omega
    have e3 : ¬ (off + k + 1 + m < off + k + 1) := by omega
    have e4 : ¬ (off + k + 1 + m < off + k) := by omega
    have e5 : off + k + 1 + m - (off + k + 1) = m := by omega
    have e6 : off + k + 1 + m - (off + k) = m + 1 := by omega
    have e7 : (off + k + 1 + m < off + k + 1 + vs.length) = (m < vs.length) := by simp
    have e8 : (off + k + 1 + m < off + k + (vs.length + 1)) = (m < vs.length) := by apply propext; omega
    simp only [e1, e2, e3, e4, e5, e6, e7, e8, if_false, List.getElem?_cons_succ]
    by_cases h3 : m < vs.length
    ·simp [h3]
    ·simp [h3, show off + (k + 1) + vs.length + (off + k + 1 + m - (off + k + 1 + vs.length)) = off + k + (vs.length + 1) + (off + k + 1 + m - (off + k + (vs.length + 1))) by omega]
     intro hx; omega
def Z130 : Array Value := (List.replicate 64 (Value.int .u8 0) ++ [Value.int .i64 0]).toArray
theorem Z130_size : Z130.size = 65 := by simp [Z130]
theorem zero130 (w : World) : (zeroValue 124).run Tryz.prog w = .ok (.agg Z130) w := by kernel_rfl
theorem fold130 (bs : List Value) (hb : bs.length = 64) : List.foldl (fun (cs : Array Value) (x : Value × Nat) => cs.setIfInBounds x.snd x.fst) Z130 bs.zipIdx = (bs ++ [Value.int .i64 0]).toArray := by
 apply Array.toList_inj.1
 have h := splice_fold bs 0 0 Z130 (by simp [Z130_size, hb])
 simp only [Nat.zero_add] at h
 rw [h]
 have e : Z130.toList.drop 64 = [Value.int .i64 0] := rfl
 simp [hb, e]
theorem run_build130 (bs : List Value) (m : Int) (w : World) (hb : bs.length = 64) :
  (Instr.build 124 #[(0, .agg bs.toArray), (1, .int .i64 m)]).run Tryz.prog w = .ok (.agg (bs ++ [Value.int .i64 m]).toArray) w := by
 have hz := zero130 w
 have hf := fold130 bs hb
 have e : ((bs ++ [Value.int .i64 0]).toArray).setIfInBounds 64 (Value.int .i64 m) = (bs ++ [Value.int .i64 m]).toArray := by
  apply Array.toList_inj.1
  simp [← hb]
 simp [Instr.build, hz, go_sem]
 simp only [hf, Z130_size, hb, e]
 simp [hb]
theorem run_build130_zero (w : World) : (Instr.build 124 #[]).run Tryz.prog w = .ok (.agg Z130) w := by
 have hz := zero130 w
 simp [Instr.build, hz, go_sem]
theorem run_build130_one (bs : List Value) (w : World) (hb : bs.length = 64) :
  (Instr.build 124 #[(0, .agg bs.toArray)]).run Tryz.prog w = .ok (.agg (bs ++ [Value.int .i64 0]).toArray) w := by
 have hz := zero130 w
 have hf := fold130 bs hb
 simp [Instr.build, hz, go_sem]
 simp only [hf, Z130_size, hb]
 simp
theorem fold131 (cs : List Value) (Z : Array Value) (hc : cs.length = 65) (hz : Z.size = 65) : List.foldl (fun (cs : Array Value) (x : Value × Nat) => cs.setIfInBounds x.snd x.fst) Z cs.zipIdx = cs.toArray := by
 apply Array.toList_inj.1
 have h := splice_fold cs 0 0 Z (by simp [hz, hc])
 simp only [Nat.zero_add] at h
 rw [h]
 have e : Z.toList.drop 65 = [] := by rw [List.drop_eq_nil_iff]; simp [hz]
 simp [hc, e]
theorem run_buildSlice131 (cs : List Value) (w : World) (hc : cs.length = 65) :
  (Instr.buildSlice 125 1 #[(0, .agg cs.toArray)]).run Tryz.prog w = .ok (.slice (some ⟨w.heap.size, 0, none⟩) 1 1) (w.alloc (.cells cs.toArray 124)) := by
 simp [Instr.buildSlice, go_sem]
 rw [fold131 cs _ hc (by simp)]
 simp [hc]
theorem Tryz.info130p : (Tryz.prog.info? 124).map (fun i => (i.zero, i.size, i.bytes)) = some (some (.agg Z130), 65, 72) := by kernel_rfl
theorem Tryz.info56p : (Tryz.prog.info? 48).map (·.size) = some 64 := by kernel_rfl
theorem rangeAt_block {w : World} {b : Nat} {cs : List Value} {t : TypeId} (h : w.heap[b]? = some (.cells cs.toArray t (0, 0))) : w.rangeAt b 0 cs := by
 intro j v hv
 simp [World.cell?, h, hv]
theorem run_load_mid {P : Program} {o : Oper} {a : Act} {w : World} {b : Nat} {ty : TypeId} {x : Operand} {d : TypeDesc} (ho : o.op = .load ty x) (hx : a.eval x = .pointer (some ⟨b, 0, none⟩)) (cs : List Value) (hc : w.rangeAt b 0 cs)
  (hu : P.underlying ty = some d) (hd : d.isRow = true) (hi : (P.info? ty).map (·.size) = some cs.length) : (execOp a.eval o).run P w = .ok (.value (.agg cs.toArray)) w := by
 unfold execOp
 simp only [ho, hx, Instr.loadAt, Instr.sureAddr, Sem.run_bind, Sem.run_pure, Result.andThen_ok, run_loadVar_mid w b 0 ty cs d hc hu hd hi]
theorem run_exec_build {P : Program} {o : Oper} {a : Act} {w : World} {ty : TypeId} {v : Value} {ps : Array (Nat × Value)} {qs : Array (Nat × Operand)} (h : (Instr.build ty ps).run P w = .ok v w) (ho : o.op = .build ty qs := by rfl) (hq : qs.map (fun x => (x.1, a.eval x.2)) = ps := by rfl) :
  (execOp a.eval o).run P w = .ok (.value v) w := by
 subst hq
 unfold execOp
 simp only [ho]
 simp [h]
theorem run_exec_buildSlice {P : Program} {o : Oper} {a : Act} {w w' : World} {ty : TypeId} {v : Value} {n : Nat} {ps : Array (Nat × Value)} {qs : Array (Nat × Operand)} (h : (Instr.buildSlice ty n ps).run P w = .ok v w') (ho : o.op = .buildSlice ty n qs) (hq : qs.map (fun x => (x.1, a.eval x.2)) = ps) :
  (execOp a.eval o).run P w = .ok (.value v) w' := by
 subst hq
 unfold execOp
 simp only [ho]
 simp [h]
theorem keepa {W : World} {a : Addr} {v : Value} {o : Obj} (h : W.cell? a = some v) : (W.alloc o).cell? a = some v :=
 (World.cell?_alloc_lt _ _ _ (World.block_lt_of_cell? W a h)).trans h
theorem wp_exec {P : Program} {o : Oper} {a : Act} {w w' : World} {v : Value} {K : Act → World → Prop} {Q : Exit → Act → World → Prop} (h : (execOp a.eval o).run P w = .ok (.value v) w') (hK : K (a.put o.dst v) w') : o.wp P a w K Q := by
 unfold Oper.wp
 rw [h]
 exact hK
theorem Z130_cells : (Value.agg Z130).cells.size = 65 := by simp [Value.cells, Z130_size]
theorem Upd.grown1 {p : Nat} {w w' : World} (h : Upd (fun k => k = p) w w') : w.grownBy w' (some p) :=
 ⟨h.os, h.tape, h.output, h.size, fun k hk hn => h.block k hk (fun e => hn (by rw [e]))⟩
theorem sends_run {p s n k bd bb g cap m : Nat} {sent ops arm fail : Int} {dead : Bool} {bs xs : List Value} {secs : List Value} (w : World)
  (hm : w.heap[p]? = some (mainObj s n sent ops arm fail dead)) (hs : w.heap[s]? = some (.cells secs.toArray 125 (0, 0))) (hsk : secs[k]? = some (.slice (some ⟨g, 0, none⟩) m cap))
  (hr : w.ownsRow 0 124 65 (.slice (some ⟨g, 0, none⟩) m cap) m xs)
  (hd : w.heap[bd]? = some (.cells #[.pointer (some ⟨p, 0, none⟩)] 25 (0, 0))) (hb : w.heap[bb]? = some (.cells bs.toArray 48 (0, 0))) (hbl : bs.length = 64) (h1b : ∀ u ∈ bs, u.oneCell' = true)
  (hm1 : m + 1 ≤ 1099511627776) (hsent : 0 ≤ sent ∧ sent ≤ 1099511627776)
  (h1 : p ≠ s) (h2 : g ≠ p) (h3 : g ≠ s) (h4 : bd ≠ p) (h5 : bd ≠ s) (h6 : bd ≠ g) (h7 : bb ≠ p) (h8 : bb ≠ s) (h9 : bb ≠ g) :
  Calls Tryz.prog 185 #[.pointer (some ⟨s, k, none⟩), .pointer (some ⟨bd, 0, none⟩), .pointer (some ⟨bb, 0, none⟩)] w fun e w' => e = .returned (.tuple #[]) ∧
   ∃ g' cap', w'.heap[p]? = some (mainObj s n (sent + 1) ops arm fail dead) ∧ w'.heap[s]? = some (.cells (secs.set k (.slice (some ⟨g', 0, none⟩) (m + 1) cap')).toArray 125 (0, 0)) ∧
    w'.ownsRow 0 124 65 (.slice (some ⟨g', 0, none⟩) (m + 1) cap') (m + 1) (xs ++ (bs ++ [.int .i64 (sent + 1)])) ∧ (g' = g ∨ w.heap.size ≤ g') ∧ Upd (fun k => k = p ∨ k = s ∨ k = g) w w' := by
 obtain ⟨hsent1, hsent2⟩ := hsent
 have lp := lt_of_heap hm
 have ls := lt_of_heap hs
 have ld := lt_of_heap hd
 have lb := lt_of_heap hb
 have cp := cells6_of hm
 have fp : ∀ k, w.frozen? ⟨p, k, none⟩ = false := fun k => frozen_of_heap hm
 have cd := cells1_of hd
 have H1 := Lib.hid hm; have H2 := Lib.hid hs; have H3 := Lib.hid hd; have H4 := Lib.hid hb; have H5 := Lib.hid hr; have H6 := Lib.hid hsk; have H7 := Lib.hid hbl
 clear hm hs hd hb hr hsk hbl
 go_enter Tryz.func185, Tryz.ntmps185
 go_wp2_with fail
 have m1 : (w.setCell ⟨p, 1, none⟩ (.int .i64 (sent + 1))).heap[p]? = some (mainObj s n (sent + 1) ops arm fail dead) := blk_set H1.out
 have U1 : Upd (fun k => k = p ∨ k = s ∨ k = g) w (w.setCell ⟨p, 1, none⟩ (.int .i64 (sent + 1))) := (upd_own w p 1 _).mono (fun k _ hk => .inl hk)
 have s1 := (set_ne (w := w) (a := ⟨p, 1, none⟩) (u := .int .i64 (sent + 1)) (k := s) (fun e => h1 e.symm)).trans H2.out
 have d1 := (set_ne (w := w) (a := ⟨p, 1, none⟩) (u := .int .i64 (sent + 1)) (k := bd) h4).trans H3.out
 have b1 := (set_ne (w := w) (a := ⟨p, 1, none⟩) (u := .int .i64 (sent + 1)) (k := bb) h7).trans H4.out
 have r1 := H5.out.kept (Upd.grown1 (upd_own w p 1 (.int .i64 (sent + 1)))) (.inr (by simp [Value.ownBlock, h2]))
 have z1 : w.heap.size = (w.setCell ⟨p, 1, none⟩ (.int .i64 (sent + 1))).heap.size := by simp [World.setCell]
 generalize w.setCell ⟨p, 1, none⟩ (.int .i64 (sent + 1)) = W at *
 have c0 : W.cell? ⟨s, k, none⟩ = some (.slice (some ⟨g, 0, none⟩) m cap) := by rw [cell_of_heap s1]; simp [H6.out]
 have c1 := cells1_of d1
 have c2 := (cells6_of m1).2.1
 have f0 : W.frozen? ⟨s, k, none⟩ = false := frozen_of_heap s1
 have hrng : W.drew.rangeAt bb 0 bs := rangeAt_block (w := W.drew) b1
 have hu56 := Tryz.underlying48
 have hi56 : (Tryz.prog.info? 48).map (·.size) = some bs.length := by rw [Tryz.info56p, H7.out]
 have M1 := Lib.hid m1; have S1 := Lib.hid s1; have D1 := Lib.hid d1; have B1 := Lib.hid b1; have R1 := Lib.hid r1; have Z1 := Lib.hid z1
 have lp1 := lt_of_heap m1; have ls1 := lt_of_heap s1; have ld1 := lt_of_heap d1
 clear m1 s1 d1 b1 r1 z1 cp fp cd
 have HB := fun w => run_build130 bs (sent + 1) w H7.out
 have HS := fun w => run_buildSlice131 (bs ++ [Value.int .i64 (sent + 1)]) w (by simp [H7.out])
 obtain ⟨i0, hi0, hz0, hz1, hz2⟩ := info_parts Tryz.info130p
 have hA : W.drew.cell? ⟨s, k, none⟩ = some (.slice (some ⟨g, 0, none⟩) m cap) ∧ W.drew.rangeAt bb 0 bs ∧ W.drew.cell? ⟨bd, 0, none⟩ = some (.pointer (some ⟨p, 0, none⟩)) ∧ W.drew.cell? ⟨p, 1, none⟩ = some (.int .i64 (sent + 1)) := ⟨c0, hrng, c1, c2⟩
 refine wp_region_G 12 (fun W' => W'.cell? ⟨s, k, none⟩ = some (.slice (some ⟨g, 0, none⟩) m cap) ∧ W'.rangeAt bb 0 bs ∧ W'.cell? ⟨bd, 0, none⟩ = some (.pointer (some ⟨p, 0, none⟩)) ∧ W'.cell? ⟨p, 1, none⟩ = some (.int .i64 (sent + 1))) [false, false, false, false, false, false, false, false, false, false, false, false, false, false] rfl (by kernel_rfl) ?_
 refine wpG_take (i := 0) (v := .pointer (some ⟨s, k, none⟩)) rfl (by kernel_rfl) (fun _ _ _ h => h) hA (.inl ⟨rfl, fun w ⟨q1, q2, q3, q4⟩ => ?_⟩) ?_
 ·go_simp
 simp only [Act.put, List.setIfInBounds_toArray, List.set]
 refine wpG_take (i := 1) (v := .pointer (some ⟨s, k, none⟩)) rfl (by kernel_rfl) (fun _ _ _ h => h) hA (.inl ⟨rfl, fun w ⟨q1, q2, q3, q4⟩ => ?_⟩) ?_
 ·go_simp
 simp only [Act.put, List.setIfInBounds_toArray, List.set]
 refine wpG_take (i := 2) (v := .pointer (some ⟨s, k, none⟩)) rfl (by kernel_rfl) (fun _ _ _ h => h) hA (.inl ⟨rfl, fun w ⟨q1, q2, q3, q4⟩ => ?_⟩) ?_
 ·go_simp
 simp only [Act.put, List.setIfInBounds_toArray, List.set]
 refine wpG_take (i := 3) (v := .slice (some ⟨g, 0, none⟩) m cap) rfl (by kernel_rfl) (fun _ _ _ h => h) hA (.inl ⟨rfl, fun w ⟨q1, q2, q3, q4⟩ => ?_⟩) ?_
 ·go_simp
 simp only [Act.put, List.setIfInBounds_toArray, List.set]
 refine wpG_take (i := 4) (v := .agg bs.toArray) rfl (by kernel_rfl) (fun _ _ _ h => h) hA (.inl ⟨rfl, fun w ⟨q1, q2, q3, q4⟩ => ?_⟩) ?_
 ·exact run_load_mid rfl rfl bs q2 hu56 rfl hi56
 simp only [Act.put, List.setIfInBounds_toArray, List.set]
 refine wpG_take (i := 5) (v := .pointer (some ⟨p, 0, none⟩)) rfl (by kernel_rfl) (fun _ _ _ h => h) hA (.inl ⟨rfl, fun w ⟨q1, q2, q3, q4⟩ => ?_⟩) ?_
 ·go_simp
 simp only [Act.put, List.setIfInBounds_toArray, List.set]
 refine wpG_take (i := 6) (v := .pointer (some ⟨p, 0, none⟩)) rfl (by kernel_rfl) (fun _ _ _ h => h) hA (.inl ⟨rfl, fun w ⟨q1, q2, q3, q4⟩ => ?_⟩) ?_
 ·go_simp
 simp only [Act.put, List.setIfInBounds_toArray, List.set]
 refine wpG_take (i := 7) (v := .pointer (some ⟨p, 1, none⟩)) rfl (by kernel_rfl) (fun _ _ _ h => h) hA (.inl ⟨rfl, fun w ⟨q1, q2, q3, q4⟩ => ?_⟩) ?_
 ·go_simp
 simp only [Act.put, List.setIfInBounds_toArray, List.set]
 refine wpG_take (i := 8) (v := .int .i64 (sent + 1)) rfl (by kernel_rfl) (fun _ _ _ h => h) hA (.inl ⟨rfl, fun w ⟨q1, q2, q3, q4⟩ => ?_⟩) ?_
 ·go_simp
 simp only [Act.put, List.setIfInBounds_toArray, List.set]
 refine wpG_take (i := 9) (v := .agg (bs ++ [Value.int .i64 (sent + 1)]).toArray) rfl (by kernel_rfl) (fun _ _ _ h => h) hA (.inl ⟨rfl, fun w ⟨q1, q2, q3, q4⟩ => ?_⟩) ?_
 ·exact run_exec_build (HB w) rfl (by simp [Act.eval])
 simp only [Act.put, List.setIfInBounds_toArray, List.set]
 refine wpG_do (i := 10) rfl (by kernel_rfl) rfl (fun K hK => ?_)
 refine wp_exec (v := .slice (some ⟨W.heap.size, 0, none⟩) 1 1) (w' := W.drew.alloc (.cells (bs ++ [Value.int .i64 (sent + 1)]).toArray 124)) (run_exec_buildSlice (HS W.drew) rfl (by simp [Act.eval])) ?_
 have hA1 : (W.drew.alloc (.cells (bs ++ [Value.int .i64 (sent + 1)]).toArray 124)).cell? ⟨s, k, none⟩ = some (.slice (some ⟨g, 0, none⟩) m cap) := keepa (W := W.drew) c0
 refine hK _ _ ⟨hA1, World.rangeAt_alloc hrng _, keepa (W := W.drew) c1, keepa (W := W.drew) c2⟩ ?_
 simp only [Act.put, List.setIfInBounds_toArray, List.set]
 refine wpG_do (i := 11) rfl (by kernel_rfl) rfl (fun K hK => ?_)
 refine wp_append_lies _ (.tmp 14) (.tmp 21) 125 rfl 0 124 i0 (.agg Z130) 65 72 Tryz.underlying125 hi0 hz0 hz1 hz2 Z130_cells (by omega) (.slice (some ⟨g, 0, none⟩) m cap) m xs rfl (R1.out.alloc _) ⟨W.heap.size, 0, none⟩ 1 1 (bs ++ [Value.int .i64 (sent + 1)]) rfl (by simp [H7.out]) (World.news_of_block (cs := (bs ++ [Value.int .i64 (sent + 1)]).toArray) (t := 124) (fr := (0, 0)) (heap_alloc_new _ _)) ?_ (by omega) (by unfold maxLen; omega) (by omega) (by simp) (W.heap.size + 1) (by simp) ?_
 ·intro u hu
  rcases List.mem_append.1 hu with hu | hu
  ·exact h1b u hu
  ·simp at hu; subst hu; rfl
 intro gg cap' w1 hown1 hgrow hat hlt
 have hk : ∀ b, b < W.heap.size → b ≠ g → w1.heap[b]? = W.heap[b]? := fun b hb hn => (hgrow.block b (by simp; omega) (by simp [Value.ownBlock, hn])).trans (alloc_lt (w := W.drew) hb)
 have hs1 := (hk s ls1 (fun e => h3 e.symm)).trans S1.out
 have hp1 := (hk p lp1 (fun e => h2 e.symm)).trans M1.out
 have hd1 := (hk bd ld1 h6).trans D1.out
 have c0' : w1.cell? ⟨s, k, none⟩ = some (.slice (some ⟨g, 0, none⟩) m cap) := by rw [cell_of_heap hs1]; simp [H6.out]
 have f0' : w1.frozen? ⟨s, k, none⟩ = false := frozen_of_heap hs1
 refine hK _ _ ⟨c0', rangeAt_block ((hk bb (lt_of_heap B1.out) h9).trans B1.out), cells1_of hd1, (cells6_of hp1).2.1⟩ ?_
 simp only [Act.put, List.setIfInBounds_toArray, List.set]
 refine wpG_tail_lit (k := 12) rfl rfl (by kernel_rfl) ?_
 have HS1 := Lib.hid hs1; have HP1 := Lib.hid hp1; have HO := Lib.hid hown1; have HG := Lib.hid hgrow
 clear hs1 hp1 hd1 hk hown1 hgrow HB HS
 simp only [List.drop]
 go_wp2
 go_end0
 have hgg : gg = g ∨ gg = W.heap.size + 1 := by
  rcases hat with hat | hat
  ·simp [Value.ownBlock] at hat; exact .inl hat.symm
  ·exact .inr hat
 have hgs : gg ≠ s := by rcases hgg with e | e <;> omega
 refine ⟨rfl, gg, cap', (set_ne h1).trans HP1.out, ?_, ?_, ?_, ?_⟩
 ·have := blk_set (i := k) (v := .slice (some ⟨gg, 0, none⟩) (m + 1) cap') HS1.out
  simpa using this
 ·exact HO.out.kept (Upd.grown1 (upd_own w1 s k _)) (.inr (by simp [Value.ownBlock, hgs]))
 ·rcases hgg with e | e
  ·exact .inl e
  ·right; rw [e, Z1.out]; omega
 ·refine Upd.setCell ((((U1.drew).alloc _).step (Upd.of_grown (F := fun k => k = g) HG.out (fun k hk => by simp [Value.ownBlock] at hk; exact hk.symm)) (fun k _ hk => .inr (.inr hk)))) (.inl (.inr (.inl rfl))) _
theorem heap_setCells (b : Nat) (t : TypeId) : ∀ (vs : List Value) (o : Nat) (w : World) (old : Array Value), w.heap[b]? = some (.cells old t (0, 0)) →
  (w.setCells b o vs).heap[b]? = some (.cells ((vs.zipIdx o).foldl (fun (cs : Array Value) (x : Value × Nat) => cs.setIfInBounds (0 + x.2) x.1) old) t (0, 0))
 | [], _, _, _, h => h
 |v :: r, o, w, old, h => by
  rw [World.setCells, List.zipIdx_cons, List.foldl_cons]
  exact heap_setCells b t r (o + 1) _ _ (by simpa using blk_set h)
theorem heap_setCells_whole {w : World} {b : Nat} {t : TypeId} {old : Array Value} {vs : List Value} (h : w.heap[b]? = some (.cells old t (0, 0))) (hs : old.size = vs.length) :
  (w.setCells b 0 vs).heap[b]? = some (.cells vs.toArray t (0, 0)) := by
 rw [heap_setCells b t vs 0 w old h]
 have := splice_fold vs 0 0 old (by omega)
 congr 2
 apply Array.toList_inj.1
 rw [this]
 have e : old.toList.drop (0 + 0 + vs.length) = [] := by rw [List.drop_eq_nil_iff]; simp [hs]
 rw [e]; simp
theorem Upd.setCells {F : Nat → Prop} {b : Nat} (hb : F b) : ∀ (vs : List Value) (o : Nat) {a w : World}, Upd F a w → Upd F a (w.setCells b o vs)
 | [], _, _, _, h => h
 |v :: r, o, _, _, h => Upd.setCells hb r (o + 1) (h.setCell (p := ⟨b, o, none⟩) (.inl hb) v)
theorem there_block {w : World} {b : Nat} {cs : Array Value} {t : TypeId} (h : w.heap[b]? = some (.cells cs t (0, 0))) : w.there b 0 cs.size := fun j hj =>
 ⟨by rw [cell_of_heap h]; simp [hj], frozen_of_heap h⟩
theorem rangeAt_row {w : World} {g n cap o len : Nat} {xs bs : List Value} (h : w.ownsRow 0 124 65 (.slice (some ⟨g, 0, none⟩) n cap) n xs) (hb : (xs.drop o).take len = bs) : w.rangeAt g o bs := by
 intro j v hv
 subst hb
 have hj : j < len := by
  have := (List.getElem?_eq_some_iff.1 hv).1
  simp at this; omega
 have : xs[o + j]? = some v := by simpa [List.getElem?_take, List.getElem?_drop, hj] using hv
 have := h.cells (g := g) rfl (o + j) v this
 rwa [Addr.add_mid, Nat.zero_add] at this
theorem run_load_mid' {P : Program} {o : Oper} {a : Act} {w : World} {b off : Nat} {ty : TypeId} {x : Operand} {d : TypeDesc} (ho : o.op = .load ty x) (hx : a.eval x = .pointer (some ⟨b, off, none⟩)) (cs : List Value) (hc : w.rangeAt b off cs)
  (hu : P.underlying ty = some d) (hd : d.isRow = true) (hi : (P.info? ty).map (·.size) = some cs.length) : (execOp a.eval o).run P w = .ok (.value (.agg cs.toArray)) w := by
 unfold execOp
 simp only [ho, hx, Instr.loadAt, Instr.sureAddr, Sem.run_bind, Sem.run_pure, Result.andThen_ok, run_loadVar_mid w b off ty cs d hc hu hd hi]
theorem reads_run {s k bb g cap j : Nat} {bs xs old secs : List Value} (w : World)
  (hs : w.heap[s]? = some (.cells secs.toArray 125 (0, 0))) (hsk : secs[k]? = some (.slice (some ⟨g, 0, none⟩) (j + 1) cap))
  (hr : w.ownsRow 0 124 65 (.slice (some ⟨g, 0, none⟩) (j + 1) cap) (j + 1) xs) (hx : (xs.drop (j * 65)).take 64 = bs)
  (hb : w.heap[bb]? = some (.cells old.toArray 48 (0, 0))) (hol : old.length = 64) (hbl : bs.length = 64) (h1b : ∀ u ∈ bs, u.oneCell' = true) (hj : j + 1 ≤ 1099511627776) :
  Calls Tryz.prog 80 #[.pointer (some ⟨s, k, none⟩), .pointer (some ⟨bb, 0, none⟩)] w fun e w' => e = .returned (.tuple #[]) ∧
   w'.heap[bb]? = some (.cells bs.toArray 48 (0, 0)) ∧ Upd (fun k => k = bb) w w' := by
 have c0 : w.cell? ⟨s, k, none⟩ = some (.slice (some ⟨g, 0, none⟩) (j + 1) cap) := by rw [cell_of_heap hs]; simp [hsk]
 have hrng : w.drew.rangeAt g (j * 65) bs := rangeAt_row (w := w.drew) hr hx
 have hu56 := Tryz.underlying48
 have hi56 : (Tryz.prog.info? 48).map (·.size) = some bs.length := by rw [Tryz.info56p, hbl]
 have hth : w.drew.there bb 0 bs.toArray.size := by
  have := there_block (w := w.drew) hb
  simpa [hol, hbl] using this
 have H1 := Lib.hid hb; have H2 := Lib.hid hbl; have H3 := Lib.hid hol; have H4 := Lib.hid hth
 have hj1 : (0 : Int) ≤ (j : Int) := Int.natCast_nonneg _
 have hj2 : (j : Int) < ((j + 1 : Nat) : Int) := by omega
 have hwr : IntKind.i64.wrap ((j : Int) + 1 - 1) = j := by rw [show (j : Int) + 1 - 1 = j by omega]; exact IntWalk.i64_in _ (by omega)
 clear hs hsk hr hx hb hbl hol hth
 go_enter Tryz.func80, Tryz.ntmps80
 go_wp2_with fail
 have hA : w.drew.cell? ⟨s, k, none⟩ = some (.slice (some ⟨g, 0, none⟩) (j + 1) cap) ∧ w.drew.rangeAt g (j * 65) bs := ⟨c0, hrng⟩
 refine wp_region_G 11 (fun W' => W'.cell? ⟨s, k, none⟩ = some (.slice (some ⟨g, 0, none⟩) (j + 1) cap) ∧ W'.rangeAt g (j * 65) bs) [false, false, false, false, false, false, false, false, false, false, false, false] rfl (by kernel_rfl) ?_
 refine wpG_take (i := 0) (v := .pointer (some ⟨s, k, none⟩)) rfl (by kernel_rfl) (fun _ _ _ h => h) hA (.inl ⟨rfl, fun w ⟨q1, q2⟩ => ?_⟩) ?_
 ·go_simp
 simp only [Act.put, List.setIfInBounds_toArray, List.set]
 refine wpG_take (i := 1) (v := .pointer (some ⟨s, k, none⟩)) rfl (by kernel_rfl) (fun _ _ _ h => h) hA (.inl ⟨rfl, fun w ⟨q1, q2⟩ => ?_⟩) ?_
 ·go_simp
 simp only [Act.put, List.setIfInBounds_toArray, List.set]
 refine wpG_take (i := 2) (v := .slice (some ⟨g, 0, none⟩) (j + 1) cap) rfl (by kernel_rfl) (fun _ _ _ h => h) hA (.inl ⟨rfl, fun w ⟨q1, q2⟩ => ?_⟩) ?_
 ·go_simp
 simp only [Act.put, List.setIfInBounds_toArray, List.set]
 refine wpG_take (i := 3) (v := .pointer (some ⟨s, k, none⟩)) rfl (by kernel_rfl) (fun _ _ _ h => h) hA (.inl ⟨rfl, fun w ⟨q1, q2⟩ => ?_⟩) ?_
 ·go_simp
 simp only [Act.put, List.setIfInBounds_toArray, List.set]
 refine wpG_take (i := 4) (v := .pointer (some ⟨s, k, none⟩)) rfl (by kernel_rfl) (fun _ _ _ h => h) hA (.inl ⟨rfl, fun w ⟨q1, q2⟩ => ?_⟩) ?_
 ·go_simp
 simp only [Act.put, List.setIfInBounds_toArray, List.set]
 refine wpG_take (i := 5) (v := .slice (some ⟨g, 0, none⟩) (j + 1) cap) rfl (by kernel_rfl) (fun _ _ _ h => h) hA (.inl ⟨rfl, fun w ⟨q1, q2⟩ => ?_⟩) ?_
 ·go_simp
 simp only [Act.put, List.setIfInBounds_toArray, List.set]
 refine wpG_take (i := 6) (v := .int .i64 ((j : Int) + 1)) rfl (by kernel_rfl) (fun _ _ _ h => h) hA (.inl ⟨rfl, fun w ⟨q1, q2⟩ => ?_⟩) ?_
 ·go_simp
 simp only [Act.put, List.setIfInBounds_toArray, List.set]
 refine wpG_take (i := 7) (v := .int .i64 (j : Int)) rfl (by kernel_rfl) (fun _ _ _ h => h) hA (.inl ⟨rfl, fun w ⟨q1, q2⟩ => ?_⟩) ?_
 ·(go_simp; exact IntWalk.i64_in _ (by omega))
 simp only [Act.put, List.setIfInBounds_toArray, List.set]
 refine wpG_take (i := 8) (v := .pointer (some ⟨g, j * 65, none⟩)) rfl (by kernel_rfl) (fun _ _ _ h => h) hA (.inl ⟨rfl, fun w ⟨q1, q2⟩ => ?_⟩) ?_
 ·(go_simp; intro hx; omega)
 simp only [Act.put, List.setIfInBounds_toArray, List.set]
 refine wpG_take (i := 9) (v := .pointer (some ⟨g, j * 65, none⟩)) rfl (by kernel_rfl) (fun _ _ _ h => h) hA (.inl ⟨rfl, fun w ⟨q1, q2⟩ => ?_⟩) ?_
 ·go_simp
 simp only [Act.put, List.setIfInBounds_toArray, List.set]
 refine wpG_take (i := 10) (v := .agg bs.toArray) rfl (by kernel_rfl) (fun _ _ _ h => h) hA (.inl ⟨rfl, fun w ⟨q1, q2⟩ => ?_⟩) ?_
 ·exact run_load_mid' rfl rfl bs q2 hu56 rfl hi56
 simp only [Act.put, List.setIfInBounds_toArray, List.set]
 refine wpG_tail_lit (k := 11) rfl rfl (by kernel_rfl) ?_
 simp only [List.drop]
 refine wpList_store_mid rfl 48 (.tmp 1) (.tmp 13) rfl bb 0 bs.toArray rfl rfl H4.out (by rw [hi56]; simp) (all_oneCell_toArray h1b) ?_
 go_wp2
 go_end0
 refine ⟨rfl, ?_, ?_⟩
 ·exact heap_setCells_whole (w := w.drew) H1.out (by simp [H2.out, H3.out])
 ·exact Upd.setCells (F := fun k => k = bb) rfl _ _ (Upd.refl _ w).drew
def Dk.callE (D : Dk) (i : Int) (wr : Bool) : Int :=
 if D.dead then 9 else if i < 0 ∨ (D.arr.length : Int) ≤ i then 2 else if wr = true ∧ D.arm = 0 then 9 else if D.fail = 0 then 8 else 0
def Dk.callD (D : Dk) (i : Int) (wr : Bool) : Dk :=
 if D.dead then D else if i < 0 ∨ (D.arr.length : Int) ≤ i then D else
 if wr = true ∧ D.arm = 0 then { D with fail := max (D.fail - 1) (-1), dead := true } else
 if D.fail = 0 then { D with fail := -1 } else
 { D with fail := max (D.fail - 1) (-1), ops := D.ops + 1, arm := if wr = true then max (D.arm - 1) (-1) else D.arm }
def Dk.callR (D : Dk) (i : Int) (wr : Bool) : Bool :=
 !D.dead && decide (¬ (i < 0 ∨ (D.arr.length : Int) ≤ i)) && (decide (wr = true ∧ D.arm = 0) || decide (D.fail ≠ 0))
def Dk.send (D : Dk) (i : Nat) (b : List Int) : Dk := { D with row := D.row ++ [(i, b, D.sent + 1)], sent := D.sent + 1 }
def Dk.write (D : Dk) (i : Int) (b : List Int) : Dk := if D.callR i true then (D.callD i true).send i.toNat b else D.callD i true
def bcells (b : List Int) : List Value := b.map (Value.int .u8)
theorem bcells_length (b : List Int) : (bcells b).length = b.length := by simp [bcells]
theorem bcells_one (b : List Int) : ∀ u ∈ bcells b, u.oneCell' = true := by
 intro u hu; simp [bcells] at hu; obtain ⟨x, _, rfl⟩ := hu; rfl
theorem vers_send_other (D : Dk) (i j : Nat) (b : List Int) (h : j ≠ i) : (D.send i b).vers j = D.vers j := by
 simp [Dk.send, Dk.vers, List.filter_append, Ne.symm h]
theorem vers_send_same (D : Dk) (i : Nat) (b : List Int) : (D.send i b).vers i = D.vers i ++ [(b, D.sent + 1)] := by
 simp [Dk.send, Dk.vers, List.filter_append]
theorem DiskAt.sent {w w' : World} {p s : Nat} {D : Dk} {g c : Nat → Nat} (h : DiskAt w p D s g c) {k : Nat} (hk : k < D.arr.length) {b : List Int} {g' cap' : Nat}
  (hp : w'.heap[p]? = some (mainObj s D.arr.length (D.sent + 1) D.ops D.arm D.fail D.dead))
  (hs : w'.heap[s]? = some (.cells ((((List.range D.arr.length).map fun i => Value.slice (some ⟨g i, 0, none⟩) (D.vers i).length (c i)).set k (.slice (some ⟨g', 0, none⟩) ((D.vers k).length + 1) cap')).toArray) 125 (0, 0)))
  (hr : w'.ownsRow 0 124 65 (.slice (some ⟨g', 0, none⟩) ((D.vers k).length + 1) cap') ((D.vers k).length + 1) ((D.vers k).flatMap vcells ++ (bcells b ++ [.int .i64 (D.sent + 1)])))
  (hg : g' = g k ∨ w.heap.size ≤ g') (hu : Upd (fun j => j = p ∨ j = s ∨ j = g k) w w') :
  DiskAt w' p (D.send k b) s (fun j => if j = k then g' else g j) (fun j => if j = k then cap' else c j) := by
 have lg : ∀ i, i < D.arr.length → g i < w.heap.size := fun i hi => by
  rcases (h.rows i hi).2 with ⟨h3, _⟩ | ⟨gg, cap, cur, hv, hb, hh, r⟩
  ·simp at h3
  ·simp at hv; rw [hv.1]; exact lt_of_heap hh
 have lp := lt_of_heap h.main
 have ls := lt_of_heap h.sec
 have hlen : (D.send k b).arr.length = D.arr.length := rfl
 refine ⟨hp, ?_, ?_, h.ps, ?_, ?_, ?_⟩
 ·rw [hs]
  congr 3
  apply List.ext_getElem
  ·simp [hlen]
  ·intro j h1 h2
   simp at h1
   by_cases hj : j = k
   ·subst hj; simp [vers_send_same]
   ·simp [hj, Ne.symm hj, vers_send_other _ _ _ _ hj]
 ·intro i hi
  rw [hlen] at hi
  by_cases hik : i = k
  ·subst hik
   rw [vers_send_same]
   simpa [vcells, bcells] using hr
  ·rw [vers_send_other _ _ _ _ hik]
   simp only [hik, if_false]
   obtain ⟨h1, h2⟩ := h.rows i hi
   refine ⟨h1, ?_⟩
   rcases h2 with ⟨h2, _⟩ | ⟨gg, cap, cur, hv, hb, hh, r⟩
   ·simp at h2
   ·refine .inr ⟨gg, cap, cur, hv, hb, ?_, r⟩
    simp at hv
    rw [← hv.1]
    rw [← hv.1] at hh
    refine (hu.block (g i) (lt_of_heap hh) ?_).trans hh
    rintro (e | e | e)
    ·exact h.gp i hi e
    ·exact h.gs i hi e
    ·exact hik (h.gg i k hi hk e)
 ·intro i hi
  by_cases hik : i = k
  ·subst hik; simp only [if_true]
   rcases hg with e | e
   ·rw [e]; exact h.gp i hi
   ·omega
  ·simp only [hik, if_false]; exact h.gp i hi
 ·intro i hi
  by_cases hik : i = k
  ·subst hik; simp only [if_true]
   rcases hg with e | e
   ·rw [e]; exact h.gs i hi
   ·omega
  ·simp only [hik, if_false]; exact h.gs i hi
 ·intro i j hi hj
  rw [hlen] at hi hj
  have li := lg i hi
  have lj := lg j hj
  by_cases hik : i = k <;> by_cases hjk : j = k
  ·intro _; omega
  ·simp only [hik, hjk, if_true, if_false]
   intro e
   rcases hg with e' | e'
   ·have := h.gg k j hk hj (by rw [← e', e]); omega
   ·omega
  ·simp only [hik, hjk, if_true, if_false]
   intro e
   rcases hg with e' | e'
   ·have := h.gg i k hi hk (by rw [e, e']); omega
   ·omega
  ·simp only [hik, hjk, if_false]; exact h.gg i j hi hj
theorem items_bytes (w : World) (d : Nat) (xs ys : List Int) : ∀ (is : List Nat), (∀ i ∈ is, i < xs.length ∧ i < ys.length) →
  (Op.eqItems (d + 1) 5 1 (bcells xs).toArray (bcells ys).toArray is).run Tryz.prog w = .ok (is.all fun i => xs.getD i 0 == ys.getD i 0) w
 | [], _ => by simp [Op.eqItems]
 |i :: is, hi => by
  obtain ⟨h1, h2⟩ := hi i List.mem_cons_self
  have ih := items_bytes w d xs ys is (fun j hj => hi j (List.mem_cons_of_mem _ hj))
  have p1 : (part 5 (bcells xs).toArray (i * 1)).run Tryz.prog w = .ok (.int .u8 (xs.getD i 0)) w := run_part_plain w (by kernel_rfl) (by simp [bcells, h1, List.getD_eq_getElem?_getD])
  have p2 : (part 5 (bcells ys).toArray (i * 1)).run Tryz.prog w = .ok (.int .u8 (ys.getD i 0)) w := run_part_plain w (by kernel_rfl) (by simp [bcells, h2, List.getD_eq_getElem?_getD])
  have p3 := run_equalIn_int (P := Tryz.prog) w d 5 .u8 .u8 (xs.getD i 0) (ys.getD i 0) Tryz.underlying5
  simp only [Op.eqItems, Sem.run_bind, p1, p2, p3, Result.andThen_ok, List.all_cons]
  cases hb : (xs.getD i 0 == ys.getD i 0)
  ·simp
  ·simpa using ih
theorem all_eq {xs ys : List Int} {n : Nat} (hx : xs.length = n) (hy : ys.length = n) : ((List.range n).all fun i => xs.getD i 0 == ys.getD i 0) = (xs == ys) := by
 rw [Bool.eq_iff_iff]
 simp only [List.all_eq_true, List.mem_range, beq_iff_eq]
 constructor
 ·intro h
  apply List.ext_getElem (by rw [hx, hy])
  intro i h1 h2
  have := h i (by omega)
  simpa [List.getD_eq_getElem?_getD, h1, h2] using this
 ·rintro rfl i _; rfl
theorem eq_bytes (w : World) {xs ys : List Int} (hx : xs.length = 64) (hy : ys.length = 64) : (Op.equalIn 10000 48 (.agg (bcells xs).toArray) (.agg (bcells ys).toArray)).run Tryz.prog w = .ok (xs == ys) w := by
 obtain ⟨i, hi⟩ : ∃ i, Tryz.prog.info? 5 = some i := Option.isSome_iff_exists.1 (by kernel_rfl)
 rw [run_equalIn_array (P := Tryz.prog) w 9999 (n := 64) (e := 5) _ _ Tryz.underlying48 hi, show Tryz.prog.cellsOf 5 = 1 by kernel_rfl, items_bytes w 9998 xs ys _ (fun j hj => by have := List.mem_range.1 hj; omega), all_eq hx hy]
theorem neq_bytes (w : World) {xs ys : List Int} (hx : xs.length = 64) (hy : ys.length = 64) : (binOp .neq 48 (.agg (bcells xs).toArray) (.agg (bcells ys).toArray)).run Tryz.prog w = .ok (.bool (!(xs == ys))) w := by
 rw [run_neq_struct, eq_bytes w hx hy]
 rfl
theorem run_exec_neq {o : Oper} {a : Act} {w : World} {x y : Operand} {rt : TypeId} {xs ys : Array Value} {v : Value} (ho : o.op = .binOp .neq 48 x y rt) (hx : a.eval x = .agg xs) (hy : a.eval y = .agg ys)
  (hr : (binOp .neq 48 (.agg xs) (.agg ys)).run Tryz.prog w = .ok v w) : (execOp a.eval o).run Tryz.prog w = .ok (.value v) w := by
 have hg := run_eqGuard_agg (P := Tryz.prog) w .neq 48 x y xs ys (by kernel_rfl)
 simp [execOp, ho, hx, hy, hg, hr, Result.andThen]
end
end Go.Proofs.YtbimkhdiplnbfaaGreat
