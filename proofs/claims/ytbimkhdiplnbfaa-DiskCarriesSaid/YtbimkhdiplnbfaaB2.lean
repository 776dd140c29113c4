/- Walks of the disk: Write$1. -/
import Derived.Test.YtbimkhdiplnbfaaA4
import Derived.Test.YtbimkhdiplnbfaaB1
import Derived.Test.YtbimkhdiplnbfaaR0
namespace Go.Proofs.Ytbimkhdiplnbfaa
open Go.RowKit

theorem Try.info130p : (Try.prog.info? 130).map (fun i => (i.zero, i.size, i.bytes)) = some (some (.agg Z130), 65, 72) := by kernel_rfl
theorem Try.info56p : (Try.prog.info? 56).map (·.size) = some 64 := by kernel_rfl

theorem rangeAt_block {w : World} {b : Nat} {cs : List Value} {t : TypeId} (h : w.heap[b]? = some (.cells cs.toArray t (0, 0))) : w.rangeAt b 0 cs := by
  intro j v hv
  simp [World.cell?, h, hv]

theorem run_load_mid {P : Program} {o : Oper} {a : Act} {w : World} {b : Nat} {ty : TypeId} {x : Operand} {d : TypeDesc} (ho : o.op = .load ty x) (hx : a.eval x = .pointer (some ⟨b, 0, none⟩)) (cs : List Value) (hc : w.rangeAt b 0 cs)
    (hu : P.underlying ty = some d) (hd : d.isRow = true) (hi : (P.info? ty).map (·.size) = some cs.length) : (execOp a.eval o).run P w = .ok (.value (.agg cs.toArray)) w := by
  unfold execOp
  simp only [ho, hx, Instr.loadAt, Instr.sureAddr, Sem.run_bind, Sem.run_pure, Result.andThen_ok, run_loadVar_mid w b 0 ty cs d hc hu hd hi]

theorem run_exec_build {P : Program} {o : Oper} {a : Act} {w : World} {ty : TypeId} {v : Value} {ps : Array (Nat × Value)} {qs : Array (Nat × Operand)} (h : (Instr.build ty ps).run P w = .ok v w) (ho : o.op = .build ty qs := by rfl) (hq : qs.map (fun x => (x.1, a.eval x.2)) = ps := by rfl) :
    (execOp a.eval o).run P w = .ok (.value v) w := by
  subst hq
  unfold execOp
  simp only [ho]
  simp [h]

theorem run_exec_buildSlice {P : Program} {o : Oper} {a : Act} {w w' : World} {ty : TypeId} {v : Value} {n : Nat} {ps : Array (Nat × Value)} {qs : Array (Nat × Operand)} (h : (Instr.buildSlice ty n ps).run P w = .ok v w') (ho : o.op = .buildSlice ty n qs) (hq : qs.map (fun x => (x.1, a.eval x.2)) = ps) :
    (execOp a.eval o).run P w = .ok (.value v) w' := by
  subst hq
  unfold execOp
  simp only [ho]
  simp [h]

theorem keepa {W : World} {a : Addr} {v : Value} {o : Obj} (h : W.cell? a = some v) : (W.alloc o).cell? a = some v :=
  (World.cell?_alloc_lt _ _ _ (World.block_lt_of_cell? W a h)).trans h

theorem wp_exec {P : Program} {o : Oper} {a : Act} {w w' : World} {v : Value} {K : Act → World → Prop} {Q : Exit → Act → World → Prop} (h : (execOp a.eval o).run P w = .ok (.value v) w') (hK : K (a.put o.dst v) w') : o.wp P a w K Q := by
  unfold Oper.wp
  rw [h]
  exact hK

theorem Z130_cells : (Value.agg Z130).cells.size = 65 := by simp [Value.cells, Z130_size]

theorem Upd.grown1 {p : Nat} {w w' : World} (h : Upd (fun k => k = p) w w') : w.grownBy w' (some p) :=
  ⟨h.os, h.tape, h.output, h.size, fun k hk hn => h.block k hk (fun e => hn (by rw [e]))⟩

set_option maxRecDepth 20000 in
set_option maxHeartbeats 4000000 in
theorem sends_run {p s n k bd bb g cap m : Nat} {sent ops arm fail : Int} {dead : Bool} {bs xs : List Value} {secs : List Value} (w : World)
    (hm : w.heap[p]? = some (mainObj s n sent ops arm fail dead)) (hs : w.heap[s]? = some (.cells secs.toArray 131 (0, 0))) (hsk : secs[k]? = some (.slice (some ⟨g, 0, none⟩) m cap))
    (hr : w.ownsRow 0 130 65 (.slice (some ⟨g, 0, none⟩) m cap) m xs)
    (hd : w.heap[bd]? = some (.cells #[.pointer (some ⟨p, 0, none⟩)] 25 (0, 0))) (hb : w.heap[bb]? = some (.cells bs.toArray 56 (0, 0))) (hbl : bs.length = 64) (h1b : ∀ u ∈ bs, u.oneCell' = true)
    (hm1 : m + 1 ≤ 1099511627776) (hsent : 0 ≤ sent ∧ sent ≤ 1099511627776)
    (h1 : p ≠ s) (h2 : g ≠ p) (h3 : g ≠ s) (h4 : bd ≠ p) (h5 : bd ≠ s) (h6 : bd ≠ g) (h7 : bb ≠ p) (h8 : bb ≠ s) (h9 : bb ≠ g) :
    Calls Try.prog 81 #[.pointer (some ⟨s, k, none⟩), .pointer (some ⟨bd, 0, none⟩), .pointer (some ⟨bb, 0, none⟩)] w fun e w' => e = .returned (.tuple #[]) ∧
      ∃ g' cap', w'.heap[p]? = some (mainObj s n (sent + 1) ops arm fail dead) ∧ w'.heap[s]? = some (.cells (secs.set k (.slice (some ⟨g', 0, none⟩) (m + 1) cap')).toArray 131 (0, 0)) ∧
        w'.ownsRow 0 130 65 (.slice (some ⟨g', 0, none⟩) (m + 1) cap') (m + 1) (xs ++ (bs ++ [.int .i64 (sent + 1)])) ∧ (g' = g ∨ w.heap.size ≤ g') ∧ Upd (fun k => k = p ∨ k = s ∨ k = g) w w' := by
  obtain ⟨hsent1, hsent2⟩ := hsent
  have lp := lt_of_heap hm
  have ls := lt_of_heap hs
  have ld := lt_of_heap hd
  have lb := lt_of_heap hb
  have cp := cells6_of hm
  have fp : ∀ k, w.frozen? ⟨p, k, none⟩ = false := fun k => frozen_of_heap hm
  have cd := cells1_of hd
  have H1 := Lib.hid hm; have H2 := Lib.hid hs; have H3 := Lib.hid hd; have H4 := Lib.hid hb; have H5 := Lib.hid hr; have H6 := Lib.hid hsk; have H7 := Lib.hid hbl
  clear hm hs hd hb hr hsk hbl
  go_enter Try.func81, Try.ntmps81
  go_wp2_with fail
  have m1 : (w.setCell ⟨p, 1, none⟩ (.int .i64 (sent + 1))).heap[p]? = some (mainObj s n (sent + 1) ops arm fail dead) := blk_set H1.out
  have U1 : Upd (fun k => k = p ∨ k = s ∨ k = g) w (w.setCell ⟨p, 1, none⟩ (.int .i64 (sent + 1))) := (upd_own w p 1 _).mono (fun k _ hk => .inl hk)
  have s1 := (set_ne (w := w) (a := ⟨p, 1, none⟩) (u := .int .i64 (sent + 1)) (k := s) (fun e => h1 e.symm)).trans H2.out
  have d1 := (set_ne (w := w) (a := ⟨p, 1, none⟩) (u := .int .i64 (sent + 1)) (k := bd) h4).trans H3.out
  have b1 := (set_ne (w := w) (a := ⟨p, 1, none⟩) (u := .int .i64 (sent + 1)) (k := bb) h7).trans H4.out
  have r1 := H5.out.kept (Upd.grown1 (upd_own w p 1 (.int .i64 (sent + 1)))) (.inr (by simp [Value.ownBlock, h2]))
  have z1 : w.heap.size = (w.setCell ⟨p, 1, none⟩ (.int .i64 (sent + 1))).heap.size := by simp [World.setCell]
  generalize w.setCell ⟨p, 1, none⟩ (.int .i64 (sent + 1)) = W at *
  have c0 : W.cell? ⟨s, k, none⟩ = some (.slice (some ⟨g, 0, none⟩) m cap) := by rw [cell_of_heap s1]; simp [H6.out]
  have c1 := cells1_of d1
  have c2 := (cells6_of m1).2.1
  have f0 : W.frozen? ⟨s, k, none⟩ = false := frozen_of_heap s1
  have hrng : W.drew.rangeAt bb 0 bs := rangeAt_block (w := W.drew) b1
  have hu56 := Try.underlying56
  have hi56 : (Try.prog.info? 56).map (·.size) = some bs.length := by rw [Try.info56p, H7.out]
  have M1 := Lib.hid m1; have S1 := Lib.hid s1; have D1 := Lib.hid d1; have B1 := Lib.hid b1; have R1 := Lib.hid r1; have Z1 := Lib.hid z1
  have lp1 := lt_of_heap m1; have ls1 := lt_of_heap s1; have ld1 := lt_of_heap d1
  clear m1 s1 d1 b1 r1 z1 cp fp cd
  have HB := fun w => run_build130 bs (sent + 1) w H7.out
  have HS := fun w => run_buildSlice131 (bs ++ [Value.int .i64 (sent + 1)]) w (by simp [H7.out])
  obtain ⟨i0, hi0, hz0, hz1, hz2⟩ := info_parts Try.info130p
  have hA : W.drew.cell? ⟨s, k, none⟩ = some (.slice (some ⟨g, 0, none⟩) m cap) ∧ W.drew.rangeAt bb 0 bs ∧ W.drew.cell? ⟨bd, 0, none⟩ = some (.pointer (some ⟨p, 0, none⟩)) ∧ W.drew.cell? ⟨p, 1, none⟩ = some (.int .i64 (sent + 1)) := ⟨c0, hrng, c1, c2⟩
  refine wp_region_G 12 (fun W' => W'.cell? ⟨s, k, none⟩ = some (.slice (some ⟨g, 0, none⟩) m cap) ∧ W'.rangeAt bb 0 bs ∧ W'.cell? ⟨bd, 0, none⟩ = some (.pointer (some ⟨p, 0, none⟩)) ∧ W'.cell? ⟨p, 1, none⟩ = some (.int .i64 (sent + 1))) [false, false, false, false, false, false, false, false, false, false, false, false, false, false] rfl (by kernel_rfl) ?_
  refine wpG_take (i := 0) (v := .pointer (some ⟨s, k, none⟩)) rfl (by kernel_rfl) (fun _ _ _ h => h) hA (.inl ⟨rfl, fun w ⟨q1, q2, q3, q4⟩ => ?_⟩) ?_
  · go_simp
  simp only [Act.put, List.setIfInBounds_toArray, List.set]
  refine wpG_take (i := 1) (v := .pointer (some ⟨s, k, none⟩)) rfl (by kernel_rfl) (fun _ _ _ h => h) hA (.inl ⟨rfl, fun w ⟨q1, q2, q3, q4⟩ => ?_⟩) ?_
  · go_simp
  simp only [Act.put, List.setIfInBounds_toArray, List.set]
  refine wpG_take (i := 2) (v := .pointer (some ⟨s, k, none⟩)) rfl (by kernel_rfl) (fun _ _ _ h => h) hA (.inl ⟨rfl, fun w ⟨q1, q2, q3, q4⟩ => ?_⟩) ?_
  · go_simp
  simp only [Act.put, List.setIfInBounds_toArray, List.set]
  refine wpG_take (i := 3) (v := .slice (some ⟨g, 0, none⟩) m cap) rfl (by kernel_rfl) (fun _ _ _ h => h) hA (.inl ⟨rfl, fun w ⟨q1, q2, q3, q4⟩ => ?_⟩) ?_
  · go_simp
  simp only [Act.put, List.setIfInBounds_toArray, List.set]
  refine wpG_take (i := 4) (v := .agg bs.toArray) rfl (by kernel_rfl) (fun _ _ _ h => h) hA (.inl ⟨rfl, fun w ⟨q1, q2, q3, q4⟩ => ?_⟩) ?_
  · exact run_load_mid rfl rfl bs q2 hu56 rfl hi56
  simp only [Act.put, List.setIfInBounds_toArray, List.set]
  refine wpG_take (i := 5) (v := .pointer (some ⟨p, 0, none⟩)) rfl (by kernel_rfl) (fun _ _ _ h => h) hA (.inl ⟨rfl, fun w ⟨q1, q2, q3, q4⟩ => ?_⟩) ?_
  · go_simp
  simp only [Act.put, List.setIfInBounds_toArray, List.set]
  refine wpG_take (i := 6) (v := .pointer (some ⟨p, 0, none⟩)) rfl (by kernel_rfl) (fun _ _ _ h => h) hA (.inl ⟨rfl, fun w ⟨q1, q2, q3, q4⟩ => ?_⟩) ?_
  · go_simp
  simp only [Act.put, List.setIfInBounds_toArray, List.set]
  refine wpG_take (i := 7) (v := .pointer (some ⟨p, 1, none⟩)) rfl (by kernel_rfl) (fun _ _ _ h => h) hA (.inl ⟨rfl, fun w ⟨q1, q2, q3, q4⟩ => ?_⟩) ?_
  · go_simp
  simp only [Act.put, List.setIfInBounds_toArray, List.set]
  refine wpG_take (i := 8) (v := .int .i64 (sent + 1)) rfl (by kernel_rfl) (fun _ _ _ h => h) hA (.inl ⟨rfl, fun w ⟨q1, q2, q3, q4⟩ => ?_⟩) ?_
  · go_simp
  simp only [Act.put, List.setIfInBounds_toArray, List.set]
  refine wpG_take (i := 9) (v := .agg (bs ++ [Value.int .i64 (sent + 1)]).toArray) rfl (by kernel_rfl) (fun _ _ _ h => h) hA (.inl ⟨rfl, fun w ⟨q1, q2, q3, q4⟩ => ?_⟩) ?_
  · exact run_exec_build (HB w) rfl (by simp [Act.eval])
  simp only [Act.put, List.setIfInBounds_toArray, List.set]
  refine wpG_do (i := 10) rfl (by kernel_rfl) rfl (fun K hK => ?_)
  refine wp_exec (v := .slice (some ⟨W.heap.size, 0, none⟩) 1 1) (w' := W.drew.alloc (.cells (bs ++ [Value.int .i64 (sent + 1)]).toArray 130)) (run_exec_buildSlice (HS W.drew) rfl (by simp [Act.eval])) ?_
  have hA1 : (W.drew.alloc (.cells (bs ++ [Value.int .i64 (sent + 1)]).toArray 130)).cell? ⟨s, k, none⟩ = some (.slice (some ⟨g, 0, none⟩) m cap) := keepa (W := W.drew) c0
  refine hK _ _ ⟨hA1, World.rangeAt_alloc hrng _, keepa (W := W.drew) c1, keepa (W := W.drew) c2⟩ ?_
  simp only [Act.put, List.setIfInBounds_toArray, List.set]
  refine wpG_do (i := 11) rfl (by kernel_rfl) rfl (fun K hK => ?_)
  refine wp_append_lies _ (.tmp 14) (.tmp 21) 131 rfl 0 130 i0 (.agg Z130) 65 72 Try.underlying131 hi0 hz0 hz1 hz2 Z130_cells (by omega) (.slice (some ⟨g, 0, none⟩) m cap) m xs rfl (R1.out.alloc _) ⟨W.heap.size, 0, none⟩ 1 1 (bs ++ [Value.int .i64 (sent + 1)]) rfl (by simp [H7.out]) (World.news_of_block (cs := (bs ++ [Value.int .i64 (sent + 1)]).toArray) (t := 130) (fr := (0, 0)) (heap_alloc_new _ _)) ?_ (by omega) (by unfold maxLen; omega) (by omega) (by simp) (W.heap.size + 1) (by simp) ?_
  · intro u hu
    rcases List.mem_append.1 hu with hu | hu
    · exact h1b u hu
    · simp at hu; subst hu; rfl
  intro gg cap' w1 hown1 hgrow hat hlt
  have hk : ∀ b, b < W.heap.size → b ≠ g → w1.heap[b]? = W.heap[b]? := fun b hb hn => (hgrow.block b (by simp; omega) (by simp [Value.ownBlock, hn])).trans (alloc_lt (w := W.drew) hb)
  have hs1 := (hk s ls1 (fun e => h3 e.symm)).trans S1.out
  have hp1 := (hk p lp1 (fun e => h2 e.symm)).trans M1.out
  have hd1 := (hk bd ld1 h6).trans D1.out
  have c0' : w1.cell? ⟨s, k, none⟩ = some (.slice (some ⟨g, 0, none⟩) m cap) := by rw [cell_of_heap hs1]; simp [H6.out]
  have f0' : w1.frozen? ⟨s, k, none⟩ = false := frozen_of_heap hs1
  refine hK _ _ ⟨c0', rangeAt_block ((hk bb (lt_of_heap B1.out) h9).trans B1.out), cells1_of hd1, (cells6_of hp1).2.1⟩ ?_
  simp only [Act.put, List.setIfInBounds_toArray, List.set]
  refine wpG_tail_lit (k := 12) rfl rfl (by kernel_rfl) ?_
  have HS1 := Lib.hid hs1; have HP1 := Lib.hid hp1; have HO := Lib.hid hown1; have HG := Lib.hid hgrow
  clear hs1 hp1 hd1 hk hown1 hgrow HB HS
  simp only [List.drop]
  go_wp2
  go_end0
  have hgg : gg = g ∨ gg = W.heap.size + 1 := by
    rcases hat with hat | hat
    · simp [Value.ownBlock] at hat; exact .inl hat.symm
    · exact .inr hat
  have hgs : gg ≠ s := by rcases hgg with e | e <;> omega
  refine ⟨rfl, gg, cap', (set_ne h1).trans HP1.out, ?_, ?_, ?_, ?_⟩
  · have := blk_set (i := k) (v := .slice (some ⟨gg, 0, none⟩) (m + 1) cap') HS1.out
    simpa using this
  · exact HO.out.kept (Upd.grown1 (upd_own w1 s k _)) (.inr (by simp [Value.ownBlock, hgs]))
  · rcases hgg with e | e
    · exact .inl e
    · right; rw [e, Z1.out]; omega
  · refine Upd.setCell ((((U1.drew).alloc _).step (Upd.of_grown (F := fun k => k = g) HG.out (fun k hk => by simp [Value.ownBlock] at hk; exact hk.symm)) (fun k _ hk => .inr (.inr hk)))) (.inl (.inr (.inl rfl))) _

end Go.Proofs.Ytbimkhdiplnbfaa
