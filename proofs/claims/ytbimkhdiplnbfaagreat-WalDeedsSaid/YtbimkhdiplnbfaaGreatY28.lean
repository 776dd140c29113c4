/- The disk: what holds between two rounds of Crash. -/
import Derived.Test.YtbimkhdiplnbfaaGreatY5
import Derived.Test.YtbimkhdiplnbfaaGreatY12
import Derived.Test.YtbimkhdiplnbfaaGreatY14
import Derived.Test.YtbimkhdiplnbfaaGreatY15
import Derived.Maps.OwnIn
set_option linter.unusedVariables false
set_option linter.unusedSimpArgs false
namespace Go.Proofs.YtbimkhdiplnbfaaGreat
set_option maxRecDepth 1000000
set_option maxHeartbeats 16000000
section
open Go.RowKit Go.Shelf
structure CrAt (w w1 : World) (kv : Value) (keep : List Bool) (pre : List El) (W : World) : Prop where
 upd : Upd (fun _ => False) w W
 size : w1.heap.size ≤ W.heap.size
 ck : W.heap[w.heap.size]? = some (.cells #[kv] 40 (0, 0))
 map : W.ownsMap Tryz.prog 3 (plainElem Tryz.prog 4) (w.heap.size + 1) pre.length (kmap keep 0 (.map []) pre)
 cm : W.heap[w.heap.size + 2]? = some (.cells #[.map (some (w.heap.size + 1))] 138 (0, 0))
 cn : W.heap[w.heap.size + 3]? = some (.cells #[.int .i64 pre.length] 3 (0, 0))
theorem CrAt.kept {w w1 W W' : World} {kv : Value} {keep : List Bool} {pre : List El} {row : Option Nat} (h : CrAt w w1 kv keep pre W) (hw : w.heap.size + 3 < w1.heap.size) (hg : W.grownBy W' row) (hr : ∀ r, row = some r → w1.heap.size ≤ r) : CrAt w w1 kv keep pre W' := by
 have hb : ∀ k, k < w.heap.size + 4 → W'.heap[k]? = W.heap[k]? := fun k hk =>
  hg.block k (Nat.lt_of_lt_of_le (by omega) h.size) (fun e => by have := hr _ e.symm; omega)
 refine ⟨h.upd.step (Upd.of_grown (F := fun j => w1.heap.size ≤ j) hg (fun k hk => hr k hk)) (fun j hj e => by omega), Nat.le_trans h.size hg.size, (hb _ (by omega)).trans h.ck, h.map.kept hg (fun e => by have := hr _ e.symm; omega), (hb _ (by omega)).trans h.cm, (hb _ (by omega)).trans h.cn⟩
theorem CrAt.step {w w1 W W4 : World} {kv : Value} {keep : List Bool} {pre : List El} {x : El} (h : CrAt w w1 kv keep pre W) (hw : w.heap.size + 3 < w1.heap.size)
  (hm : W4.ownsMap Tryz.prog 3 (plainElem Tryz.prog 4) (w.heap.size + 1) (pre.length + 1) ((kmap keep 0 (.map []) pre).put (.int .i64 x.1.2.2) (.lit (.bool (keep.getD pre.length false))))) (hg : W.grownBy W4 (some (w.heap.size + 1))) :
  CrAt w w1 kv keep (pre ++ [x]) (W4.setCell ⟨w.heap.size + 3, 0, none⟩ (.int .i64 (pre.length + 1 : Nat))) := by
 have hb : ∀ k, k < w.heap.size + 4 → k ≠ w.heap.size + 1 → W4.heap[k]? = W.heap[k]? := fun k hk hne =>
  hg.block k (Nat.lt_of_lt_of_le (by omega) h.size) (fun e => hne (Option.some.inj e))
 have hu : Upd (fun j => w.heap.size ≤ j) w W4 := (h.upd.mono (G := fun j => w.heap.size ≤ j) (fun _ _ e => e.elim)).step (Upd.of_grown (F := fun j => w.heap.size ≤ j) hg (fun k hk => by have := Option.some.inj hk; omega)) (fun _ _ e => e)
 refine ⟨?_, ?_, ?_, ?_, ?_, ?_⟩
 ·exact (hu.setCell (p := ⟨w.heap.size + 3, 0, none⟩) (.inl (by show w.heap.size ≤ w.heap.size + 3; omega)) _).mono (fun j hj e => by omega)
 ·have h1 := hg.size
  have h2 := h.size
  simp [World.setCell]; omega
 ·rw [set_ne (by simp)]; exact (hb _ (by omega) (by omega)).trans h.ck
 ·have := hm.kept (Upd.grown1 (upd_own W4 (w.heap.size + 3) 0 (.int .i64 (pre.length + 1 : Nat)))) (by simp)
  rw [kmap_snoc]
  simpa using this
 ·rw [set_ne (by simp)]; exact (hb _ (by omega) (by omega)).trans h.cm
 ·have := blk_set (i := 0) (v := .int .i64 (pre.length + 1 : Nat)) ((hb (w.heap.size + 3) (by omega) (by omega)).trans h.cn)
  simpa using this
attribute [local go_sem] Oper.semAt_some
def BoolsAt (w : World) (ka : Option Addr) (keep : List Bool) : Prop := ∀ i b, keep[i]? = some b → ∃ kb ko, ka = some ⟨kb, ko, none⟩ ∧ kb < w.heap.size ∧ w.cell? ⟨kb, ko + i, none⟩ = some (.bool b)
theorem BoolsAt.kept {w w' : World} {ka : Option Addr} {keep : List Bool} {F : Nat → Prop} (h : BoolsAt w ka keep) (hu : Upd F w w') (hF : ∀ a, ka = some a → ¬ F a.block) : BoolsAt w' ka keep := fun i b hb => by
 obtain ⟨kb, ko, h1, h2, h3⟩ := h i b hb
 refine ⟨kb, ko, h1, Nat.lt_of_lt_of_le h2 hu.size, ?_⟩
 rw [← h3]
 simp only [World.cell?]
 rw [hu.block kb h2 (hF _ h1)]
theorem putKeep {w : World} {S : Nat → Prop} (hS : ∀ k, S k → k < w.heap.size) (W : World) (l : Nat) (o o' : Obj) (hl : w.heap.size ≤ l) (_ : W.heap[l]? = some o) (_ : o.isCells = false) (_ : o.isWalk = false) : Keep S W (W.putObj l o') := fun k hk => by
 have h1 := hS k hk
 have h2 : ¬ l = k := by omega
 simp [World.putObj, h2]
theorem run_mapUp {P : Program} {o : Oper} {a : Act} {w w' : World} {t : TypeId} {m x v : Operand} {mv xv vv : Value} (ho : o.op = .mapUpdate t m x v) (hm : a.eval m = mv) (hx : a.eval x = xv) (hv : a.eval v = vv) (hr : (Instr.mapUpdate t mv xv vv).run P w = .ok () w') :
  (execOp a.eval o).run P w = .ok .skip w' := by
 subst hm hx hv
 simp [execOp, ho, hr, Result.andThen]
theorem CrAt.start {w w' : World} {kv : Value} {keep : List Bool} (hu : Upd (fun _ => False) ((((w.alloc (.cells #[kv] 40)).alloc (.map #[] 0)).alloc (.cells #[.map (some (w.heap.size + 1))] 138)).alloc (.cells #[.int .i64 0] 3)) w') : CrAt w w' kv keep [] w' := by
 have hm := World.ownsMap_made (H := Empty) (w.alloc (.cells #[kv] 40)) Tryz.prog 3 (plainElem Tryz.prog 4)
 rw [World.size_alloc] at hm
 have hm2 := (hm.alloc (.cells #[.map (some (w.heap.size + 1))] 138)).alloc (.cells #[.int .i64 0] 3)
 refine ⟨((((((Upd.refl _ w).alloc _).alloc _).alloc _).alloc _)).trans hu, Nat.le_refl _, ?_, hm2.kept (row := none) ⟨hu.os, hu.tape, hu.output, hu.size, fun j hj _ => hu.block j hj (fun e => e)⟩ (by simp), ?_, ?_⟩
 ·refine (hu.block _ (by simp; omega) (fun e => e)).trans ?_
  exact (alloc_lt (by simp; omega)).trans ((alloc_lt (by simp; omega)).trans ((alloc_lt (by simp)).trans (alloc_at rfl)))
 ·refine (hu.block _ (by simp) (fun e => e)).trans ?_
  exact (alloc_lt (by simp)).trans (alloc_at (by simp))
 ·refine (hu.block _ (by simp) (fun e => e)).trans ?_
  exact alloc_at (by simp)
theorem crash_run {p : Nat} {D : Dk} {F : Nat → Prop} (w : World) (ka : Option Addr) (kc : Nat) (keep : List Bool) (R : List El) (hk : BoolsAt w ka keep) (hkl : keep.length ≤ 1099511627776) (h : Dsk w p D F) (hok : D.Ok 1099511627774) (hR : R.map (·.1) = D.row)
  (hlen : R.length ≤ 1099511627774)
  (hrow : ∀ W, Upd (fun _ => False) w W → Calls Tryz.prog 76 #[.pointer (some ⟨p, 0, none⟩)] W fun e w' => e = .returned (.func (.func 141) #[] #[.pointer (some ⟨W.heap.size, 0, none⟩)]) ∧ ∃ v, RowT W w' W.heap.size R v) :
  Calls Tryz.prog 16 #[.pointer (some ⟨p, 0, none⟩), .slice ka keep.length kc] w fun e w' => e = .returned (.int .i64 0) ∧ Left w p (D.crash keep) F w' := by
 have HR := Lib.hid hrow
 have HK := Lib.hid hk
 have HD := Lib.hid h
 have HO := Lib.hid hok
 clear hrow hk h hok
 have hmm : ∀ w, (Instr.makeMap 138 none).run Tryz.prog w = .ok (.map (some w.heap.size)) (w.alloc (.map #[] 0)) := fun _ => rfl
 refine (callsIn_wide (n := 3)).1 ?_
 refine callsIn_of_wp_marks Tryz.func16 rfl trivial ?_ rfl
 simp only [Tryz.ntmps16, List.size_toArray, List.length_cons, List.length_nil, Nat.reduceAdd, Nat.reduceSub, Array.replicate_succ, Array.replicate_zero, List.push_toArray, List.append_toArray, List.nil_append, List.cons_append]
 gi_wp2_with (refine ⟨trivial, ?_⟩; gi_at_call 76; refine (callsIn_wide.2 (HR.out _ (((((Upd.refl _ w).alloc _).alloc _).alloc _).alloc _))).mono ?_; rintro e w' ⟨rfl, v, hv⟩)
 clear hmm
 have hsz : w.heap.size + 4 < w'.heap.size := by have := lt_of_heap hv.cell; simp at this; omega
 have hCR := CrAt.start (kv := .slice ka keep.length kc) (keep := keep) hv.upd
 have HV := Lib.hid hv
 have HC0 := Lib.hid hCR
 have hlt : ∀ k, v.ownBlock = some k → w.heap.size + 4 ≤ k ∧ k < w'.heap.size := fun k hk => by
  rcases hv.row with ⟨rfl, _⟩ | ⟨gg, cap, rfl, h1, hg, _⟩
  ·simp [Value.ownBlock] at hk
  ·simp [Value.ownBlock] at hk; simp at h1; omega
 have hS : ∀ k, (k = w.heap.size + 4 ∨ v.ownBlock = some k) → w.heap.size + 4 ≤ k ∧ k < w'.heap.size := fun k hk => hk.elim (fun e => by omega) (hlt k)
 have hrow2 : (v = .slice none 0 0 ∧ R = []) ∨ ∃ gg cap, v = .slice (some ⟨gg, 0, none⟩) R.length cap ∧ (gg = w.heap.size + 4 ∨ v.ownBlock = some gg) ∧ ∀ i x, R[i]? = some x → w'.rangeAt gg (i * 66) (encE x) := by
  rcases hv.row with ⟨h1, h2⟩ | ⟨gg, cap, h1, _, _, h2⟩
  ·exact .inl ⟨h1, h2⟩
  ·exact .inr ⟨gg, cap, h1, .inr (by rw [h1]; rfl), h2⟩
 have hcell : w'.cell? ⟨w.heap.size + 4, 0, none⟩ = some v := by
  have := hv.cell
  simp only [World.size_alloc] at this
  exact cells1_of this
 have HS := Lib.hid hS
 clear hv hCR hlt
 refine wpIn_rangeFunc_ownH rfl (by omega) (gf := 141) (lb := #[.pointer (some ⟨w.heap.size + 4, 0, none⟩)]) rfl trivial (enters_of Tryz.func141 (by kernel_rfl) rfl)
  (row_stops Fence.wide (3 - 1) trivial rfl (by omega) (w.heap.size + 4) (fun k => k = w.heap.size + 4 ∨ v.ownBlock = some k) v R (by omega) w' (fun k hk => (hS k hk).2) (by omega) hcell hrow2)
  (fun h k => h.trans k) (putKeep (fun k hk => (hS k hk).2)) (Below.refl _ _) (fun _ => rfl)
  (fun pre W => CrAt w w' (.slice ka keep.length kc) keep pre W) (fun _ _ _ => False) ?hI (fun _ _ _ _ _ hs _ _ => hs) HC0.out
  (fun x a' W => ∃ Bx, w'.heap.size ≤ Bx ∧ W.heap[Bx]? = some (.cells (vcells x.1.2).toArray 124 (0, 0)) ∧ a' = { tmps := #[.pointer (some ⟨p, 0, none⟩), .slice ka keep.length kc, undef, .pointer (some ⟨w.heap.size, 0, none⟩), .int .i64 0, .pointer (some ⟨w.heap.size + 1 + 1, 0, none⟩), .pointer (some ⟨w.heap.size + 1 + 1 + 1, 0, none⟩), undef, .pointer (some ⟨Bx, 0, none⟩), .pointer (some ⟨p, 0, none⟩), .bool false, .map (some (w.heap.size + 1)), .pointer (some ⟨p, 0, none⟩), .func (.func 141) #[] #[.pointer (some ⟨w.heap.size + 1 + 1 + 1 + 1, 0, none⟩)], .int .i64 x.1.1, .agg (vcells x.1.2).toArray, undef, undef, undef, undef, undef, undef, undef, undef, undef, undef, undef, undef, undef, undef, undef, undef, undef, undef, undef, undef, undef, undef, undef, undef, undef, undef, undef], defers := [] }) ?hAx ?assign ?body ?done ?stop
 case hI =>
  rintro pre W W' row hs hg hr
  exact hs.kept (by omega) hg (fun r e => (hr r e).1)
 case hAx =>
  rintro x a' _ W W' row ⟨Bx, h1, h2, h3⟩ hg hr
  refine ⟨Bx, h1, (hg.block Bx (lt_of_heap h2) (fun e => ?_)).trans h2, h3⟩
  obtain ⟨_, o, ho, hc⟩ := hr Bx e.symm
  rw [h2] at ho
  cases ho
  cases hc
 case assign =>
  intro l pre x W K hs hK
  clear hrow2 hcell hS
  have hxl := vcells_length x.2.1
  have HXL := Lib.hid hxl
  have HCS := Lib.hid hs
  have HKK := Lib.hid hK
  have hi : (Tryz.prog.info? 124).map (·.size) = some (vcells x.1.2).length := by rw [Tryz.size124, hxl]
  have HI := Lib.hid hi
  clear hxl hs hK hi
  iterate 5 gi_step
  have hblk : (W.alloc (.cells Tryz.zeroCells124 124)).heap[W.heap.size]? = some (.cells Tryz.zeroCells124 124 (0, 0)) := alloc_at rfl
  have hth : (W.alloc (.cells Tryz.zeroCells124 124)).there W.heap.size 0 (vcells x.1.2).toArray.size := by
   have := there_block hblk
   rwa [show Tryz.zeroCells124.size = (vcells x.1.2).toArray.size by rw [Tryz.zsize124]; simp [HXL.out]] at this
  refine wpListIn_exec_skip rfl (fun _ h => by cases h) rfl (run_store_mid' rfl rfl rfl hth (by rw [HI.out]; simp) (all_oneCell_toArray (vcells_one x.1.2))) ?_
  have hb2 := heap_setCells_whole (vs := vcells x.1.2) hblk (by rw [Tryz.zsize124, HXL.out])
  have hU2 : Upd (fun _ => False) W ((W.alloc (.cells Tryz.zeroCells124 124)).setCells W.heap.size 0 (vcells x.1.2)) := by
   have := Upd.setCells (F := fun j => W.heap.size ≤ j) (b := W.heap.size) (Nat.le_refl _) (vcells x.1.2) 0 ((Upd.refl _ W).alloc (.cells Tryz.zeroCells124 124))
   exact this.mono (fun j hj e => by omega)
  have hg2 : W.grownBy ((W.alloc (.cells Tryz.zeroCells124 124)).setCells W.heap.size 0 (vcells x.1.2)) none := ⟨hU2.os, hU2.tape, hU2.output, hU2.size, fun j hj _ => hU2.block j hj (fun e => e)⟩
  gi_step
  refine HKK.out _ _ (KeepsFrom.of_grownBy hg2 (fun j e => by cases e)) (fun k hk => hU2.block k (Nat.lt_of_lt_of_le (HS.out k hk).2 HCS.out.size) (fun e => e)) (HCS.out.kept (by omega) hg2 (fun r e => by cases e)) ⟨W.heap.size, HCS.out.size, hb2, rfl⟩
 case body =>
  rintro l pre x a' W hl hlr hs ⟨Bx, hB1, hB2, rfl⟩ hpl
  have hxl := x.2.1
  obtain ⟨kx, hkx⟩ : ∃ kx, kx = keep.getD pre.length false := ⟨_, rfl⟩
  have HKX := Lib.hid hkx
  have c16 : W.drew.cell? ⟨w.heap.size + 1 + 1, 0, none⟩ = some (.map (some (w.heap.size + 1))) := cells1_of hs.cm
  have c18 : W.drew.cell? ⟨Bx, 64, none⟩ = some (.int .i64 x.1.2.2) := by rw [cell_of_heap (w := W.drew) hB2]; simp [vcells, hxl]
  have c19 : W.drew.cell? ⟨w.heap.size + 1 + 1 + 1, 0, none⟩ = some (.int .i64 pre.length) := cells1_of hs.cn
  have c20 : W.drew.cell? ⟨w.heap.size, 0, none⟩ = some (.slice ka keep.length kc) := cells1_of hs.ck
  obtain ⟨W4, hrun, hown, hgr⟩ := hs.map.drew.update (Maps.int_keyed Tryz.underlying3) Tryz.underlying138 (by unfold maxLen; omega) (key := .int .i64 x.1.2.2) (kl := .int .i64 x.1.2.2) (by
   refine Maps.keyOf_int_mk Tryz.underlying3 ?_
   have := x.2.2
   simp [Lit.wf, IntKind.min, IntKind.max, IntKind.signed, IntKind.bits]; omega) (plainElem_bool Tryz.underlying4 kx)
  have hg4 : W.grownBy W4 (some (w.heap.size + 1)) := ⟨hgr.os, hgr.tape, hgr.output, hgr.size, hgr.block⟩
  have HST := Lib.hid (hs.step (by omega) (by rw [← hkx]; exact hown) hg4)
  have hn4 : W4.heap[w.heap.size + 3]? = some (.cells #[.int .i64 pre.length] 3 (0, 0)) := (hg4.block _ (lt_of_heap hs.cn) (fun e => by have := Option.some.inj e; omega)).trans hs.cn
  have c29 : W4.cell? ⟨w.heap.size + 1 + 1 + 1, 0, none⟩ = some (.int .i64 pre.length) := cells1_of hn4
  have f29 : W4.frozen? ⟨w.heap.size + 1 + 1 + 1, 0, none⟩ = false := frozen_of_heap hn4
  have HKF := Lib.hid ((KeepsFrom.of_grownBy hg4 (B := w'.heap.size) (fun j e => by have := Option.some.inj e; omega)).trans ((KeepsOthers.setCell W4 ⟨w.heap.size + 3, 0, none⟩ (.int .i64 (pre.length + 1 : Nat))).from _))
  have HKE : RowKit.Hid (Keep (fun k => k = w.heap.size + 4 ∨ v.ownBlock = some k) W (W4.setCell ⟨w.heap.size + 3, 0, none⟩ (.int .i64 (pre.length + 1 : Nat)))) := Lib.hid (fun k hk => by
   have h1 := HS.out k hk
   have h2 := hs.size
   rw [set_ne (by show k ≠ w.heap.size + 3; omega), hg4.block k (by omega) (fun e => by have := Option.some.inj e; omega)])
  have hkb : pre.length < keep.length → ∃ kb ko, ka = some ⟨kb, ko, none⟩ ∧ W.drew.cell? ⟨kb, ko + pre.length, none⟩ = some (.bool kx) := fun hlt => by
   obtain ⟨kb, ko, h1, h2, h3⟩ := HK.out.kept hs.upd (fun _ _ e => e) pre.length kx (by rw [hkx]; simp [List.getD_eq_getElem?_getD, hlt])
   exact ⟨kb, ko, h1, h3⟩
  have HRUN := Lib.hid hrun
  have HKB := Lib.hid hkb
  clear hrun hown hgr hg4 hn4 hkb hrow2 hcell hS hs hlr hB2 hxl hkx
  by_cases hlt : pre.length < keep.length
  ·obtain ⟨kb, ko, rfl, c27⟩ := HKB.out hlt
   have hlt2 : (pre.length : Int) < keep.length := by omega
   clear HKB
   gi_upto_region 7 with fail
   refine wpIn_region_S (n := 13) (fun W' => W' = W.drew) [false, false, false, false, false, false, false, false, false, false, false, false, false, false] rfl (by kernel_rfl) ?_
   refine wpS_take (i := 0) (v := .map (some (w.heap.size + 1))) rfl (by kernel_rfl) (fun _ h => by cases h) (fun _ _ => rfl) rfl (.inl ⟨rfl, fun w5 q1 => ?_⟩) ?_
   ·subst q1; go_simp
   simp only [Act.put, List.setIfInBounds_toArray, List.set]
   refine wpS_take (i := 1) (v := .pointer (some ⟨Bx, 64, none⟩)) rfl (by kernel_rfl) (fun _ h => by cases h) (fun _ _ => rfl) rfl (.inl ⟨rfl, fun w5 q1 => ?_⟩) ?_
   ·subst q1; go_simp
   simp only [Act.put, List.setIfInBounds_toArray, List.set]
   refine wpS_take (i := 2) (v := .int .i64 x.1.2.2) rfl (by kernel_rfl) (fun _ h => by cases h) (fun _ _ => rfl) rfl (.inl ⟨rfl, fun w5 q1 => ?_⟩) ?_
   ·subst q1; go_simp
   simp only [Act.put, List.setIfInBounds_toArray, List.set]
   refine wpS_take (i := 3) (v := .int .i64 (pre.length : Int)) rfl (by kernel_rfl) (fun _ h => by cases h) (fun _ _ => rfl) rfl (.inl ⟨rfl, fun w5 q1 => ?_⟩) ?_
   ·subst q1; go_simp
   simp only [Act.put, List.setIfInBounds_toArray, List.set]
   refine wpS_take (i := 4) (v := .slice (some ⟨kb, ko, none⟩) keep.length kc) rfl (by kernel_rfl) (fun _ h => by cases h) (fun _ _ => rfl) rfl (.inl ⟨rfl, fun w5 q1 => ?_⟩) ?_
   ·subst q1; go_simp
   simp only [Act.put, List.setIfInBounds_toArray, List.set]
   refine wpS_take (i := 5) (v := .int .i64 (keep.length : Int)) rfl (by kernel_rfl) (fun _ h => by cases h) (fun _ _ => rfl) rfl (.inl ⟨rfl, fun w5 q1 => ?_⟩) ?_
   ·subst q1; go_simp
   simp only [Act.put, List.setIfInBounds_toArray, List.set]
   refine wpS_take (i := 6) (v := .bool true) rfl (by kernel_rfl) (fun _ h => by cases h) (fun _ _ => rfl) rfl (.inl ⟨rfl, fun w5 q1 => ?_⟩) ?_
   ·subst q1; go_simp
   simp only [Act.put, List.setIfInBounds_toArray, List.set]
   refine wpS_take (i := 7) (v := .bool true) rfl (by kernel_rfl) (fun _ h => by cases h) (fun _ _ => rfl) rfl (.inl ⟨rfl, fun w5 q1 => ?_⟩) ?_
   ·subst q1; go_simp
   simp only [Act.put, List.setIfInBounds_toArray, List.set]
   refine wpS_take (i := 8) (v := .slice (some ⟨kb, ko, none⟩) keep.length kc) rfl (by kernel_rfl) (fun _ h => by cases h) (fun _ _ => rfl) rfl (.inl ⟨rfl, fun w5 q1 => ?_⟩) ?_
   ·subst q1; go_simp
   simp only [Act.put, List.setIfInBounds_toArray, List.set]
   refine wpS_take (i := 9) (v := .int .i64 (pre.length : Int)) rfl (by kernel_rfl) (fun _ h => by cases h) (fun _ _ => rfl) rfl (.inl ⟨rfl, fun w5 q1 => ?_⟩) ?_
   ·subst q1; go_simp
   simp only [Act.put, List.setIfInBounds_toArray, List.set]
   refine wpS_take (i := 10) (v := .pointer (some ⟨kb, ko + pre.length, none⟩)) rfl (by kernel_rfl) (fun _ h => by cases h) (fun _ _ => rfl) rfl (.inl ⟨rfl, fun w5 q1 => ?_⟩) ?_
   ·subst q1; go_simp
   simp only [Act.put, List.setIfInBounds_toArray, List.set]
   refine wpS_take (i := 11) (v := .bool kx) rfl (by kernel_rfl) (fun _ h => by cases h) (fun _ _ => rfl) rfl (.inl ⟨rfl, fun w5 q1 => ?_⟩) ?_
   ·subst q1; go_simp
   simp only [Act.put, List.setIfInBounds_toArray, List.set]
   refine wpS_take (i := 12) (v := .bool kx) rfl (by kernel_rfl) (fun _ h => by cases h) (fun _ _ => rfl) rfl (.inl ⟨rfl, fun w5 q1 => ?_⟩) ?_
   ·subst q1; go_simp
   simp only [Act.put, List.setIfInBounds_toArray, List.set]
   clear c16 c18 c19 c20
   refine wpS_last (i := 13) (w' := W4) (u := undef) rfl (by kernel_rfl) rfl (fun _ h => by cases h) rfl (.inr ⟨?_, rfl⟩) (by kernel_rfl) (by kernel_rfl) ?_
   ·exact run_mapUp rfl rfl rfl rfl HRUN.out
   simp only [Act.put]
   gi_wp2
   exact ⟨HKF.out, HKE.out, HST.out⟩
  ·have hlt2 : ¬ (pre.length : Int) < keep.length := by omega
   have hkf : kx = false := by rw [HKX.out]; simp [List.getD_eq_getElem?_getD, Nat.le_of_not_lt hlt]
   subst hkf
   clear HKB
   gi_upto_region 7 with fail
   refine wpIn_region_S (n := 13) (fun W' => W' = W.drew) [false, false, false, false, false, false, false, false, false, false, false, false, false, false] rfl (by kernel_rfl) ?_
   refine wpS_take (i := 0) (v := .map (some (w.heap.size + 1))) rfl (by kernel_rfl) (fun _ h => by cases h) (fun _ _ => rfl) rfl (.inl ⟨rfl, fun w5 q1 => ?_⟩) ?_
   ·subst q1; go_simp
   simp only [Act.put, List.setIfInBounds_toArray, List.set]
   refine wpS_take (i := 1) (v := .pointer (some ⟨Bx, 64, none⟩)) rfl (by kernel_rfl) (fun _ h => by cases h) (fun _ _ => rfl) rfl (.inl ⟨rfl, fun w5 q1 => ?_⟩) ?_
   ·subst q1; go_simp
   simp only [Act.put, List.setIfInBounds_toArray, List.set]
   refine wpS_take (i := 2) (v := .int .i64 x.1.2.2) rfl (by kernel_rfl) (fun _ h => by cases h) (fun _ _ => rfl) rfl (.inl ⟨rfl, fun w5 q1 => ?_⟩) ?_
   ·subst q1; go_simp
   simp only [Act.put, List.setIfInBounds_toArray, List.set]
   refine wpS_take (i := 3) (v := .int .i64 (pre.length : Int)) rfl (by kernel_rfl) (fun _ h => by cases h) (fun _ _ => rfl) rfl (.inl ⟨rfl, fun w5 q1 => ?_⟩) ?_
   ·subst q1; go_simp
   simp only [Act.put, List.setIfInBounds_toArray, List.set]
   refine wpS_take (i := 4) (v := .slice ka keep.length kc) rfl (by kernel_rfl) (fun _ h => by cases h) (fun _ _ => rfl) rfl (.inl ⟨rfl, fun w5 q1 => ?_⟩) ?_
   ·subst q1; go_simp
   simp only [Act.put, List.setIfInBounds_toArray, List.set]
   refine wpS_take (i := 5) (v := .int .i64 (keep.length : Int)) rfl (by kernel_rfl) (fun _ h => by cases h) (fun _ _ => rfl) rfl (.inl ⟨rfl, fun w5 q1 => ?_⟩) ?_
   ·subst q1; go_simp
   simp only [Act.put, List.setIfInBounds_toArray, List.set]
   refine wpS_take (i := 6) (v := .bool false) rfl (by kernel_rfl) (fun _ h => by cases h) (fun _ _ => rfl) rfl (.inl ⟨rfl, fun w5 q1 => ?_⟩) ?_
   ·subst q1; go_simp
   simp only [Act.put, List.setIfInBounds_toArray, List.set]
   refine wpS_take (i := 7) (v := .bool false) rfl (by kernel_rfl) (fun _ h => by cases h) (fun _ _ => rfl) rfl (.inl ⟨rfl, fun w5 q1 => ?_⟩) ?_
   ·subst q1; go_simp
   simp only [Act.put, List.setIfInBounds_toArray, List.set]
   refine wpS_take (i := 8) (v := undef) rfl (by kernel_rfl) (fun _ h => by cases h) (fun _ _ => rfl) rfl (.inr ⟨rfl, rfl⟩) ?_
   simp only [Act.put, List.setIfInBounds_toArray, List.set]
   refine wpS_take (i := 9) (v := undef) rfl (by kernel_rfl) (fun _ h => by cases h) (fun _ _ => rfl) rfl (.inr ⟨rfl, rfl⟩) ?_
   simp only [Act.put, List.setIfInBounds_toArray, List.set]
   refine wpS_take (i := 10) (v := undef) rfl (by kernel_rfl) (fun _ h => by cases h) (fun _ _ => rfl) rfl (.inr ⟨rfl, rfl⟩) ?_
   simp only [Act.put, List.setIfInBounds_toArray, List.set]
   refine wpS_take (i := 11) (v := undef) rfl (by kernel_rfl) (fun _ h => by cases h) (fun _ _ => rfl) rfl (.inr ⟨rfl, rfl⟩) ?_
   simp only [Act.put, List.setIfInBounds_toArray, List.set]
   refine wpS_take (i := 12) (v := .bool false) rfl (by kernel_rfl) (fun _ h => by cases h) (fun _ _ => rfl) rfl (.inl ⟨rfl, fun w5 q1 => ?_⟩) ?_
   ·subst q1; go_simp
   simp only [Act.put, List.setIfInBounds_toArray, List.set]
   clear c16 c18 c19 c20
   refine wpS_last (i := 13) (w' := W4) (u := undef) rfl (by kernel_rfl) rfl (fun _ h => by cases h) rfl (.inr ⟨?_, rfl⟩) (by kernel_rfl) (by kernel_rfl) ?_
   ·exact run_mapUp rfl rfl rfl rfl HRUN.out
   simp only [Act.put]
   gi_wp2
   exact ⟨HKF.out, HKE.out, HST.out⟩
 case done =>
  rintro Dd ys W hDd hys hs hKd
  rw [hys] at hs
  have hpw : R.Pairwise (fun x y => x.1.2.2 < y.1.2.2) := by
   have := HO.out.sorted
   rw [← hR, List.pairwise_map] at this
   exact this
  have hnF : ∀ k, w.heap.size ≤ k → ¬ F k := fun k hk hf => by have := HD.out.lt k hf; omega
  have hDsk : Dsk W p D F := HD.out.kept hs.upd (fun _ _ e => e)
  have hcl : ∀ W1, Upd F W W1 → ∀ v : List Int × Int, okBlk v.1 → (0 ≤ v.2 ∧ v.2 ≤ 1099511627774) → Calls Tryz.prog 78 (#[.agg (vcells v).toArray] ++ #[.pointer (some ⟨w.heap.size + 1 + 1, 0, none⟩)]) W1 fun e w' => e = .returned (.bool ((fun n => !D.keepsAt keep n) v.2)) ∧ Upd (fun _ => False) W1 w' := fun W1 hu v hv hn => by
   have hb1 := (hu.block _ (lt_of_heap hs.cm) (hnF _ (by omega))).trans hs.cm
   have hm1 : W1.ownsMap Tryz.prog 3 (plainElem Tryz.prog 4) (w.heap.size + 1) R.length (kmap keep 0 (.map []) R) := by
    obtain ⟨es, clock, h1, h2⟩ := hs.map
    exact ⟨es, clock, (hu.block _ (lt_of_heap h1) (hnF _ (by omega))).trans h1, h2⟩
   refine (lost_run v W1 hv hn hb1 hm1).mono ?_
   rintro e w2 ⟨rfl, h2⟩
   refine ⟨?_, h2⟩
   rw [kmap_any keep v.2 R 0 (.map []) Maps.isMap_empty hpw rfl, hR]
   rfl
  have HA := Lib.hid (arrive_any (lost := fun n => !D.keepsAt keep n) 78 #[.pointer (some ⟨w.heap.size + 1 + 1, 0, none⟩)] W hDsk HO.out callF_enters89 hcl)
  have HU := Lib.hid hs.upd
  have HNF := Lib.hid hnF
  have hDlt := lt_of_heap hKd
  have HKD := Lib.hid hKd
  clear hpw hDsk hcl hs hKd hrow2 hcell hS hys hnF
  gi_wp2_with (refine ⟨trivial, ?_⟩; gi_at_call 77; refine (callsIn_wide.2 HA.out).mono ?_; rintro e w5 ⟨rfl, F5, ⟨s5, g5, c5, hA5, hFp5⟩, hF5, hu5⟩; have m5 := cells6_of hA5.main; have f5 : ∀ k, w5.frozen? ⟨p, k, none⟩ = false := fun k => frozen_of_heap hA5.main; have HA5 := Lib.hid hA5; have HFP := Lib.hid hFp5; have HF5 := Lib.hid hF5; have HU5 := Lib.hid hu5; clear hA5 hFp5 hF5 hu5 HA)
  obtain ⟨W6, hW6⟩ : ∃ W6, W6 = (((w5.setCell ⟨p, 5, none⟩ (.bool false)).setCell ⟨p, 3, none⟩ (.int .i64 (-1))).setCell ⟨p, 4, none⟩ (.int .i64 (-1))) := ⟨_, rfl⟩
  rw [← hW6]
  have hu6 : Upd (fun k => k = p) w5 W6 := by
   rw [hW6]
   exact ((upd_own _ p 5 _).trans (upd_own _ p 3 _)).trans (upd_own _ p 4 _)
  have hm6 := blk_set (i := 4) (v := .int .i64 (-1)) (blk_set (i := 3) (v := .int .i64 (-1)) (blk_set (i := 5) (v := .bool false) HA5.out.main))
  rw [← hW6] at hm6
  have hA6 : DiskAt W6 p (D.crash keep) s5 g5 c5 := HA5.out.withMain rfl rfl (by simp at hm6; exact hm6) hu6
  have hD6 : Dsk W6 p (D.crash keep) F5 := ⟨s5, g5, c5, hA6, HFP.out⟩
  have hpF : F p := HD.out.mem
  have hpl := HD.out.lt p hpF
  have hz6 := hu6.size
  have hz5 := HU5.out.size
  have hz := HU.out.size
  have hK6 : W6.heap[Dd]? = some (.deferred (some [])) := by
   rw [hu6.block Dd (by omega) (by omega), HU5.out.block Dd hDlt (HNF.out Dd (by omega)), HKD.out]
  refine ⟨by simp, .inl ⟨_, _, rfl, run_takeDeferred hK6, ?_⟩⟩
  have hu7 : Upd (fun k => k = Dd) W6 (W6.putObj Dd (.deferred none)) := Upd.of_grown (grownBy_putObj' _ Dd _) (fun k hk => (Option.some.inj hk).symm)
  refine ⟨_, results_tmp rfl _ _ _, rfl, F5, hD6.kept hu7 (fun k hk e => ?_), fun k hk => (HF5.out k hk).imp id (fun e => by omega), ?_⟩
  ·rcases HF5.out k hk with h1 | h1
   ·exact HNF.out k (by omega) h1
   ·omega
  ·refine Upd.step (G := fun k => k = Dd) ((((HU.out.mono (fun _ _ e => e.elim)).trans HU5.out).trans (hu6.mono (fun k _ e => e ▸ hpF)))) hu7 (fun k hk e => by omega)
 case stop =>
  rintro D c pre W _ _ h _
  exact h.elim
end
end Go.Proofs.YtbimkhdiplnbfaaGreat
