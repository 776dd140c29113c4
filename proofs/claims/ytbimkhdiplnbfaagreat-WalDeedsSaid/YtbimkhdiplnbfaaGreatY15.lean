/- Walks of the disk: row's iterator. -/
import Derived.Test.YtbimkhdiplnbfaaGreatY14
import Derived.Sort.LoopGhostIn
import Derived.Sort.CutIn
set_option linter.unusedVariables false
set_option linter.unusedSimpArgs false
namespace Go.Proofs.YtbimkhdiplnbfaaGreat
set_option maxRecDepth 1000000
set_option maxHeartbeats 16000000
section
open Go.RowKit Go.Shelf
attribute [local go_sem] Oper.semAt_some
theorem Tryz.size221 : (Tryz.prog.info? 221).map (·.size) = some 66 := by kernel_rfl
theorem Tryz.zsize221 : Tryz.zeroCells221.size = 66 := by kernel_rfl
def Keep (S : Nat → Prop) (W W' : World) : Prop := ∀ k, S k → W'.heap[k]? = W.heap[k]?
theorem Keep.refl (S : Nat → Prop) (W : World) : Keep S W W := fun _ _ => rfl
theorem Keep.trans {S : Nat → Prop} {A B C : World} (h : Keep S A B) (k : Keep S B C) : Keep S A C := fun j hj => (k j hj).trans (h j hj)
theorem Keep.lt {S : Nat → Prop} {W W' : World} (h : Keep S W W') {k : Nat} (hk : S k) (hl : k < W.heap.size) : k < W'.heap.size := by
 have := h k hk
 rw [Array.getElem?_eq_getElem hl] at this
 exact (Array.getElem?_eq_some_iff.1 this).1
theorem Keep.cell {S : Nat → Prop} {W W' : World} (h : Keep S W W') {k o : Nat} (hk : S k) : W'.cell? ⟨k, o, none⟩ = W.cell? ⟨k, o, none⟩ := by
 simp [World.cell?, h k hk]
theorem Keep.rangeAt {S : Nat → Prop} {W W' : World} (h : Keep S W W') {k o : Nat} {cs : List Value} (hk : S k) (hr : W.rangeAt k o cs) : W'.rangeAt k o cs := fun j v hv => (h.cell hk).trans (hr j v hv)
theorem iter_in (F : Fence) (n : Nat) (hf : F.fn 141) (hro : F.round = none) (hn : 1 ≤ n) (l b gg cap : Nat) (S : Nat → Prop) (R : List El) (hlen : R.length ≤ 1099511627776) (hg : S gg) (J Jx : List El → World → Prop)
  (W : World) (hS : ∀ k, S k → k < W.heap.size) (hJ : AbidesFrom W.heap.size J)
  (hY : ∀ pre x W1, J pre W1 → pre.length < R.length → YieldAt F (n - 1) Tryz.prog l #[.int .i64 x.1.1, .agg (vcells x.1.2).toArray] W1 fun e W' =>
   (e = .returned (.bool true) ∧ J (pre ++ [x]) W' ∧ Keep S W1 W') ∨ (e = .returned (.bool false) ∧ Jx (pre ++ [x]) W'))
  (hc : W.cell? ⟨b, 0, none⟩ = some (.slice (some ⟨gg, 0, none⟩) R.length cap)) (hrows : ∀ i x, R[i]? = some x → W.rangeAt gg (i * 66) (encE x)) (h0 : J [] W) :
  CallsIn F n Tryz.prog 141 #[.func (.yield l) #[] #[], .pointer (some ⟨b, 0, none⟩)] W fun e W' => (∃ v, e = .returned v) ∧ ((∃ ys, ys = R ∧ J ys W') ∨ (∃ pre, pre <+: R ∧ Jx pre W')) := by
 have HRW := Lib.hid hrows
 have HJ := Lib.hid hJ
 clear hrows hJ
 refine callsIn_of_wp Tryz.func141 rfl hf ?_ hro
 simp only [Tryz.ntmps141, List.size_toArray, List.length_cons, List.length_nil, Nat.reduceAdd, Nat.reduceSub, Array.replicate_succ, Array.replicate_zero, List.push_toArray, List.append_toArray, List.nil_append, List.cons_append]
 gi_wp2
 clear hc
 gi_loopg [7] R.length (fun gi i wr => ∃ k : Nat, k ≤ R.length ∧ gi = R.length - k ∧ i = .int .i64 k ∧ J (R.take k) wr ∧ Keep S W wr)
 case atStart => exact ⟨0, Nat.zero_le _, rfl, rfl, h0, Keep.refl _ _⟩
 case round =>
  obtain ⟨k, hk, rfl, rfl, hJs, hnx⟩ := hrel
  have HJS := Lib.hid hJs
  have HNX := Lib.hid hnx
  clear hJs hnx
  gi_upto_region 2 with fail
  ·have hkt : k < R.length := by assumption
   have hki : (k : Int) < R.length := by omega
   obtain ⟨x, hx⟩ : ∃ x, R[k]? = some x := ⟨R[k], by simp [hkt]⟩
   have hxl := encE_length x
   have hi : (Tryz.prog.info? 221).map (·.size) = some (encE x).length := by rw [Tryz.size221, hxl]
   have hrg : wr.rangeAt gg (k * 66) (encE x) := HNX.out.rangeAt hg (HRW.out k x hx)
   have HX := Lib.hid hx; have HXL := Lib.hid hxl; have HI := Lib.hid hi; have HRG := Lib.hid hrg
   clear hx hxl hi hrg
   iterate 4 gi_step
   refine wpListIn_exec rfl (fun _ h => by cases h) rfl (run_load_mid' rfl rfl (encE x) HRG.out Tryz.underlying221 rfl HI.out) ?_
   iterate 3 gi_step
   have hblk : (wr.alloc (.cells Tryz.zeroCells221 221)).heap[wr.heap.size]? = some (.cells Tryz.zeroCells221 221 (0, 0)) := alloc_at rfl
   have hth : (wr.alloc (.cells Tryz.zeroCells221 221)).there wr.heap.size 0 (encE x).toArray.size := by
    have := there_block hblk
    rwa [show Tryz.zeroCells221.size = (encE x).toArray.size by rw [Tryz.zsize221]; simp [HXL.out]] at this
   refine wpListIn_exec_skip rfl (fun _ h => by cases h) rfl (run_store_mid' rfl rfl rfl hth (by rw [HI.out]; simp) (all_oneCell_toArray (encE_one x))) ?_
   have hb2 := heap_setCells_whole (vs := encE x) hblk (by rw [Tryz.zsize221, HXL.out])
   have hU2 : Upd (fun _ => False) wr ((wr.alloc (.cells Tryz.zeroCells221 221)).setCells wr.heap.size 0 (encE x)) := by
    have := Upd.setCells (F := fun j => wr.heap.size ≤ j) (b := wr.heap.size) (Nat.le_refl _) (encE x) 0 ((Upd.refl _ wr).alloc (.cells Tryz.zeroCells221 221))
    exact this.mono (fun j hj e => by omega)
   have HJ2 := Lib.hid (HJ.out (R.take k) wr _ none HJS.out ⟨hU2.os, hU2.tape, hU2.output, hU2.size, fun j hj _ => hU2.block j hj (fun e => e)⟩ (fun r e => by cases e))
   have HNX2 : RowKit.Hid (Keep S W ((wr.alloc (.cells Tryz.zeroCells221 221)).setCells wr.heap.size 0 (encE x))) :=
    Lib.hid (HNX.out.trans (fun j hj => hU2.block j (HNX.out.lt hj (hS j hj)) (fun e => e)))
   clear hblk hth hU2
   obtain ⟨b2, hb2e⟩ : ∃ b2, b2 = wr.heap.size := ⟨_, rfl⟩
   simp only []
   generalize (wr.alloc (.cells Tryz.zeroCells221 221)).setCells wr.heap.size 0 (encE x) = W2 at *
   rw [← hb2e] at hb2 ⊢
   have c0 : W2.cell? ⟨b2, 0, none⟩ = some (.int .i64 x.1.1) := by rw [cell_of_heap hb2]; simp [encE, ecells]
   have hrg2 : W2.rangeAt b2 1 (vcells x.1.2) := by
    intro j v hv
    rw [cell_of_heap hb2]
    have e : (encE x).toArray[1 + j]? = (vcells x.1.2)[j]? := by rw [Nat.add_comm]; simp [encE, ecells]
    rw [e]; exact hv
   have hi2 : (Tryz.prog.info? 124).map (·.size) = some (vcells x.1.2).length := by rw [Tryz.size124, vcells_length x.2.1]
   have HRG2 := Lib.hid hrg2; have HI2 := Lib.hid hi2
   clear hb2 hb2e hrg2 hi2
   obtain ⟨fn, tmps, assign, body, hy, hR⟩ := hY _ x W2 HJ2.out (by rw [List.length_take]; omega)
   have HRR := Lib.hid hR
   have HYY := Lib.hid hy
   clear hR hy
   gi_upto_region 3 with fail
   iterate 13 gi_step
   refine wpListIn_exec rfl (fun _ h => by cases h) rfl (run_load_mid' rfl rfl (vcells x.1.2) HRG2.out Tryz.underlying124 rfl HI2.out) ?_
   have hy := HYY.out
   gi_wp2
   refine HRR.out.mono ?_
   have htk : R.take k ++ [x] = R.take (k + 1) := by rw [List.take_add_one, HX.out]; simp
   rw [htk]
   rintro e W3 (⟨rfl, hJ3, hk3⟩ | ⟨rfl, hJx3⟩)
   ·have HJ3 := Lib.hid hJ3; have HK3 := Lib.hid hk3
    clear hJ3 hk3 htk hy
    gi_wp2
    gi_roundg (R.length - (k + 1))
    case measure => omega
    case rel => exact ⟨k + 1, by omega, rfl, by go_num, HJ3.out, HNX2.out.trans HK3.out⟩
   ·have HJ3 := Lib.hid hJx3
    clear hJx3 htk hy
    gi_wp2
    refine bodyPost_ret (results_none rfl _ _ _) rfl ?_
    exact ⟨⟨_, rfl⟩, .inr ⟨_, List.take_prefix _ _, HJ3.out⟩⟩
  ·obtain rfl : k = R.length := by omega
   refine bodyPost_end (results_none rfl _ _ _) rfl ?_
   have := HJS.out
   rw [List.take_length] at this
   exact ⟨⟨_, rfl⟩, .inl ⟨_, rfl, this⟩⟩
theorem iter_nil_in (F : Fence) (n : Nat) (hf : F.fn 141) (hro : F.round = none) (l b : Nat) (J : List El → World → Prop) (W : World) (hc : W.cell? ⟨b, 0, none⟩ = some (.slice none 0 0)) (h0 : J [] W) :
  CallsIn F n Tryz.prog 141 #[.func (.yield l) #[] #[], .pointer (some ⟨b, 0, none⟩)] W fun e W' => (∃ v, e = .returned v) ∧ J [] W' := by
 refine callsIn_of_wp Tryz.func141 rfl hf ?_ hro
 simp only [Tryz.ntmps141, List.size_toArray, List.length_cons, List.length_nil, Nat.reduceAdd, Nat.reduceSub, Array.replicate_succ, Array.replicate_zero, List.push_toArray, List.append_toArray, List.nil_append, List.cons_append]
 gi_wp2
 gi_loopg [7] 0 (fun gi i wr => gi = 0 ∧ i = .int .i64 0 ∧ J [] wr)
 case atStart => exact ⟨rfl, rfl, h0⟩
 case round =>
  obtain ⟨rfl, rfl, hJs⟩ := hrel
  have HJS := Lib.hid hJs
  clear hJs h0
  gi_wp2
  refine bodyPost_end (results_none rfl _ _ _) rfl ?_
  exact ⟨⟨_, rfl⟩, HJS.out⟩
theorem row_stops (F : Fence) (n : Nat) (hf : F.fn 141) (hro : F.round = none) (hn : 1 ≤ n) (b : Nat) (S : Nat → Prop) (v : Value) (R : List El) (hlen : R.length ≤ 1099511627776) (w : World) (hS : ∀ k, S k → k < w.heap.size) (hb : b < w.heap.size) (hc : w.cell? ⟨b, 0, none⟩ = some v)
  (hrow : (v = .slice none 0 0 ∧ R = []) ∨ ∃ gg cap, v = .slice (some ⟨gg, 0, none⟩) R.length cap ∧ S gg ∧ ∀ i x, R[i]? = some x → w.rangeAt gg (i * 66) (encE x)) :
  SeqStopsK F n Tryz.prog 141 #[.pointer (some ⟨b, 0, none⟩)] (fun x : El => #[.int .i64 x.1.1, .agg (vcells x.1.2).toArray]) (Keep S) (fun ys => ys = R) (fun pre => pre <+: R) R.length w := fun l J Jx W hW hJ _ hY h0 => by
 have hc' := (hW.cell (p := ⟨b, 0, none⟩) hb).trans hc
 rcases hrow with ⟨rfl, rfl⟩ | ⟨gg, cap, rfl, hg, hrs⟩
 ·exact (iter_nil_in F n hf hro l b J W hc' h0).mono fun e W' ⟨he, hj⟩ => ⟨he, .inl ⟨_, rfl, hj⟩⟩
 ·exact iter_in F n hf hro hn l b gg cap S R hlen hg J Jx W (fun k hk => Nat.lt_of_lt_of_le (hS k hk) hW.size) hJ hY hc' (fun i x hx j v hv => (hW.cell (p := ⟨gg, i * 66 + j, none⟩) (hS gg hg)).trans (hrs i x hx j v hv)) h0
end
section
open Go.RowKit Go.Shelf
attribute [local go_sem] Oper.semAt_some
structure RowT (w0 w : World) (b : Nat) (R : List El) (v : Value) : Prop where
 upd : Upd (fun _ => False) w0 w
 cell : w.heap[b]? = some (.cells #[v] 219 (0, 0))
 row : (v = .slice none 0 0 ∧ R = []) ∨ ∃ gg cap, v = .slice (some ⟨gg, 0, none⟩) R.length cap ∧ w0.heap.size ≤ gg ∧ gg < w.heap.size ∧ ∀ i x, R[i]? = some x → w.rangeAt gg (i * 66) (encE x)
theorem Tryz.info3p : (Tryz.prog.info? 3).map (fun i => (i.zero, i.size, i.bytes)) = some (some (.int .i64 0), 1, 8) := by kernel_rfl
theorem own_mono {w : World} {B B' : Nat} {e : TypeId} {size : Nat} {v : Value} {n : Nat} {xs : List Value} (h : w.ownsRow B e size v n xs) (hb : B' ≤ B) : w.ownsRow B' e size v n xs := by
 obtain ⟨h1, h2⟩ := h
 refine ⟨h1, ?_⟩
 rcases h2 with h2 | ⟨g, cap, cur, a, b, r⟩
 ·exact .inl h2
 ·exact .inr ⟨g, cap, cur, a, Nat.le_trans hb b, r⟩
def atE (x : El) : Value := .int .i64 x.1.1
structure PendAt (w w1 : World) (pre : List El) (W : World) (u : Value) : Prop where
 upd : Upd (fun _ => False) w W
 size : w1.heap.size ≤ W.heap.size
 cell : W.heap[w.heap.size]? = some (.cells #[u] 33 (0, 0))
 own : W.ownsRow w1.heap.size 3 1 u pre.length (pre.map atE)
theorem PendAt.start {w w1 : World} {b : Nat} {R : List El} {v : Value} (h : RowT (w.alloc (.cells #[.slice none 0 0] 33)) w1 b R v) : PendAt w w1 [] w1 (.slice none 0 0) :=
 ⟨((Upd.refl _ w).alloc _).trans h.upd, Nat.le_refl _, (h.upd.block _ (by simp) (fun e => e)).trans (alloc_at rfl), World.ownsRow_nil _ _ _ _⟩
theorem PendAt.kept {w w1 W W' : World} {pre : List El} {u : Value} {row : Option Nat} (h : PendAt w w1 pre W u) (hw : w.heap.size < w1.heap.size) (hg : W.grownBy W' row) (hr : ∀ r, row = some r → w1.heap.size ≤ r ∧ ∃ o : Obj, W.heap[r]? = some o ∧ o.isCells = false) : PendAt w w1 pre W' u := by
 refine ⟨h.upd.step (Upd.of_grown (F := fun j => w1.heap.size ≤ j) hg (fun k hk => (hr k hk).1)) (fun j hj e => by omega), Nat.le_trans h.size hg.size, ?_, ?_⟩
 ·exact (hg.block _ (lt_of_heap h.cell) (fun e => by have := (hr _ e.symm).1; omega)).trans h.cell
 ·refine h.own.kept hg ?_
  rcases h.own.2 with ⟨rfl, _⟩ | ⟨g, cap, cur, rfl, _, hgb, _⟩
  ·exact .inl rfl
  ·refine .inr (fun e => ?_)
   obtain ⟨_, o, ho, hc⟩ := hr g e.symm
   rw [hgb] at ho
   cases ho
   cases hc
theorem PendAt.step {w w1 W w4 : World} {pre : List El} {u v' : Value} {x : El} {o : Obj} (h : PendAt w w1 pre W u) (hw : w.heap.size < w1.heap.size)
  (hown : w4.ownsRow w1.heap.size 3 1 v' (pre.length + 1) (pre.map atE ++ [atE x])) (hg : (W.alloc o).grownBy w4 u.ownBlock) :
  PendAt w w1 (pre ++ [x]) (w4.setCell ⟨w.heap.size, 0, none⟩ v') v' := by
 have hlt := h.own.lt
 have hb := lt_of_heap h.cell
 have hc4 : w4.heap[w.heap.size]? = some (.cells #[u] 33 (0, 0)) := ((hg.block _ (by simp; omega) (fun e => by have := (hlt _ e.symm).1; omega)).trans (alloc_lt hb)).trans h.cell
 have hu1 : Upd (fun j => w.heap.size ≤ j) w w4 :=
  ((h.upd.mono (G := fun j => w.heap.size ≤ j) (fun _ _ e => e.elim)).alloc o).step (Upd.of_grown (F := fun j => w1.heap.size ≤ j) hg (fun k hk => (hlt k hk).1)) (fun j _ e => by omega)
 refine ⟨?_, ?_, ?_, ?_⟩
 ·exact (hu1.setCell (p := ⟨w.heap.size, 0, none⟩) (.inl (Nat.le_refl _)) _).mono (fun j hj e => by omega)
 ·have h1 := hg.size
  have h2 := h.size
  simp [World.setCell] at h1 ⊢; omega
 ·have := blk_set (i := 0) (v := v') hc4
  simpa using this
 ·have := ownsRow_any hown (upd_own w4 w.heap.size 0 v') (fun k hk e => by have := (hown.lt k hk).1; omega)
  simpa using this
theorem pending_run {p : Nat} (w : World) (R : List El) (hlen : R.length ≤ 1099511627776)
  (hrow : Calls Tryz.prog 76 #[.pointer (some ⟨p, 0, none⟩)] (w.alloc (.cells #[.slice none 0 0] 33)) fun e w' => e = .returned (.func (.func 141) #[] #[.pointer (some ⟨w.heap.size + 1, 0, none⟩)]) ∧ ∃ v, RowT (w.alloc (.cells #[.slice none 0 0] 33)) w' (w.heap.size + 1) R v) :
  Calls Tryz.prog 68 #[.pointer (some ⟨p, 0, none⟩)] w fun e w' => ∃ u, e = .returned u ∧ w'.ownsRow w.heap.size 3 1 u R.length (R.map fun x => .int .i64 x.1.1) ∧ Upd (fun _ => False) w w' := by
 have HR := Lib.hid hrow
 clear hrow
 refine (callsIn_wide (n := 3)).1 ?_
 refine callsIn_of_wp_marks Tryz.func68 rfl trivial ?_ rfl
 simp only [Tryz.ntmps68, List.size_toArray, List.length_cons, List.length_nil, Nat.reduceAdd, Nat.reduceSub, Array.replicate_succ, Array.replicate_zero, List.push_toArray, List.append_toArray, List.nil_append, List.cons_append]
 gi_wp2_with (refine ⟨trivial, ?_⟩; gi_at_call 76; refine (callsIn_wide.2 HR.out).mono ?_; rintro e w' ⟨rfl, v, hv⟩)
 have hsz : w.heap.size + 1 < w'.heap.size := lt_of_heap hv.cell
 have HV := Lib.hid hv
 have hP := PendAt.start hv
 have hlt : ∀ k, v.ownBlock = some k → k < w'.heap.size := fun k hk => by
  rcases hv.row with ⟨rfl, _⟩ | ⟨gg, cap, rfl, _, hg, _⟩
  ·simp [Value.ownBlock] at hk
  ·simp [Value.ownBlock] at hk; omega
 have hS : ∀ k, (k = w.heap.size + 1 ∨ v.ownBlock = some k) → k < w'.heap.size := fun k hk => hk.elim (fun e => by omega) (hlt k)
 have hrow2 : (v = .slice none 0 0 ∧ R = []) ∨ ∃ gg cap, v = .slice (some ⟨gg, 0, none⟩) R.length cap ∧ (gg = w.heap.size + 1 ∨ v.ownBlock = some gg) ∧ ∀ i x, R[i]? = some x → w'.rangeAt gg (i * 66) (encE x) := by
  rcases hv.row with ⟨h1, h2⟩ | ⟨gg, cap, h1, _, _, h2⟩
  ·exact .inl ⟨h1, h2⟩
  ·exact .inr ⟨gg, cap, h1, .inr (by rw [h1]; rfl), h2⟩
 have hbl : ∀ k, (k = w.heap.size + 1 ∨ v.ownBlock = some k) → k ≠ w.heap.size := fun k hk => by
  rcases hk with e | e
  ·omega
  ·rcases hv.row with ⟨rfl, _⟩ | ⟨gg, cap, rfl, h1, _, _⟩
   ·simp [Value.ownBlock] at e
   ·simp [Value.ownBlock] at e; simp at h1; omega
 refine wpIn_rangeFunc_ownG rfl (by omega) (gf := 141) (lb := #[.pointer (some ⟨w.heap.size + 1, 0, none⟩)]) rfl trivial (enters_of Tryz.func141 (by kernel_rfl) rfl)
  (row_stops Fence.wide (3 - 1) trivial rfl (by omega) (w.heap.size + 1) (fun k => k = w.heap.size + 1 ∨ v.ownBlock = some k) v R hlen w' hS (by omega) (cells1_of hv.cell) hrow2)
  (fun h k => h.trans k) (fun W l o o' hl _ _ _ k hk => by
   have h1 := hS k hk
   have h2 : ¬ l = k := by omega
   simp [World.putObj, h2]) (Below.refl _ _) (fun _ => rfl)
  (fun pre W => ∃ u, PendAt w w' pre W u) (fun _ _ _ => False) ?hI (fun _ _ _ _ _ hs _ _ => hs) ⟨_, hP⟩
  (fun x => { tmps := #[.pointer (some ⟨p, 0, none⟩), undef, .slice none 0 0, .pointer (some ⟨w.heap.size, 0, none⟩), .int .i64 x.1.1, .pointer (some ⟨p, 0, none⟩), .bool false, .pointer (some ⟨p, 0, none⟩),
   .func (.func 141) #[] #[.pointer (some ⟨w.heap.size + 1, 0, none⟩)], .int .i64 x.1.1, .agg (vcells x.1.2).toArray, undef, undef, undef, undef, undef], defers := [] }) ?assign ?body ?done ?stop
 case hI =>
  rintro pre W W' row ⟨u, hs⟩ hg hr
  exact ⟨u, hs.kept (by omega) hg hr⟩
 case assign =>
  intro l x W K hK
  gi_wp2
  exact hK
 case body =>
  rintro l pre x W ⟨u, hs⟩ hpl
  have c0 := cells1_of hs.cell
  have HS := Lib.hid hs
  have HB := Lib.hid hbl
  have HHS := Lib.hid hS
  clear hs hP hrow2 hS hbl hlt
  obtain ⟨i0, hi0, hz0, hz1, hz2⟩ := info_parts Tryz.info3p
  gi_wp2_with (gi_at_builtin
               refine wpListIn_append_own _ rfl _ _ 33 rfl w'.heap.size 3 i0 (.int .i64 0) 1 8 Tryz.underlying33 hi0 hz0 hz1 hz2 rfl (by decide) _ _ _ rfl (HS.out.own.alloc _) ⟨W.heap.size, 0, none⟩ 1 1 [atE x] rfl rfl (cell_one_new _ _ _) (by simp [atE, Value.oneCell']) (by unfold maxLen; omega) (by omega) (by have := HS.out.size; simp; omega) ?_
               intro v' w4 hown hgrow _
               have hlt5 := hown.lt
               obtain ⟨g4, cap4, rfl⟩ := ownsRow_succ hown
               have HST := Lib.hid (HS.out.step (by omega) hown hgrow)
               have hc4 : w4.heap[w.heap.size]? = some (.cells #[u] 33 (0, 0)) := by
                have hb := lt_of_heap HS.out.cell
                exact ((hgrow.block _ (by simp; omega) (fun e => by have := (HS.out.own.lt _ e.symm).1; omega)).trans (alloc_lt hb)).trans HS.out.cell
               have c4 := cells1_of hc4
               have f4 : w4.frozen? ⟨w.heap.size, 0, none⟩ = false := frozen_of_heap hc4
               have HK4 : RowKit.Hid (KeepsOthers W (w4.setCell ⟨w.heap.size, 0, none⟩ (.slice (some ⟨g4, 0, none⟩) (pre.length + 1) cap4))) := Lib.hid
                (((KeepsOthers.alloc W _).trans (KeepsOthers.of_grownBy hgrow (fun j o e ho => by
                 rcases HS.out.own.2 with ⟨rfl, _⟩ | ⟨g, cap, cur, rfl, _, hgb, _⟩
                 ·cases e
                 ·cases e
                  have h1 := (alloc_lt (w := W) (o := .cells #[atE x] 3) (lt_of_heap hgb)).trans hgb
                  have h3 := h1.symm.trans ho
                  cases h3; rfl))).trans (KeepsOthers.setCell _ _ _))
               have HKE : RowKit.Hid (Keep (fun k => k = w.heap.size + 1 ∨ v.ownBlock = some k) W (w4.setCell ⟨w.heap.size, 0, none⟩ (.slice (some ⟨g4, 0, none⟩) (pre.length + 1) cap4))) := Lib.hid (fun k hk => by
                have h1 := HHS.out k hk
                have h2 := HS.out.size
                rw [set_ne (HB.out k hk), hgrow.block k (by simp; omega) (fun e => by have := (HS.out.own.lt _ e.symm).1; omega), alloc_lt (by omega)])
               clear hown hgrow hlt5 hc4 c0 hi0 hz0 hz1 hz2)
  exact ⟨HK4.out.from _, HKE.out, _, HST.out⟩
 case done =>
  rintro D ys W hD rfl ⟨u, hs⟩ hK
  have c0 := cells1_of hs.cell
  have HS := Lib.hid hs
  clear hs hP hrow2 hS hbl hlt
  gi_wp2
  refine ⟨by simp, .inl ⟨_, _, rfl, run_takeDeferred hK, ?_⟩⟩
  have h2 := HS.out.kept (W' := W.putObj D (.deferred none)) (row := some D) (by omega) (grownBy_putObj' _ D _) (fun r e => by cases e; exact ⟨hD, _, hK, rfl⟩)
  exact ⟨_, results_tmp rfl _ _ _, u, rfl, own_mono h2.own (by omega), h2.upd⟩
 case stop =>
  rintro D c pre W _ _ h _
  exact h.elim
end
end Go.Proofs.YtbimkhdiplnbfaaGreat
