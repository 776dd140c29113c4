/- Walks of the disk: row's iterator. -/
import Derived.Test.YtbimkhdiplnbfaaGreatF14
import Derived.Sort.LoopGhostIn
import Derived.Sort.CutIn
set_option linter.unusedVariables false
set_option linter.unusedSimpArgs false

section
namespace Go.Proofs.YtbimkhdiplnbfaaGreat
set_option maxRecDepth 100000
open Go.RowKit Go.Shelf

attribute [local go_sem] Oper.semAt_some

theorem Tryz.size221 : (Tryz.prog.info? 221).map (·.size) = some 66 := by kernel_rfl
theorem Tryz.zsize221 : Tryz.zeroCells221.size = 66 := by kernel_rfl

def Keep (S : Nat → Prop) (W W' : World) : Prop := ∀ k, S k → W'.heap[k]? = W.heap[k]?
theorem Keep.refl (S : Nat → Prop) (W : World) : Keep S W W := fun _ _ => rfl
theorem Keep.trans {S : Nat → Prop} {A B C : World} (h : Keep S A B) (k : Keep S B C) : Keep S A C := fun j hj => (k j hj).trans (h j hj)
theorem Keep.lt {S : Nat → Prop} {W W' : World} (h : Keep S W W') {k : Nat} (hk : S k) (hl : k < W.heap.size) : k < W'.heap.size := by
 have := h k hk
 rw [Array.getElem?_eq_getElem hl] at this
 exact (Array.getElem?_eq_some_iff.1 this).1
theorem Keep.cell {S : Nat → Prop} {W W' : World} (h : Keep S W W') {k o : Nat} (hk : S k) : W'.cell? ⟨k, o, none⟩ = W.cell? ⟨k, o, none⟩ := by
 simp [World.cell?, h k hk]
theorem Keep.rangeAt {S : Nat → Prop} {W W' : World} (h : Keep S W W') {k o : Nat} {cs : List Value} (hk : S k) (hr : W.rangeAt k o cs) : W'.rangeAt k o cs := fun j v hv => (h.cell hk).trans (hr j v hv)

set_option maxRecDepth 100000 in
set_option maxHeartbeats 4000000 in
theorem iter_in (F : Fence) (n : Nat) (hf : F.fn 141) (hro : F.round = none) (hn : 1 ≤ n) (l b gg cap : Nat) (S : Nat → Prop) (R : List El) (hlen : R.length ≤ 1099511627776) (hg : S gg) (J Jx : List El → World → Prop)
  (W : World) (hS : ∀ k, S k → k < W.heap.size) (hJ : AbidesFrom W.heap.size J)
  (hY : ∀ pre x W1, J pre W1 → pre.length < R.length → YieldAt F (n - 1) Tryz.prog l #[.int .i64 x.1.1, .agg (vcells x.1.2).toArray] W1 fun e W' =>
   (e = .returned (.bool true) ∧ J (pre ++ [x]) W' ∧ Keep S W1 W') ∨ (e = .returned (.bool false) ∧ Jx (pre ++ [x]) W'))
  (hc : W.cell? ⟨b, 0, none⟩ = some (.slice (some ⟨gg, 0, none⟩) R.length cap)) (hrows : ∀ i x, R[i]? = some x → W.rangeAt gg (i * 66) (encE x)) (h0 : J [] W) :
  CallsIn F n Tryz.prog 141 #[.func (.yield l) #[] #[], .pointer (some ⟨b, 0, none⟩)] W fun e W' => (∃ v, e = .returned v) ∧ ((∃ ys, ys = R ∧ J ys W') ∨ (∃ pre, pre <+: R ∧ Jx pre W')) := by
 have HRW := Lib.hid hrows
 have HJ := Lib.hid hJ
 clear hrows hJ
 refine callsIn_of_wp Tryz.func141 rfl hf ?_ hro
 simp only [Tryz.ntmps141, List.size_toArray, List.length_cons, List.length_nil, Nat.reduceAdd, Nat.reduceSub, Array.replicate_succ, Array.replicate_zero, List.push_toArray, List.append_toArray, List.nil_append, List.cons_append]
 gi_wp2
 clear hc
 gi_loopg [7] R.length (fun gi i wr => ∃ k : Nat, k ≤ R.length ∧ gi = R.length - k ∧ i = .int .i64 k ∧ J (R.take k) wr ∧ Keep S W wr)
 case atStart => exact ⟨0, Nat.zero_le _, rfl, rfl, h0, Keep.refl _ _⟩
 case round =>
  obtain ⟨k, hk, rfl, rfl, hJs, hnx⟩ := hrel
  have HJS := Lib.hid hJs
  have HNX := Lib.hid hnx
  clear hJs hnx
  gi_upto_region 2 with fail
  ·have hkt : k < R.length := by assumption
   have hki : (k : Int) < R.length := by omega
   obtain ⟨x, hx⟩ : ∃ x, R[k]? = some x := ⟨R[k], by simp [hkt]⟩
   have hxl := encE_length x
   have hi : (Tryz.prog.info? 221).map (·.size) = some (encE x).length := by rw [Tryz.size221, hxl]
   have hrg : wr.rangeAt gg (k * 66) (encE x) := HNX.out.rangeAt hg (HRW.out k x hx)
   have HX := Lib.hid hx; have HXL := Lib.hid hxl; have HI := Lib.hid hi; have HRG := Lib.hid hrg
   clear hx hxl hi hrg
   iterate 4 gi_step
   refine wpListIn_exec rfl (fun _ h => by cases h) rfl (run_load_mid' rfl rfl (encE x) HRG.out Tryz.underlying221 rfl HI.out) ?_
   iterate 3 gi_step
   have hblk : (wr.alloc (.cells Tryz.zeroCells221 221)).heap[wr.heap.size]? = some (.cells Tryz.zeroCells221 221 (0, 0)) := alloc_at rfl
   have hth : (wr.alloc (.cells Tryz.zeroCells221 221)).there wr.heap.size 0 (encE x).toArray.size := by
    have := there_block hblk
    rwa [show Tryz.zeroCells221.size = (encE x).toArray.size by rw [Tryz.zsize221]; simp [HXL.out]] at this
   refine wpListIn_exec_skip rfl (fun _ h => by cases h) rfl (run_store_mid' rfl rfl rfl hth (by rw [HI.out]; simp) (all_oneCell_toArray (encE_one x))) ?_
   have hb2 := heap_setCells_whole (vs := encE x) hblk (by rw [Tryz.zsize221, HXL.out])
   have hU2 : Upd (fun _ => False) wr ((wr.alloc (.cells Tryz.zeroCells221 221)).setCells wr.heap.size 0 (encE x)) := by
    have := Upd.setCells (F := fun j => wr.heap.size ≤ j) (b := wr.heap.size) (Nat.le_refl _) (encE x) 0 ((Upd.refl _ wr).alloc (.cells Tryz.zeroCells221 221))
    exact this.mono (fun j hj e => by omega)
   have HJ2 := Lib.hid (HJ.out (R.take k) wr _ none HJS.out ⟨hU2.os, hU2.tape, hU2.output, hU2.size, fun j hj _ => hU2.block j hj (fun e => e)⟩ (fun r e => by cases e))
   have HNX2 : RowKit.Hid (Keep S W ((wr.alloc (.cells Tryz.zeroCells221 221)).setCells wr.heap.size 0 (encE x))) :=
    Lib.hid (HNX.out.trans (fun j hj => hU2.block j (HNX.out.lt hj (hS j hj)) (fun e => e)))
   clear hblk hth hU2
   obtain ⟨b2, hb2e⟩ : ∃ b2, b2 = wr.heap.size := ⟨_, rfl⟩
   simp only []
   generalize (wr.alloc (.cells Tryz.zeroCells221 221)).setCells wr.heap.size 0 (encE x) = W2 at *
   rw [← hb2e] at hb2 ⊢
   have c0 : W2.cell? ⟨b2, 0, none⟩ = some (.int .i64 x.1.1) := by rw [cell_of_heap hb2]; simp [encE, ecells]
   have hrg2 : W2.rangeAt b2 1 (vcells x.1.2) := by
    intro j v hv
    rw [cell_of_heap hb2]
    have e : (encE x).toArray[1 + j]? = (vcells x.1.2)[j]? := by rw [Nat.add_comm]; simp [encE, ecells]
    rw [e]; exact hv
   have hi2 : (Tryz.prog.info? 124).map (·.size) = some (vcells x.1.2).length := by rw [Tryz.size124, vcells_length x.2.1]
   have HRG2 := Lib.hid hrg2; have HI2 := Lib.hid hi2
   clear hb2 hb2e hrg2 hi2
   obtain ⟨fn, tmps, assign, body, hy, hR⟩ := hY _ x W2 HJ2.out (by rw [List.length_take]; omega)
   have HRR := Lib.hid hR
   have HYY := Lib.hid hy
   clear hR hy
   gi_upto_region 3 with fail
   iterate 13 gi_step
   refine wpListIn_exec rfl (fun _ h => by cases h) rfl (run_load_mid' rfl rfl (vcells x.1.2) HRG2.out Tryz.underlying124 rfl HI2.out) ?_
   have hy := HYY.out
   gi_wp2
   refine HRR.out.mono ?_
   have htk : R.take k ++ [x] = R.take (k + 1) := by rw [List.take_add_one, HX.out]; simp
   rw [htk]
   rintro e W3 (⟨rfl, hJ3, hk3⟩ | ⟨rfl, hJx3⟩)
   ·have HJ3 := Lib.hid hJ3; have HK3 := Lib.hid hk3
    clear hJ3 hk3 htk hy
    gi_wp2
    gi_roundg (R.length - (k + 1))
    case measure => omega
    case rel => exact ⟨k + 1, by omega, rfl, by go_num, HJ3.out, HNX2.out.trans HK3.out⟩
   ·have HJ3 := Lib.hid hJx3
    clear hJx3 htk hy
    gi_wp2
    refine bodyPost_ret (results_none rfl _ _ _) rfl ?_
    exact ⟨⟨_, rfl⟩, .inr ⟨_, List.take_prefix _ _, HJ3.out⟩⟩
  ·obtain rfl : k = R.length := by omega
   refine bodyPost_end (results_none rfl _ _ _) rfl ?_
   have := HJS.out
   rw [List.take_length] at this
   exact ⟨⟨_, rfl⟩, .inl ⟨_, rfl, this⟩⟩

set_option maxRecDepth 100000 in
set_option maxHeartbeats 1000000 in
theorem iter_nil_in (F : Fence) (n : Nat) (hf : F.fn 141) (hro : F.round = none) (l b : Nat) (J : List El → World → Prop) (W : World) (hc : W.cell? ⟨b, 0, none⟩ = some (.slice none 0 0)) (h0 : J [] W) :
  CallsIn F n Tryz.prog 141 #[.func (.yield l) #[] #[], .pointer (some ⟨b, 0, none⟩)] W fun e W' => (∃ v, e = .returned v) ∧ J [] W' := by
 refine callsIn_of_wp Tryz.func141 rfl hf ?_ hro
 simp only [Tryz.ntmps141, List.size_toArray, List.length_cons, List.length_nil, Nat.reduceAdd, Nat.reduceSub, Array.replicate_succ, Array.replicate_zero, List.push_toArray, List.append_toArray, List.nil_append, List.cons_append]
 gi_wp2
 gi_loopg [7] 0 (fun gi i wr => gi = 0 ∧ i = .int .i64 0 ∧ J [] wr)
 case atStart => exact ⟨rfl, rfl, h0⟩
 case round =>
  obtain ⟨rfl, rfl, hJs⟩ := hrel
  have HJS := Lib.hid hJs
  clear hJs h0
  gi_wp2
  refine bodyPost_end (results_none rfl _ _ _) rfl ?_
  exact ⟨⟨_, rfl⟩, HJS.out⟩

theorem row_stops (F : Fence) (n : Nat) (hf : F.fn 141) (hro : F.round = none) (hn : 1 ≤ n) (b : Nat) (S : Nat → Prop) (v : Value) (R : List El) (hlen : R.length ≤ 1099511627776) (w : World) (hS : ∀ k, S k → k < w.heap.size) (hb : b < w.heap.size) (hc : w.cell? ⟨b, 0, none⟩ = some v)
  (hrow : (v = .slice none 0 0 ∧ R = []) ∨ ∃ gg cap, v = .slice (some ⟨gg, 0, none⟩) R.length cap ∧ S gg ∧ ∀ i x, R[i]? = some x → w.rangeAt gg (i * 66) (encE x)) :
  SeqStopsK F n Tryz.prog 141 #[.pointer (some ⟨b, 0, none⟩)] (fun x : El => #[.int .i64 x.1.1, .agg (vcells x.1.2).toArray]) (Keep S) (fun ys => ys = R) (fun pre => pre <+: R) R.length w := fun l J Jx W hW hJ _ hY h0 => by
 have hc' := (hW.cell (p := ⟨b, 0, none⟩) hb).trans hc
 rcases hrow with ⟨rfl, rfl⟩ | ⟨gg, cap, rfl, hg, hrs⟩
 ·exact (iter_nil_in F n hf hro l b J W hc' h0).mono fun e W' ⟨he, hj⟩ => ⟨he, .inl ⟨_, rfl, hj⟩⟩
 ·exact iter_in F n hf hro hn l b gg cap S R hlen hg J Jx W (fun k hk => Nat.lt_of_lt_of_le (hS k hk) hW.size) hJ hY hc' (fun i x hx j v hv => (hW.cell (p := ⟨gg, i * 66 + j, none⟩) (hS gg hg)).trans (hrs i x hx j v hv)) h0

end Go.Proofs.YtbimkhdiplnbfaaGreat
end

section
namespace Go.Proofs.YtbimkhdiplnbfaaGreat
set_option maxRecDepth 100000
open Go.RowKit Go.Shelf

attribute [local go_sem] Oper.semAt_some

structure RowT (w0 w : World) (b : Nat) (R : List El) (v : Value) : Prop where
 upd : Upd (fun _ => False) w0 w
 cell : w.heap[b]? = some (.cells #[v] 219 (0, 0))
 row : (v = .slice none 0 0 ∧ R = []) ∨ ∃ gg cap, v = .slice (some ⟨gg, 0, none⟩) R.length cap ∧ w0.heap.size ≤ gg ∧ gg < w.heap.size ∧ ∀ i x, R[i]? = some x → w.rangeAt gg (i * 66) (encE x)

end Go.Proofs.YtbimkhdiplnbfaaGreat
end

