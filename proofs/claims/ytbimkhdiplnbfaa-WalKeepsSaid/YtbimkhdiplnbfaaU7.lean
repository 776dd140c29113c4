/- Walks of the laws: slices.Repeat of one byte, Call.block, wide. -/
import Derived.Test.YtbimkhdiplnbfaaU4
import Derived.Test.YtbimkhdiplnbfaaU5
import Derived.Laws.CopyOwn
import Derived.Laws.CopyRow

section
namespace Go.Proofs.Ytbimkhdiplnbfaa
open Go.RowKit Go.Deep

theorem Try.info5 : (Try.prog.info? 5).map (fun i => (i.zero, i.size, i.bytes)) = some (some (.int .u8 0), 1, 1) := by kernel_rfl

set_option maxHeartbeats 1000000 in
theorem mul_run (w : World) : Calls Try.prog 114 #[.int .u64 1, .int .u64 64] w fun e w' => e = .returned (.tuple #[.int .u64 0, .int .u64 64]) ∧ w = w' := by
  go_enter Try.func114, Try.ntmps114
  go_wp2
  go_returns
  exact ⟨by kernel_rfl, rfl⟩

theorem wide_range (n : Int) : 0 ≤ (IntKind.u64.wrap n).tmod 10 ∧ (IntKind.u64.wrap n).tmod 10 < 10 := by
  have h1 : 0 ≤ IntKind.u64.wrap n := by
    simp [IntKind.wrap, IntKind.signed, IntKind.bits]
    omega
  rw [Int.tmod_eq_emod_of_nonneg h1]
  omega

set_option maxHeartbeats 400000 in
theorem wide_any (n : Int) : ∃ N : Nat, (1 ≤ N ∧ N ≤ 10) ∧ ∀ w, Calls Try.prog 33 #[.int .i64 n] w fun e w' => e = .returned (.int .i64 N) ∧ w = w' := by
  have hr := wide_range n
  refine ⟨(1 + (IntKind.u64.wrap n).tmod 10).toNat, by omega, fun w => ?_⟩
  have e1 : wrap64 ((IntKind.u64.wrap n).tmod 10) = (IntKind.u64.wrap n).tmod 10 := IntWalk.wrap64_in _ (by omega)
  have e2 : wrap64 (1 + wrap64 ((IntKind.u64.wrap n).tmod 10)) = (1 + (IntKind.u64.wrap n).tmod 10).toNat := by
    rw [e1, IntWalk.wrap64_in _ (by omega)]; omega
  go_enter Try.func33, Try.ntmps33
  go_wp2
  go_ret
  exact ⟨ret_int (by omega), rfl⟩

/-- What Repeat has laid: the first k are c, the rest noughts. -/
def repCells (c : Int) (k : Nat) : List Value := List.replicate k (.int .u8 c) ++ List.replicate (64 - k) (.int .u8 0)

theorem repCells_length (c : Int) {k : Nat} (h : k ≤ 64) : (repCells c k).length = 64 := by simp [repCells]; omega

theorem repCells_zero (c : Int) : (madeCells #[Value.int .u8 0] 64).toList = repCells c 0 := by
  rw [toList_madeCells_one]; simp [repCells]

theorem repCells_step (c : Int) (k m : Nat) (_h : k + m ≤ 64) : (repCells c k).take k ++ (List.replicate m (Value.int .u8 c) ++ (repCells c k).drop (k + m)) = repCells c (k + m) := by
  have e1 : (repCells c k).take k = List.replicate k (.int .u8 c) := by simp [repCells]
  have e2 : (repCells c k).drop (k + m) = List.replicate (64 - (k + m)) (.int .u8 0) := by
    simp only [repCells, List.drop_append, List.length_replicate, List.drop_replicate]
    have : k - (k + m) = 0 := by omega
    rw [this]
    simp
    omega
  rw [e1, e2]
  simp only [repCells]
  rw [← List.append_assoc]
  simp

theorem oper_copy_own {P : Program} {w : World} {o : Oper} {a : Act} {K : Act → World → Prop} {Q : Exit → Act → World → Prop} (d s : Operand) (dT sT : TypeId)
    (ho : o.op = .call { callee := .builtin .copy, args := #[d, s], argTypes := #[dT, sT] }) (elem : TypeId) (hu : P.underlying dT = some (.slice elem)) (hsz : (P.info? elem).map (·.size) = some 1)
    (g off dLen dCap : Nat) (ad : Addr) (sLen sCap : Nat) (hd : a.eval d = .slice (some ⟨g, off, none⟩) dLen dCap) (hs : a.eval s = .slice (some ad) sLen sCap)
    (cur : Array Value) (t : TypeId) (hg : w.heap[g]? = some (.cells cur t (0, 0))) (cs : List Value) (hn : cs.length = Nat.min sLen dLen)
    (hsrc : ∀ j v, cs[j]? = some v → w.cell? (ad.add j) = some v) (hfit : off + cs.length ≤ cur.size) (h1 : ∀ v ∈ cs, v.oneCell' = true)
    (hK : K (a.put o.dst (goInt cs.length)) (w.setRow g (cur.toList.take off ++ (cs ++ cur.toList.drop (off + cs.length))).toArray)) : o.wp P a w K Q := by
  have hrun := run_copy_row (P := P) w dT sT o.type elem g off dLen dCap ad sLen sCap cur t cs hu hsz hg hn hsrc hfit h1
  unfold Oper.wp
  simp [execOp, ho, resolve, invoke, builtin, hd, hs, hrun, Result.andThen]
  exact hK

theorem Try.size5 : (Try.prog.info? 5).map (·.size) = some 1 := by kernel_rfl

theorem setRow_at {w : World} {g : Nat} {cs cur : Array Value} {t : TypeId} (h : w.heap[g]? = some (.cells cur t (0, 0))) : (w.setRow g cs).heap[g]? = some (.cells cs t (0, 0)) := by
  simp [World.setRow, Array.getElem?_modify, h]

theorem Upd.setRow {F : Nat → Prop} {a w : World} (h : Upd F a w) {g : Nat} (hg : F g ∨ a.heap.size ≤ g) (cs : Array Value) : Upd F a (w.setRow g cs) :=
  ⟨h.os, h.tape, h.output, Nat.le_trans h.size (by simp [World.setRow]), fun k hk hf => by
    rw [setRow_other w g k cs (by rintro rfl; rcases hg with hg | hg; exact hf hg; omega)]
    exact h.block k hk hf⟩

set_option maxRecDepth 100000 in
set_option maxHeartbeats 1000000 in
theorem repeat_run {b : Nat} {c : Int} (w : World) (hb : w.heap[b]? = some (.cells #[.int .u8 c] 5 (0, 0))) :
    Calls Try.prog 83 #[.slice (some ⟨b, 0, none⟩) 1 1, .int .i64 64] w fun e w' => e = .returned (.slice (some ⟨w.heap.size, 0, none⟩) 64 64) ∧ w'.heap[w.heap.size]? = some (.cells (repCells c 64).toArray 5 (0, 0)) ∧ Upd (fun _ => False) w w' := by
  have hmk : ∀ w : World, (Instr.makeSlice 28 (.int .i64 64) (.int .i64 64)).run Try.prog w = .ok (.slice (some ⟨w.heap.size, 0, none⟩) 64 64) (w.alloc (.cells (madeCells #[.int .u8 0] 64) 5)) := run_make_row' (P := Try.prog) 28 5 (.int .u8 0) 1 Try.underlying28 Try.info5 rfl .i64 .i64 64 (by omega) (by omega)
  have HB := Lib.hid hb
  have hlb := lt_of_heap hb
  clear hb
  go_enter Try.func83, Try.ntmps83
  go_upto_region 7 with (go_at_call 114; refine (mul_run _).mono ?_; rintro e w' ⟨rfl, rfl⟩)
  iterate 7 go_step
  have hmz : (w.alloc (.cells (madeCells #[.int .u8 0] 64) 5)).heap[w.heap.size]? = some (.cells (repCells c 0).toArray 5 (0, 0)) := by
    rw [alloc_at rfl, ← repCells_zero c]
  have hcb : (w.alloc (.cells (madeCells #[.int .u8 0] 64) 5)).cell? ⟨b, 0, none⟩ = some (.int .u8 c) := cells1_of ((alloc_lt hlb).trans HB.out)
  refine wpList_copy_own rfl _ _ 28 28 rfl 5 Try.underlying28 Try.size5 w.heap.size 0 64 64 ⟨b, 0, none⟩ 1 1 rfl rfl _ 5 hmz [.int .u8 c] rfl (by
    intro j v hj
    cases j with
    | zero => simp at hj; subst hj; exact hcb
    | succ j => simp at hj) (by simp [repCells_length c (Nat.zero_le 64)]) (by simp [Value.oneCell']) ?_
  have hz := setRow_at (cs := (((repCells c 0).toArray.toList.take 0 ++ ([Value.int .u8 c] ++ (repCells c 0).toArray.toList.drop (0 + [Value.int .u8 c].length)))).toArray) hmz
  have hu1 : Upd (fun _ => False) w ((w.alloc (.cells (madeCells #[.int .u8 0] 64) 5)).setRow w.heap.size (((repCells c 0).toArray.toList.take 0 ++ ([Value.int .u8 c] ++ (repCells c 0).toArray.toList.drop (0 + [Value.int .u8 c].length)))).toArray) :=
    ((Upd.refl _ w).alloc _).setRow (.inr (Nat.le_refl _)) _
  obtain ⟨W1, hW1⟩ : ∃ W1, W1 = ((w.alloc (.cells (madeCells #[.int .u8 0] 64) 5)).setRow w.heap.size (((repCells c 0).toArray.toList.take 0 ++ ([Value.int .u8 c] ++ (repCells c 0).toArray.toList.drop (0 + [Value.int .u8 c].length)))).toArray) := ⟨_, rfl⟩
  rw [← hW1] at hz hu1 ⊢
  have hz1 : W1.heap[w.heap.size]? = some (.cells (repCells c 1).toArray 5 (0, 0)) := by
    rw [hz, ← repCells_step c 0 1 (by omega)]; rfl
  have HZ := Lib.hid hz1; have HU := Lib.hid hu1
  clear hz hu1 hz1 hW1 hmz hcb hmk
  go_wp2
  go_loopg [8] 63 (fun gk i wr => ∃ k : Nat, 1 ≤ k ∧ k ≤ 64 ∧ gk = 64 - k ∧ i = .int .i64 k ∧ wr.heap[w.heap.size]? = some (.cells (repCells c k).toArray 5 (0, 0)) ∧ Upd (fun _ => False) w wr)
  case atStart => exact ⟨1, Nat.le_refl _, by omega, rfl, rfl, HZ.out, HU.out⟩
  case round =>
    obtain ⟨k, hk1, hk, rfl, rfl, hz, hu⟩ := hrel
    have HZ2 := Lib.hid hz; have HU2 := Lib.hid hu
    clear hz hu HZ HU
    go_upto_region 9 with fail
    · have hlt : k < 64 := by omega
      have e3 : 64 - (64 - k) = k := by omega
      refine wp_region_G 9 (fun _ => True) [false, false, false, false, false, false, false, false, false, false] rfl (by kernel_rfl) ?_
      refine wpG_take (i := 0) (v := .int .i64 (k : Int)) rfl (by kernel_rfl) (fun _ _ _ h => h) trivial (.inl ⟨rfl, fun w5 q1 => ?_⟩) ?_
      · go_simp
      simp only [Act.put, List.setIfInBounds_toArray, List.set]
      refine wpG_take (i := 1) (v := .slice (some ⟨w.heap.size, 0, none⟩) 64 64) rfl (by kernel_rfl) (fun _ _ _ h => h) trivial (.inl ⟨rfl, fun w5 q1 => ?_⟩) ?_
      · go_simp
      simp only [Act.put, List.setIfInBounds_toArray, List.set]
      refine wpG_take (i := 2) (v := .int .i64 (k : Int)) rfl (by kernel_rfl) (fun _ _ _ h => h) trivial (.inl ⟨rfl, fun w5 q1 => ?_⟩) ?_
      · go_simp
      simp only [Act.put, List.setIfInBounds_toArray, List.set]
      refine wpG_take (i := 3) (v := .slice (some ⟨w.heap.size, k, none⟩) (64 - k) (64 - k)) rfl (by kernel_rfl) (fun _ _ _ h => h) trivial (.inl ⟨rfl, fun w5 q1 => ?_⟩) ?_
      · go_simp; rw [if_pos (by omega), if_neg (by omega)]
      simp only [Act.put, List.setIfInBounds_toArray, List.set]
      refine wpG_take (i := 4) (v := .slice (some ⟨w.heap.size, 0, none⟩) 64 64) rfl (by kernel_rfl) (fun _ _ _ h => h) trivial (.inl ⟨rfl, fun w5 q1 => ?_⟩) ?_
      · go_simp
      simp only [Act.put, List.setIfInBounds_toArray, List.set]
      refine wpG_take (i := 5) (v := .int .i64 (k : Int)) rfl (by kernel_rfl) (fun _ _ _ h => h) trivial (.inl ⟨rfl, fun w5 q1 => ?_⟩) ?_
      · go_simp
      simp only [Act.put, List.setIfInBounds_toArray, List.set]
      refine wpG_take (i := 6) (v := .slice (some ⟨w.heap.size, 0, none⟩) k 64) rfl (by kernel_rfl) (fun _ _ _ h => h) trivial (.inl ⟨rfl, fun w5 q1 => ?_⟩) ?_
      · go_simp; intro hx; exact absurd hx (by omega)
      simp only [Act.put, List.setIfInBounds_toArray, List.set]
      refine wpG_do (i := 7) rfl (by kernel_rfl) rfl (fun K hK => ?_)
      have HK := Lib.hid hK
      clear hK
      obtain ⟨m, hm⟩ : ∃ m, m = min k (64 - k) := ⟨_, rfl⟩
      have hz3 : wr.drew.heap[w.heap.size]? = some (.cells (repCells c k).toArray 5 (0, 0)) := HZ2.out
      refine oper_copy_own _ _ 28 28 rfl 5 Try.underlying28 Try.size5 w.heap.size k (64 - k) (64 - k) ⟨w.heap.size, 0, none⟩ k 64 rfl rfl _ 5 hz3 (List.replicate m (.int .u8 c)) (by rw [List.length_replicate, hm]) (by
        intro j v hj
        have hjm : j < m := by have := (List.getElem?_eq_some_iff.1 hj).1; simpa using this
        have hjk : j < k := by omega
        rw [show (⟨w.heap.size, 0, none⟩ : Addr).add j = ⟨w.heap.size, j, none⟩ by unfold Addr.add; split <;> simp_all, cell_of_heap hz3]
        simp [hjm] at hj
        subst hj
        simp only [repCells, List.getElem?_toArray]
        rw [List.getElem?_append_left (by simpa using hjk)]
        simp [hjk]) (by simp [repCells_length c hk]; omega) (by simp [Value.oneCell']) ?_
      have hz4 := setRow_at (cs := ((repCells c k).toArray.toList.take k ++ (List.replicate m (Value.int .u8 c) ++ (repCells c k).toArray.toList.drop (k + (List.replicate m (Value.int .u8 c)).length))).toArray) hz3
      have hu4 : Upd (fun _ => False) w (wr.drew.setRow w.heap.size ((repCells c k).toArray.toList.take k ++ (List.replicate m (Value.int .u8 c) ++ (repCells c k).toArray.toList.drop (k + (List.replicate m (Value.int .u8 c)).length))).toArray) := HU2.out.drew.setRow (.inr (Nat.le_refl _)) _
      obtain ⟨W4, hW4⟩ : ∃ W4, W4 = (wr.drew.setRow w.heap.size ((repCells c k).toArray.toList.take k ++ (List.replicate m (Value.int .u8 c) ++ (repCells c k).toArray.toList.drop (k + (List.replicate m (Value.int .u8 c)).length))).toArray) := ⟨_, rfl⟩
      rw [← hW4] at hz4 hu4 ⊢
      have hz5 : W4.heap[w.heap.size]? = some (.cells (repCells c (k + m)).toArray 5 (0, 0)) := by
        rw [hz4, ← repCells_step c k m (by omega)]
        simp
      have HZ5 := Lib.hid hz5; have HU5 := Lib.hid hu4
      clear hz3 hz4 hu4 hz5 hW4 HZ2 HU2
      simp only [List.length_replicate, goInt]
      refine HK.out _ _ trivial ?_
      clear HK
      simp only [Act.put, List.setIfInBounds_toArray, List.set]
      refine wpG_do (i := 8) rfl (by kernel_rfl) rfl (fun K hK => ?_)
      have HK := Lib.hid hK
      clear hK
      go_step
      refine HK.out _ _ trivial ?_
      clear HK
      simp only [List.setIfInBounds_toArray, List.set]
      refine wpG_tail_lit (k := 9) rfl rfl (by kernel_rfl) ?_
      simp only [List.drop]
      go_wp2
      go_roundg (64 - (k + m))
      case measure => omega
      case rel => exact ⟨k + m, by omega, by omega, rfl, congrArg _ (by omega), HZ5.out, HU5.out⟩
    · have hkn : k = 64 := by omega
      subst hkn
      go_ret
      exact ⟨rfl, HZ2.out, HU2.out⟩

end Go.Proofs.Ytbimkhdiplnbfaa
end

section
namespace Go.Proofs.Ytbimkhdiplnbfaa
open Go.RowKit Go.Deep

def fill (c : Int) : List Int := List.replicate 64 c

theorem fill_ok {c : Int} (h : 0 ≤ c ∧ c ≤ 255) : okBlk (fill c) := ⟨by simp [fill], fun x hx => by
  have : x = c := by simpa [fill] using hx
  rw [this]; exact h⟩

theorem array_at (g : Nat) (w : World) : (Instr.arrayAt 56 (.slice (some ⟨g, 0, none⟩) 64 64)).run Try.prog w = .ok (.pointer (some ⟨g, 0, none⟩)) w := by
  simp [Instr.arrayAt, run_underlying Try.underlying56]

theorem results_cell1 {P : Program} {fn : Func} {ts : Array Value} {w : World} {a : Nat} {t : TypeId} {p : Addr} {v : Value} (hr : fn.results = #[.cell a t]) (ha : ts.getD a undef = .pointer (some p)) (hl : (loadVar t p).run P w = .ok v w) :
    (Go.results fn ts).run P w = .ok v w := by
  unfold Go.results
  rw [hr]
  have ha' : ts[a]?.getD undef = .pointer (some p) := by simpa using ha
  simp [asAddr, ha', hl]

theorem fill_cells (c : Int) : repCells c 64 = bcells (fill c) := by simp [repCells, bcells, fill]

/-- A call as it comes in. -/
def callV (k i n c : Int) (ka : Option Addr) (kn kc : Nat) : Value := .agg #[.int .i64 k, .int .i64 i, .int .i64 n, .int .u8 c, .slice ka kn kc]

set_option maxRecDepth 100000 in
set_option maxHeartbeats 2000000 in
theorem block_run (k i n c : Int) (ka : Option Addr) (kn kc : Nat) (w : World) :
    Calls Try.prog 35 #[callV k i n c ka kn kc] w fun e w' => e = .returned (.agg (bcells (fill c)).toArray) ∧ Upd (fun _ => False) w w' := by
  have hi : (Try.prog.info? 56).map (·.size) = some (bcells (fill c)).length := by rw [Try.info56p]; simp [bcells, fill]
  have H1B := Lib.hid (all_oneCell_toArray (bcells_one (fill c)))
  have HL : RowKit.Hid ((bcells (fill c)).length = 64) := Lib.hid (by simp [bcells, fill])
  have HF := Lib.hid (fill_cells c)
  have HI := Lib.hid hi
  clear hi
  unfold callV
  generalize bcells (fill c) = bs at *
  go_enter Try.func35, Try.ntmps35
  go_upto_region 1 with fail
  iterate 10 go_step
  have hcl := repeat_run (b := w.heap.size + 1 + 1) (c := c) (((w.alloc (.cells #[.int .i64 k, .int .i64 i, .int .i64 n, .int .u8 c, .slice ka kn kc] 51)).alloc (.cells (bcells zblk).toArray 56)).alloc (.cells #[.int .u8 c] 5)) (alloc_at (by simp))
  simp only [World.size_alloc] at hcl
  go_step
  go_step
  refine hcl.mono ?_
  rintro e w' ⟨rfl, h1, h2⟩
  have hz : (bcells zblk).toArray.size = 64 := by simp [bcells, zblk]
  have hu : Upd (fun _ => False) w w' := (((Upd.refl _ w).alloc _).alloc _).trans (((Upd.refl _ _).alloc _).trans h2)
  have hb : w'.heap[w.heap.size + 1]? = some (.cells (bcells zblk).toArray 56 (0, 0)) :=
    (h2.block _ (by simp) (fun e => e)).trans ((alloc_lt (by simp)).trans (alloc_at (by simp)))
  rw [HF.out] at h1
  have hth : w'.there (w.heap.size + 1) 0 bs.toArray.size := by
    have := there_block hb
    rwa [show (bcells zblk).toArray.size = bs.toArray.size by rw [hz]; simp [HL.out]] at this
  have hw := heap_setCells_whole (vs := bs) hb (by rw [hz, HL.out])
  have H1 := Lib.hid h1; have HU := Lib.hid hu; have HB := Lib.hid hb; have HT := Lib.hid hth; have HW := Lib.hid hw
  clear h1 h2 hu hb hth hw hz hcl
  simp only []
  have hat := array_at (w.heap.size + 1 + 1 + 1)
  iterate 4 go_step
  refine wpList_load_mid rfl 56 (.tmp 7) rfl (w.heap.size + 1 + 1 + 1) 0 rfl bs _ (rangeAt_block H1.out) Try.underlying56 rfl HI.out ?_
  refine wpList_store_mid rfl 56 (.tmp 2) (.tmp 8) rfl (w.heap.size + 1) 0 bs.toArray rfl rfl HT.out (by rw [HI.out]; simp) H1B.out ?_
  go_wp2
  have hl3 := run_loadVar_mid (P := Try.prog) (w'.setCells (w.heap.size + 1) 0 bs) (w.heap.size + 1) 0 56 bs _ (rangeAt_block HW.out) Try.underlying56 rfl HI.out
  refine bodyPost_ret (results_cell1 Try.results35 rfl hl3) rfl ⟨rfl, ?_⟩
  exact (Upd.setCells (F := fun k => w.heap.size ≤ k) (Nat.le_succ _) bs 0 (HU.out.mono (fun _ _ e => e.elim))).mono (fun j hj e => by omega)

end Go.Proofs.Ytbimkhdiplnbfaa
end

