/- Walks of the laws: slices.Repeat of one byte, Call.block, wide. -/
import Derived.Test.YtbimkhdiplnbfaaU3
import Derived.Test.YtbimkhdiplnbfaaU4
import Derived.Test.YtbimkhdiplnbfaaU5
import Derived.Laws.CopyOwn
import Derived.Laws.CopyRow
import Derived.Laws.MakeOwn

section
namespace Go.Proofs.Ytbimkhdiplnbfaa
open Go.RowKit Go.Deep

theorem Try.info5 : (Try.prog.info? 5).map (fun i => (i.zero, i.size, i.bytes)) = some (some (.int .u8 0), 1, 1) := by kernel_rfl

set_option maxHeartbeats 1000000 in
theorem mul_run (w : World) : Calls Try.prog 114 #[.int .u64 1, .int .u64 64] w fun e w' => e = .returned (.tuple #[.int .u64 0, .int .u64 64]) ∧ w = w' := by
  go_enter Try.func114, Try.ntmps114
  go_wp2
  go_returns
  exact ⟨by kernel_rfl, rfl⟩

theorem wide_range (n : Int) : 0 ≤ (IntKind.u64.wrap n).tmod 10 ∧ (IntKind.u64.wrap n).tmod 10 < 10 := by
  have h1 : 0 ≤ IntKind.u64.wrap n := by
    simp [IntKind.wrap, IntKind.signed, IntKind.bits]
    omega
  rw [Int.tmod_eq_emod_of_nonneg h1]
  omega

set_option maxHeartbeats 400000 in
theorem wide_any (n : Int) : ∃ N : Nat, (1 ≤ N ∧ N ≤ 10) ∧ ∀ w, Calls Try.prog 33 #[.int .i64 n] w fun e w' => e = .returned (.int .i64 N) ∧ w = w' := by
  have hr := wide_range n
  refine ⟨(1 + (IntKind.u64.wrap n).tmod 10).toNat, by omega, fun w => ?_⟩
  have e1 : wrap64 ((IntKind.u64.wrap n).tmod 10) = (IntKind.u64.wrap n).tmod 10 := IntWalk.wrap64_in _ (by omega)
  have e2 : wrap64 (1 + wrap64 ((IntKind.u64.wrap n).tmod 10)) = (1 + (IntKind.u64.wrap n).tmod 10).toNat := by
    rw [e1, IntWalk.wrap64_in _ (by omega)]; omega
  go_enter Try.func33, Try.ntmps33
  go_wp2
  go_ret
  exact ⟨ret_int (by omega), rfl⟩

/-- What Repeat has laid: the first k are c, the rest noughts. -/
def repCells (c : Int) (k : Nat) : List Value := List.replicate k (.int .u8 c) ++ List.replicate (64 - k) (.int .u8 0)

theorem repCells_length (c : Int) {k : Nat} (h : k ≤ 64) : (repCells c k).length = 64 := by simp [repCells]; omega

theorem repCells_zero (c : Int) : (madeCells #[Value.int .u8 0] 64).toList = repCells c 0 := by
  rw [toList_madeCells_one]; simp [repCells]

theorem repCells_step (c : Int) (k m : Nat) (_h : k + m ≤ 64) : (repCells c k).take k ++ (List.replicate m (Value.int .u8 c) ++ (repCells c k).drop (k + m)) = repCells c (k + m) := by
  have e1 : (repCells c k).take k = List.replicate k (.int .u8 c) := by simp [repCells]
  have e2 : (repCells c k).drop (k + m) = List.replicate (64 - (k + m)) (.int .u8 0) := by
    simp only [repCells, List.drop_append, List.length_replicate, List.drop_replicate]
    have : k - (k + m) = 0 := by omega
    rw [this]
    simp
    omega
  rw [e1, e2]
  simp only [repCells]
  rw [← List.append_assoc]
  simp

theorem oper_copy_own {P : Program} {w : World} {o : Oper} {a : Act} {K : Act → World → Prop} {Q : Exit → Act → World → Prop} (d s : Operand) (dT sT : TypeId)
    (ho : o.op = .call { callee := .builtin .copy, args := #[d, s], argTypes := #[dT, sT] }) (elem : TypeId) (hu : P.underlying dT = some (.slice elem)) (hsz : (P.info? elem).map (·.size) = some 1)
    (g off dLen dCap : Nat) (ad : Addr) (sLen sCap : Nat) (hd : a.eval d = .slice (some ⟨g, off, none⟩) dLen dCap) (hs : a.eval s = .slice (some ad) sLen sCap)
    (cur : Array Value) (t : TypeId) (hg : w.heap[g]? = some (.cells cur t (0, 0))) (cs : List Value) (hn : cs.length = Nat.min sLen dLen)
    (hsrc : ∀ j v, cs[j]? = some v → w.cell? (ad.add j) = some v) (hfit : off + cs.length ≤ cur.size) (h1 : ∀ v ∈ cs, v.oneCell' = true)
    (hK : K (a.put o.dst (goInt cs.length)) (w.setRow g (cur.toList.take off ++ (cs ++ cur.toList.drop (off + cs.length))).toArray)) : o.wp P a w K Q := by
  have hrun := run_copy_row (P := P) w dT sT o.type elem g off dLen dCap ad sLen sCap cur t cs hu hsz hg hn hsrc hfit h1
  unfold Oper.wp
  simp [execOp, ho, resolve, invoke, builtin, hd, hs, hrun, Result.andThen]
  exact hK

theorem Try.size5 : (Try.prog.info? 5).map (·.size) = some 1 := by kernel_rfl

theorem setRow_at {w : World} {g : Nat} {cs cur : Array Value} {t : TypeId} (h : w.heap[g]? = some (.cells cur t (0, 0))) : (w.setRow g cs).heap[g]? = some (.cells cs t (0, 0)) := by
  simp [World.setRow, Array.getElem?_modify, h]

theorem Upd.setRow {F : Nat → Prop} {a w : World} (h : Upd F a w) {g : Nat} (hg : F g ∨ a.heap.size ≤ g) (cs : Array Value) : Upd F a (w.setRow g cs) :=
  ⟨h.os, h.tape, h.output, Nat.le_trans h.size (by simp [World.setRow]), fun k hk hf => by
    rw [setRow_other w g k cs (by rintro rfl; rcases hg with hg | hg; exact hf hg; omega)]
    exact h.block k hk hf⟩

set_option maxRecDepth 100000 in
set_option maxHeartbeats 1000000 in
theorem repeat_run {b : Nat} {c : Int} (w : World) (hb : w.heap[b]? = some (.cells #[.int .u8 c] 5 (0, 0))) :
    Calls Try.prog 83 #[.slice (some ⟨b, 0, none⟩) 1 1, .int .i64 64] w fun e w' => e = .returned (.slice (some ⟨w.heap.size, 0, none⟩) 64 64) ∧ w'.heap[w.heap.size]? = some (.cells (repCells c 64).toArray 5 (0, 0)) ∧ Upd (fun _ => False) w w' := by
  have hmk : ∀ w : World, (Instr.makeSlice 28 (.int .i64 64) (.int .i64 64)).run Try.prog w = .ok (.slice (some ⟨w.heap.size, 0, none⟩) 64 64) (w.alloc (.cells (madeCells #[.int .u8 0] 64) 5)) := run_make_row' (P := Try.prog) 28 5 (.int .u8 0) 1 Try.underlying28 Try.info5 rfl .i64 .i64 64 (by omega) (by omega)
  have HB := Lib.hid hb
  have hlb := lt_of_heap hb
  clear hb
  go_enter Try.func83, Try.ntmps83
  go_upto_region 7 with (go_at_call 114; refine (mul_run _).mono ?_; rintro e w' ⟨rfl, rfl⟩)
  iterate 7 go_step
  have hmz : (w.alloc (.cells (madeCells #[.int .u8 0] 64) 5)).heap[w.heap.size]? = some (.cells (repCells c 0).toArray 5 (0, 0)) := by
    rw [alloc_at rfl, ← repCells_zero c]
  have hcb : (w.alloc (.cells (madeCells #[.int .u8 0] 64) 5)).cell? ⟨b, 0, none⟩ = some (.int .u8 c) := cells1_of ((alloc_lt hlb).trans HB.out)
  refine wpList_copy_own rfl _ _ 28 28 rfl 5 Try.underlying28 Try.size5 w.heap.size 0 64 64 ⟨b, 0, none⟩ 1 1 rfl rfl _ 5 hmz [.int .u8 c] rfl (by
    intro j v hj
    cases j with
    | zero => simp at hj; subst hj; exact hcb
    | succ j => simp at hj) (by simp [repCells_length c (Nat.zero_le 64)]) (by simp [Value.oneCell']) ?_
  have hz := setRow_at (cs := (((repCells c 0).toArray.toList.take 0 ++ ([Value.int .u8 c] ++ (repCells c 0).toArray.toList.drop (0 + [Value.int .u8 c].length)))).toArray) hmz
  have hu1 : Upd (fun _ => False) w ((w.alloc (.cells (madeCells #[.int .u8 0] 64) 5)).setRow w.heap.size (((repCells c 0).toArray.toList.take 0 ++ ([Value.int .u8 c] ++ (repCells c 0).toArray.toList.drop (0 + [Value.int .u8 c].length)))).toArray) :=
    ((Upd.refl _ w).alloc _).setRow (.inr (Nat.le_refl _)) _
  obtain ⟨W1, hW1⟩ : ∃ W1, W1 = ((w.alloc (.cells (madeCells #[.int .u8 0] 64) 5)).setRow w.heap.size (((repCells c 0).toArray.toList.take 0 ++ ([Value.int .u8 c] ++ (repCells c 0).toArray.toList.drop (0 + [Value.int .u8 c].length)))).toArray) := ⟨_, rfl⟩
  rw [← hW1] at hz hu1 ⊢
  have hz1 : W1.heap[w.heap.size]? = some (.cells (repCells c 1).toArray 5 (0, 0)) := by
    rw [hz, ← repCells_step c 0 1 (by omega)]; rfl
  have HZ := Lib.hid hz1; have HU := Lib.hid hu1
  clear hz hu1 hz1 hW1 hmz hcb hmk
  go_wp2
  go_loopg [8] 63 (fun gk i wr => ∃ k : Nat, 1 ≤ k ∧ k ≤ 64 ∧ gk = 64 - k ∧ i = .int .i64 k ∧ wr.heap[w.heap.size]? = some (.cells (repCells c k).toArray 5 (0, 0)) ∧ Upd (fun _ => False) w wr)
  case atStart => exact ⟨1, Nat.le_refl _, by omega, rfl, rfl, HZ.out, HU.out⟩
  case round =>
    obtain ⟨k, hk1, hk, rfl, rfl, hz, hu⟩ := hrel
    have HZ2 := Lib.hid hz; have HU2 := Lib.hid hu
    clear hz hu HZ HU
    go_upto_region 9 with fail
    · have hlt : k < 64 := by omega
      have e3 : 64 - (64 - k) = k := by omega
      refine wp_region_G 9 (fun _ => True) [false, false, false, false, false, false, false, false, false, false] rfl (by kernel_rfl) ?_
      refine wpG_take (i := 0) (v := .int .i64 (k : Int)) rfl (by kernel_rfl) (fun _ _ _ h => h) trivial (.inl ⟨rfl, fun w5 q1 => ?_⟩) ?_
      · go_simp
      simp only [Act.put, List.setIfInBounds_toArray, List.set]
      refine wpG_take (i := 1) (v := .slice (some ⟨w.heap.size, 0, none⟩) 64 64) rfl (by kernel_rfl) (fun _ _ _ h => h) trivial (.inl ⟨rfl, fun w5 q1 => ?_⟩) ?_
      · go_simp
      simp only [Act.put, List.setIfInBounds_toArray, List.set]
      refine wpG_take (i := 2) (v := .int .i64 (k : Int)) rfl (by kernel_rfl) (fun _ _ _ h => h) trivial (.inl ⟨rfl, fun w5 q1 => ?_⟩) ?_
      · go_simp
      simp only [Act.put, List.setIfInBounds_toArray, List.set]
      refine wpG_take (i := 3) (v := .slice (some ⟨w.heap.size, k, none⟩) (64 - k) (64 - k)) rfl (by kernel_rfl) (fun _ _ _ h => h) trivial (.inl ⟨rfl, fun w5 q1 => ?_⟩) ?_
      · go_simp; rw [if_pos (by omega), if_neg (by omega)]
      simp only [Act.put, List.setIfInBounds_toArray, List.set]
      refine wpG_take (i := 4) (v := .slice (some ⟨w.heap.size, 0, none⟩) 64 64) rfl (by kernel_rfl) (fun _ _ _ h => h) trivial (.inl ⟨rfl, fun w5 q1 => ?_⟩) ?_
      · go_simp
      simp only [Act.put, List.setIfInBounds_toArray, List.set]
      refine wpG_take (i := 5) (v := .int .i64 (k : Int)) rfl (by kernel_rfl) (fun _ _ _ h => h) trivial (.inl ⟨rfl, fun w5 q1 => ?_⟩) ?_
      · go_simp
      simp only [Act.put, List.setIfInBounds_toArray, List.set]
      refine wpG_take (i := 6) (v := .slice (some ⟨w.heap.size, 0, none⟩) k 64) rfl (by kernel_rfl) (fun _ _ _ h => h) trivial (.inl ⟨rfl, fun w5 q1 => ?_⟩) ?_
      · go_simp; intro hx; exact absurd hx (by omega)
      simp only [Act.put, List.setIfInBounds_toArray, List.set]
      refine wpG_do (i := 7) rfl (by kernel_rfl) rfl (fun K hK => ?_)
      have HK := Lib.hid hK
      clear hK
      obtain ⟨m, hm⟩ : ∃ m, m = min k (64 - k) := ⟨_, rfl⟩
      have hz3 : wr.drew.heap[w.heap.size]? = some (.cells (repCells c k).toArray 5 (0, 0)) := HZ2.out
      refine oper_copy_own _ _ 28 28 rfl 5 Try.underlying28 Try.size5 w.heap.size k (64 - k) (64 - k) ⟨w.heap.size, 0, none⟩ k 64 rfl rfl _ 5 hz3 (List.replicate m (.int .u8 c)) (by rw [List.length_replicate, hm]) (by
        intro j v hj
        have hjm : j < m := by have := (List.getElem?_eq_some_iff.1 hj).1; simpa using this
        have hjk : j < k := by omega
        rw [show (⟨w.heap.size, 0, none⟩ : Addr).add j = ⟨w.heap.size, j, none⟩ by unfold Addr.add; split <;> simp_all, cell_of_heap hz3]
        simp [hjm] at hj
        subst hj
        simp only [repCells, List.getElem?_toArray]
        rw [List.getElem?_append_left (by simpa using hjk)]
        simp [hjk]) (by simp [repCells_length c hk]; omega) (by simp [Value.oneCell']) ?_
      have hz4 := setRow_at (cs := ((repCells c k).toArray.toList.take k ++ (List.replicate m (Value.int .u8 c) ++ (repCells c k).toArray.toList.drop (k + (List.replicate m (Value.int .u8 c)).length))).toArray) hz3
      have hu4 : Upd (fun _ => False) w (wr.drew.setRow w.heap.size ((repCells c k).toArray.toList.take k ++ (List.replicate m (Value.int .u8 c) ++ (repCells c k).toArray.toList.drop (k + (List.replicate m (Value.int .u8 c)).length))).toArray) := HU2.out.drew.setRow (.inr (Nat.le_refl _)) _
      obtain ⟨W4, hW4⟩ : ∃ W4, W4 = (wr.drew.setRow w.heap.size ((repCells c k).toArray.toList.take k ++ (List.replicate m (Value.int .u8 c) ++ (repCells c k).toArray.toList.drop (k + (List.replicate m (Value.int .u8 c)).length))).toArray) := ⟨_, rfl⟩
      rw [← hW4] at hz4 hu4 ⊢
      have hz5 : W4.heap[w.heap.size]? = some (.cells (repCells c (k + m)).toArray 5 (0, 0)) := by
        rw [hz4, ← repCells_step c k m (by omega)]
        simp
      have HZ5 := Lib.hid hz5; have HU5 := Lib.hid hu4
      clear hz3 hz4 hu4 hz5 hW4 HZ2 HU2
      simp only [List.length_replicate, goInt]
      refine HK.out _ _ trivial ?_
      clear HK
      simp only [Act.put, List.setIfInBounds_toArray, List.set]
      refine wpG_do (i := 8) rfl (by kernel_rfl) rfl (fun K hK => ?_)
      have HK := Lib.hid hK
      clear hK
      go_step
      refine HK.out _ _ trivial ?_
      clear HK
      simp only [List.setIfInBounds_toArray, List.set]
      refine wpG_tail_lit (k := 9) rfl rfl (by kernel_rfl) ?_
      simp only [List.drop]
      go_wp2
      go_roundg (64 - (k + m))
      case measure => omega
      case rel => exact ⟨k + m, by omega, by omega, rfl, congrArg _ (by omega), HZ5.out, HU5.out⟩
    · have hkn : k = 64 := by omega
      subst hkn
      go_ret
      exact ⟨rfl, HZ2.out, HU2.out⟩

end Go.Proofs.Ytbimkhdiplnbfaa
end

section
namespace Go.Proofs.Ytbimkhdiplnbfaa
open Go.RowKit Go.Deep

def fill (c : Int) : List Int := List.replicate 64 c

theorem fill_ok {c : Int} (h : 0 ≤ c ∧ c ≤ 255) : okBlk (fill c) := ⟨by simp [fill], fun x hx => by
  have : x = c := by simpa [fill] using hx
  rw [this]; exact h⟩

theorem array_at (g : Nat) (w : World) : (Instr.arrayAt 56 (.slice (some ⟨g, 0, none⟩) 64 64)).run Try.prog w = .ok (.pointer (some ⟨g, 0, none⟩)) w := by
  simp [Instr.arrayAt, run_underlying Try.underlying56]

theorem results_cell1 {P : Program} {fn : Func} {ts : Array Value} {w : World} {a : Nat} {t : TypeId} {p : Addr} {v : Value} (hr : fn.results = #[.cell a t]) (ha : ts.getD a undef = .pointer (some p)) (hl : (loadVar t p).run P w = .ok v w) :
    (Go.results fn ts).run P w = .ok v w := by
  unfold Go.results
  rw [hr]
  have ha' : ts[a]?.getD undef = .pointer (some p) := by simpa using ha
  simp [asAddr, ha', hl]

theorem fill_cells (c : Int) : repCells c 64 = bcells (fill c) := by simp [repCells, bcells, fill]

/-- A call as it comes in. -/
def callV (k i n c : Int) (ka : Option Addr) (kn kc : Nat) : Value := .agg #[.int .i64 k, .int .i64 i, .int .i64 n, .int .u8 c, .slice ka kn kc]

set_option maxRecDepth 100000 in
set_option maxHeartbeats 2000000 in
theorem block_run (k i n c : Int) (ka : Option Addr) (kn kc : Nat) (w : World) :
    Calls Try.prog 35 #[callV k i n c ka kn kc] w fun e w' => e = .returned (.agg (bcells (fill c)).toArray) ∧ Upd (fun _ => False) w w' := by
  have hi : (Try.prog.info? 56).map (·.size) = some (bcells (fill c)).length := by rw [Try.info56p]; simp [bcells, fill]
  have H1B := Lib.hid (all_oneCell_toArray (bcells_one (fill c)))
  have HL : RowKit.Hid ((bcells (fill c)).length = 64) := Lib.hid (by simp [bcells, fill])
  have HF := Lib.hid (fill_cells c)
  have HI := Lib.hid hi
  clear hi
  unfold callV
  generalize bcells (fill c) = bs at *
  go_enter Try.func35, Try.ntmps35
  go_upto_region 1 with fail
  iterate 10 go_step
  have hcl := repeat_run (b := w.heap.size + 1 + 1) (c := c) (((w.alloc (.cells #[.int .i64 k, .int .i64 i, .int .i64 n, .int .u8 c, .slice ka kn kc] 51)).alloc (.cells (bcells zblk).toArray 56)).alloc (.cells #[.int .u8 c] 5)) (alloc_at (by simp))
  simp only [World.size_alloc] at hcl
  go_step
  go_step
  refine hcl.mono ?_
  rintro e w' ⟨rfl, h1, h2⟩
  have hz : (bcells zblk).toArray.size = 64 := by simp [bcells, zblk]
  have hu : Upd (fun _ => False) w w' := (((Upd.refl _ w).alloc _).alloc _).trans (((Upd.refl _ _).alloc _).trans h2)
  have hb : w'.heap[w.heap.size + 1]? = some (.cells (bcells zblk).toArray 56 (0, 0)) :=
    (h2.block _ (by simp) (fun e => e)).trans ((alloc_lt (by simp)).trans (alloc_at (by simp)))
  rw [HF.out] at h1
  have hth : w'.there (w.heap.size + 1) 0 bs.toArray.size := by
    have := there_block hb
    rwa [show (bcells zblk).toArray.size = bs.toArray.size by rw [hz]; simp [HL.out]] at this
  have hw := heap_setCells_whole (vs := bs) hb (by rw [hz, HL.out])
  have H1 := Lib.hid h1; have HU := Lib.hid hu; have HB := Lib.hid hb; have HT := Lib.hid hth; have HW := Lib.hid hw
  clear h1 h2 hu hb hth hw hz hcl
  simp only []
  have hat := array_at (w.heap.size + 1 + 1 + 1)
  iterate 4 go_step
  refine wpList_load_mid rfl 56 (.tmp 7) rfl (w.heap.size + 1 + 1 + 1) 0 rfl bs _ (rangeAt_block H1.out) Try.underlying56 rfl HI.out ?_
  refine wpList_store_mid rfl 56 (.tmp 2) (.tmp 8) rfl (w.heap.size + 1) 0 bs.toArray rfl rfl HT.out (by rw [HI.out]; simp) H1B.out ?_
  go_wp2
  have hl3 := run_loadVar_mid (P := Try.prog) (w'.setCells (w.heap.size + 1) 0 bs) (w.heap.size + 1) 0 56 bs _ (rangeAt_block HW.out) Try.underlying56 rfl HI.out
  refine bodyPost_ret (results_cell1 Try.results35 rfl hl3) rfl ⟨rfl, ?_⟩
  exact (Upd.setCells (F := fun k => w.heap.size ≤ k) (Nat.le_succ _) bs 0 (HU.out.mono (fun _ _ e => e.elim))).mono (fun j hj e => by omega)

end Go.Proofs.Ytbimkhdiplnbfaa
end

section
namespace Go.Proofs.Ytbimkhdiplnbfaa
open Go.RowKit Go.Deep

/-- A disk of the reference, as it is handed on. -/
def refV (Aa : Option Addr) (An Ac : Nat) (Ra : Option Addr) (Rn Rc : Nat) (o a f : Int) (d : Bool) : Value := .agg #[.slice Aa An Ac, .slice Ra Rn Rc, .int .i64 o, .int .i64 a, .int .i64 f, .bool d]

set_option maxHeartbeats 1000000 in
theorem refWhy_run (Aa : Option Addr) (An Ac : Nat) (Ra : Option Addr) (Rn Rc : Nat) (o a f i : Int) (d : Bool) (w : World) (_hA : An ≤ 2048) :
    Calls Try.prog 92 #[refV Aa An Ac Ra Rn Rc o a f d, .int .i64 i] w fun e w' => e = .returned (.int .i64 (if d then 9 else if i < 0 ∨ (An : Int) ≤ i then 2 else 0)) ∧ Upd (fun _ => False) w w' := by
  have hu : Upd (fun _ => False) w (w.alloc (.cells #[.slice Aa An Ac, .slice Ra Rn Rc, .int .i64 o, .int .i64 a, .int .i64 f, .bool d] 69)) := (Upd.refl _ w).alloc _
  have HU := Lib.hid hu
  clear hu
  unfold refV
  cases d
  · simp only [Bool.false_eq_true, if_false]
    by_cases h1 : i < 0
    · rw [if_pos (.inl h1)]
      go_enter Try.func92, Try.ntmps92
      go_wp2
      go_ret
      exact ⟨rfl, HU.out⟩
    · by_cases h2 : (An : Int) ≤ i
      · rw [if_pos (.inr h2)]
        have h3 : i ≥ (An : Int) := h2
        go_enter Try.func92, Try.ntmps92
        go_wp2
        go_ret
        exact ⟨rfl, HU.out⟩
      · rw [if_neg (by omega)]
        have h3 : ¬ i ≥ (An : Int) := h2
        go_enter Try.func92, Try.ntmps92
        go_wp2
        go_ret
        exact ⟨rfl, HU.out⟩
  · simp only [if_true]
    go_enter Try.func92, Try.ntmps92
    go_wp2
    go_ret
    exact ⟨rfl, HU.out⟩

/-- What Meets says. -/
def meetE (wr : Bool) (a f : Int) : Int := if wr = true ∧ a = 0 then 9 else if f = 0 then 8 else 0

theorem Try.size69q : (Try.prog.info? 69).map (·.size) = some 6 := by kernel_rfl

/-- The end of Meets: the disk stands in a block of its own. -/
theorem meets_fin {w wf : World} {b : Nat} {cs : List Value} {ts : Array Value} {R : Value} (hb : wf.heap[b]? = some (.cells cs.toArray 69 (0, 0))) (hl : cs.length = 6) (ht : ts.getD 4 undef = .pointer (some ⟨b, 0, none⟩)) (hR : R = .tuple #[.agg cs.toArray, ts.getD 5 undef]) (hu : Upd (fun _ => False) w wf) :
    bodyPost Try.prog Try.f93 (fun e w' => e = .returned R ∧ Upd (fun _ => False) w w') .ret { tmps := ts, defers := [] } wf := by
  have hl3 := run_loadVar_mid (P := Try.prog) wf b 0 69 cs _ (rangeAt_block hb) Try.underlying69 rfl (by rw [Try.size69q, hl])
  exact bodyPost_ret (results_cell_tmp Try.results93 ht hl3) rfl ⟨by rw [hR], hu⟩

set_option maxRecDepth 8000 in
set_option maxHeartbeats 2000000 in
theorem refMeets_run (Aa : Option Addr) (An Ac : Nat) (Ra : Option Addr) (Rn Rc : Nat) (o a f : Int) (d wr : Bool) (w : World) (ho : 0 ≤ o ∧ o ≤ 1000000) (ha : -1 ≤ a ∧ a ≤ 9223372036854775807) (hf : -1 ≤ f ∧ f ≤ 9223372036854775807) :
    Calls Try.prog 93 #[refV Aa An Ac Ra Rn Rc o a f d, .bool wr] w fun e w' => e = .returned (.tuple #[refV Aa An Ac Ra Rn Rc (if meetE wr a f = 0 then o + 1 else o) (if meetE wr a f = 0 ∧ wr = true then max (a - 1) (-1) else a) (max (f - 1) (-1)) (if meetE wr a f = 9 then true else d), .int .i64 (meetE wr a f)]) ∧ Upd (fun _ => False) w w' := by
  unfold refV
  by_cases h1 : wr = true ∧ a = 0
  · obtain ⟨rfl, rfl⟩ := h1
    have e : meetE true 0 f = 9 := by simp [meetE]
    rw [e, if_neg (by omega), if_neg (by omega), if_pos rfl]
    clear e
    by_cases hm : f = -1
    · subst hm
      rw [show max ((-1 : Int) - 1) (-1) = -1 by decide]
      go_enter Try.func93, Try.ntmps93
      go_wp2
      refine meets_fin (cs := [.slice Aa An Ac, .slice Ra Rn Rc, .int .i64 o, .int .i64 0, .int .i64 (-1), .bool true]) (alloc_at (by simp)) (by rfl) rfl ?_ ?_
      · rfl
      · exact ((Upd.refl _ w).alloc _).alloc _
    · have hf1 : ¬ f - 1 < -1 := by omega
      rw [show max (f - 1) (-1) = f - 1 by omega]
      go_enter Try.func93, Try.ntmps93
      go_wp2
      refine meets_fin (cs := [.slice Aa An Ac, .slice Ra Rn Rc, .int .i64 o, .int .i64 0, .int .i64 (f - 1), .bool true]) (alloc_at (by simp)) (by rfl) rfl ?_ ?_
      · rfl
      · exact ((Upd.refl _ w).alloc _).alloc _
  · by_cases h2 : f = 0
    · subst h2
      have e : meetE wr a 0 = 8 := by unfold meetE; rw [if_neg h1, if_pos rfl]
      rw [e, if_neg (by omega), if_neg (by omega), if_neg (by omega)]
      rw [show max ((0 : Int) - 1) (-1) = -1 by decide]
      clear e
      cases wr
      · skip
        go_enter Try.func93, Try.ntmps93
        go_wp2
        refine meets_fin (cs := [.slice Aa An Ac, .slice Ra Rn Rc, .int .i64 o, .int .i64 a, .int .i64 (-1), .bool d]) (alloc_at (by simp)) (by rfl) rfl ?_ ?_
        · rfl
        · exact ((Upd.refl _ w).alloc _).alloc _
      · have ha0 : ¬ a = 0 := fun e => h1 ⟨rfl, e⟩
        go_enter Try.func93, Try.ntmps93
        go_wp2
        refine meets_fin (cs := [.slice Aa An Ac, .slice Ra Rn Rc, .int .i64 o, .int .i64 a, .int .i64 (-1), .bool d]) (alloc_at (by simp)) (by rfl) rfl ?_ ?_
        · rfl
        · exact ((Upd.refl _ w).alloc _).alloc _
    · have e : meetE wr a f = 0 := by unfold meetE; rw [if_neg h1, if_neg h2]
      rw [e, if_pos (show (0 : Int) = 0 from rfl), if_neg (show ¬ (0 : Int) = 9 by omega)]
      clear e
      cases wr
      · rw [if_neg (show ¬ ((0 : Int) = 0 ∧ false = true) by simp)]
        by_cases hm : f = -1
        · subst hm
          rw [show max ((-1 : Int) - 1) (-1) = -1 by decide]
          go_enter Try.func93, Try.ntmps93
          go_wp2
          refine meets_fin (cs := [.slice Aa An Ac, .slice Ra Rn Rc, .int .i64 (o + 1), .int .i64 a, .int .i64 (-1), .bool d]) (alloc_at (by simp)) (by rfl) rfl ?_ ?_
          · rfl
          · exact ((Upd.refl _ w).alloc _).alloc _
        · have hf1 : ¬ f - 1 < -1 := by omega
          rw [show max (f - 1) (-1) = f - 1 by omega]
          go_enter Try.func93, Try.ntmps93
          go_wp2
          refine meets_fin (cs := [.slice Aa An Ac, .slice Ra Rn Rc, .int .i64 (o + 1), .int .i64 a, .int .i64 (f - 1), .bool d]) (alloc_at (by simp)) (by rfl) rfl ?_ ?_
          · rfl
          · exact ((Upd.refl _ w).alloc _).alloc _
      · have ha0 : ¬ a = 0 := fun e => h1 ⟨rfl, e⟩
        rw [if_pos (show (0 : Int) = 0 ∧ true = true from ⟨rfl, rfl⟩)]
        by_cases hq : a = -1
        · subst hq
          rw [show max ((-1 : Int) - 1) (-1) = -1 by decide]
          by_cases hm : f = -1
          · subst hm
            rw [show max ((-1 : Int) - 1) (-1) = -1 by decide]
            go_enter Try.func93, Try.ntmps93
            go_wp2
            refine meets_fin (cs := [.slice Aa An Ac, .slice Ra Rn Rc, .int .i64 (o + 1), .int .i64 (-1), .int .i64 (-1), .bool d]) (alloc_at (by simp)) (by rfl) rfl ?_ ?_
            · rfl
            · exact ((Upd.refl _ w).alloc _).alloc _
          · have hf1 : ¬ f - 1 < -1 := by omega
            rw [show max (f - 1) (-1) = f - 1 by omega]
            go_enter Try.func93, Try.ntmps93
            go_wp2
            refine meets_fin (cs := [.slice Aa An Ac, .slice Ra Rn Rc, .int .i64 (o + 1), .int .i64 (-1), .int .i64 (f - 1), .bool d]) (alloc_at (by simp)) (by rfl) rfl ?_ ?_
            · rfl
            · exact ((Upd.refl _ w).alloc _).alloc _
        · have ha1 : ¬ a - 1 < -1 := by omega
          rw [show max (a - 1) (-1) = a - 1 by omega]
          by_cases hm : f = -1
          · subst hm
            rw [show max ((-1 : Int) - 1) (-1) = -1 by decide]
            go_enter Try.func93, Try.ntmps93
            go_wp2
            refine meets_fin (cs := [.slice Aa An Ac, .slice Ra Rn Rc, .int .i64 (o + 1), .int .i64 (a - 1), .int .i64 (-1), .bool d]) (alloc_at (by simp)) (by rfl) rfl ?_ ?_
            · rfl
            · exact ((Upd.refl _ w).alloc _).alloc _
          · have hf1 : ¬ f - 1 < -1 := by omega
            rw [show max (f - 1) (-1) = f - 1 by omega]
            go_enter Try.func93, Try.ntmps93
            go_wp2
            refine meets_fin (cs := [.slice Aa An Ac, .slice Ra Rn Rc, .int .i64 (o + 1), .int .i64 (a - 1), .int .i64 (f - 1), .bool d]) (alloc_at (by simp)) (by rfl) rfl ?_ ?_
            · rfl
            · exact ((Upd.refl _ w).alloc _).alloc _

end Go.Proofs.Ytbimkhdiplnbfaa
end

section
namespace Go.Proofs.Ytbimkhdiplnbfaa
open Go.RowKit Go.Deep

def sentC (x : Nat × List Int × Int) : List Value := .int .i64 x.1 :: bcells x.2.1

theorem sentC_length {x : Nat × List Int × Int} (h : x.2.1.length = 64) : (sentC x).length = 65 := by simp [sentC, bcells, h]
theorem sentC_one (x : Nat × List Int × Int) : ∀ u ∈ sentC x, u.oneCell' = true := by
  intro u hu
  simp only [sentC, List.mem_cons] at hu
  rcases hu with rfl | hu
  · rfl
  · exact bcells_one _ u hu

theorem flat_at {α : Type} (f : α → List Value) (n : Nat) : ∀ (L : List α) (j : Nat) (x : α), L[j]? = some x → (∀ y ∈ L, (f y).length = n) → ((L.flatMap f).drop (j * n)).take n = f x
  | [], j, x, h, _ => by simp at h
  | y :: L, 0, x, h, hl => by
    simp at h; subst h
    have := hl y List.mem_cons_self
    simp only [List.flatMap_cons, Nat.zero_mul, List.drop_zero]
    rw [← this, List.take_left]
  | y :: L, j + 1, x, h, hl => by
    have hy := hl y List.mem_cons_self
    simp only [List.flatMap_cons]
    rw [show (j + 1) * n = (f y).length + j * n by rw [hy, Nat.succ_mul]; omega, List.drop_append]
    have e : (f y).drop ((f y).length + j * n) = [] := List.drop_eq_nil_of_le (by omega)
    rw [e, List.nil_append, Nat.add_sub_cancel_left]
    exact flat_at f n L j x (by simpa using h) (fun z hz => hl z (List.mem_cons_of_mem _ hz))

theorem rangeAt_rowS {w : World} {e : TypeId} {sz g n cap o len : Nat} {xs bs : List Value} (h : w.ownsRow 0 e sz (.slice (some ⟨g, 0, none⟩) n cap) n xs) (hb : (xs.drop o).take len = bs) : w.rangeAt g o bs := by
  intro j v hv
  subst hb
  have hj : j < len := by
    have := (List.getElem?_eq_some_iff.1 hv).1
    simp at this; omega
  have : xs[o + j]? = some v := by simpa [List.getElem?_take, List.getElem?_drop, hj] using hv
  have := h.cells (g := g) rfl (o + j) v this
  rwa [Addr.add_mid, Nat.zero_add] at this

/-- The reference's row, where it lies. -/
def RowR (w : World) (Ra : Option Addr) (Rc : Nat) (R : List (Nat × List Int × Int)) : Prop := w.ownsRow 0 150 65 (.slice Ra R.length Rc) R.length (R.flatMap sentC)

theorem RowR.kept {w w' : World} {Ra : Option Addr} {Rc : Nat} {R : List (Nat × List Int × Int)} (h : RowR w Ra Rc R) (hu : Upd (fun _ => False) w w') : RowR w' Ra Rc R := ownsRow_any h hu (fun _ _ e => e)

theorem Try.size150 : (Try.prog.info? 150).map (·.size) = some 65 := by kernel_rfl

theorem RowR.at {w : World} {Ra : Option Addr} {Rc : Nat} {R : List (Nat × List Int × Int)} (h : RowR w Ra Rc R) (hl : ∀ x ∈ R, x.2.1.length = 64) {j : Nat} {x : Nat × List Int × Int} (hx : R[j]? = some x) :
    ∃ g, Ra = some ⟨g, 0, none⟩ ∧ w.rangeAt g (j * 65) (sentC x) := by
  have hj := (List.getElem?_eq_some_iff.1 hx).1
  unfold RowR at h
  rcases h.2 with ⟨e, h0⟩ | ⟨g, cap, cur, e, _⟩
  · omega
  · simp only [Value.slice.injEq, true_and] at e
    obtain ⟨rfl, rfl⟩ := e
    exact ⟨g, rfl, rangeAt_rowS h (flat_at sentC 65 R j x hx (fun y hy => sentC_length (hl y hy)))⟩

theorem Try.zsize150 : Try.zeroCells150.size = 65 := by kernel_rfl
theorem Try.info3q : (Try.prog.info? 3).map (fun i => (i.zero, i.size, i.bytes)) = some (some (.int .i64 0), 1, 8) := by kernel_rfl

set_option maxRecDepth 100000 in
set_option maxHeartbeats 2000000 in
theorem refPending_run (Aa Ra : Option Addr) (An Ac Rc : Nat) (R : List (Nat × List Int × Int)) (o ar fl : Int) (dd : Bool) (w : World) (h : RowR w Ra Rc R) (hl : ∀ x ∈ R, x.2.1.length = 64) (hRl : R.length ≤ 1000000) :
    Calls Try.prog 96 #[.agg #[.slice Aa An Ac, .slice Ra R.length Rc, .int .i64 o, .int .i64 ar, .int .i64 fl, .bool dd]] w fun e w' => ∃ u, e = .returned u ∧ w'.ownsRow w.heap.size 3 1 u R.length ((R.map (·.1)).map fun i : Nat => Value.int .i64 i) ∧ Upd (fun _ => False) w w' := by
  have HR := Lib.hid h; have HL := Lib.hid hl
  have hu : Upd (fun _ => False) w (w.alloc (.cells #[.slice Aa An Ac, .slice Ra R.length Rc, .int .i64 o, .int .i64 ar, .int .i64 fl, .bool dd] 69)) := (Upd.refl _ w).alloc _
  have HU := Lib.hid hu
  clear h hl hu
  go_enter Try.func96, Try.ntmps96
  go_wp2
  go_loopg [3, 9] R.length (fun g u i wr => ∃ j : Nat, j ≤ R.length ∧ g = R.length - j ∧ i = .int .i64 j ∧ wr.ownsRow w.heap.size 3 1 u j (((R.take j).map (·.1)).map fun i : Nat => Value.int .i64 i) ∧ Upd (fun _ => False) w wr)
  case atStart => exact ⟨0, Nat.zero_le _, rfl, rfl, World.ownsRow_nil _ _ _ _, HU.out⟩
  case round =>
    clear HU
    obtain ⟨j, hj, rfl, rfl, hown, hu⟩ := hrel
    have HO := Lib.hid hown; have HU := Lib.hid hu
    clear hown hu
    obtain ⟨wo, rfl⟩ : ∃ wo, wo = wr := ⟨_, rfl⟩
    by_cases hjn : j < R.length
    · have hjn2 : (j : Int) < R.length := by omega
      obtain ⟨x, hx⟩ : ∃ x, R[j]? = some x := ⟨R[j], by simp [hjn]⟩
      obtain ⟨g, rfl, hrg⟩ := (HR.out.kept HU.out).at HL.out hx
      have HX := Lib.hid hx; have HRG := Lib.hid hrg
      have hxl := sentC_length (HL.out x (List.mem_of_getElem? hx))
      have HXL := Lib.hid hxl
      have hi : (Try.prog.info? 150).map (·.size) = some (sentC x).length := by rw [Try.size150, hxl]
      have HI := Lib.hid hi
      clear hx hrg hxl hi
      go_upto_region 4 with fail
      iterate 4 go_step
      refine wpList_load_mid rfl 150 (.tmp 11) rfl g (j * 65) rfl (sentC x) _ HRG.out Try.underlying150 rfl HI.out ?_
      iterate 3 go_step
      have hblk : (wo.alloc (.cells Try.zeroCells150 150)).heap[wo.heap.size]? = some (.cells Try.zeroCells150 150 (0, 0)) := alloc_at rfl
      have hth : (wo.alloc (.cells Try.zeroCells150 150)).there wo.heap.size 0 (sentC x).toArray.size := by
        have := there_block hblk
        rwa [show Try.zeroCells150.size = (sentC x).toArray.size by rw [Try.zsize150]; simp [HXL.out]] at this
      refine wpList_store_mid rfl 150 (.tmp 5) (.tmp 12) rfl wo.heap.size 0 (sentC x).toArray rfl rfl hth (by rw [HI.out]; simp) (all_oneCell_toArray (sentC_one x)) ?_
      have hb2 := heap_setCells_whole (vs := sentC x) hblk (by rw [Try.zsize150, HXL.out])
      have hu2 : Upd (fun _ => False) wo ((wo.alloc (.cells Try.zeroCells150 150)).setCells wo.heap.size 0 (sentC x)) := by
        have := Upd.setCells (F := fun j => wo.heap.size ≤ j) (b := wo.heap.size) (Nat.le_refl _) (sentC x) 0 ((Upd.refl _ wo).alloc (.cells Try.zeroCells150 150))
        exact this.mono (fun j hj e => by omega)
      refine (?_ : wpList _ _ _ _ _ ((wo.alloc (.cells Try.zeroCells150 150)).setCells wo.heap.size 0 (sentC x)))
      clear hblk hth
      obtain ⟨bx, hbx⟩ : ∃ bx, bx = wo.heap.size := ⟨_, rfl⟩
      generalize (wo.alloc (.cells Try.zeroCells150 150)).setCells wo.heap.size 0 (sentC x) = w2 at *
      rw [← hbx] at hb2 ⊢
      have c0 : w2.cell? ⟨bx, 0, none⟩ = some (.int .i64 x.1) := by rw [cell_of_heap hb2]; simp [sentC]
      have HO2 := Lib.hid (ownsRow_any HO.out hu2 (fun _ _ e => e))
      have HU2 := Lib.hid (HU.out.trans hu2)
      clear hb2 hu2 hbx HO HU HRG HI HXL
      go_upto_region 5 with fail
      iterate 13 go_step
      obtain ⟨i0, hi0, hz0, hz1, hz2⟩ := info_parts Try.info3q
      refine wpList_append_own _ rfl (.tmp 13) (.tmp 16) 82 rfl w.heap.size 3 i0 (.int .i64 0) 1 8 Try.underlying82 hi0 hz0 hz1 hz2 rfl (by omega) _ j _ rfl (HO2.out.alloc _) ⟨w2.heap.size, 0, none⟩ 1 1 [.int .i64 x.1] rfl rfl (cell_one_new _ _ _) (by simp [Value.oneCell']) (by unfold maxLen; omega) (by omega) (by have := HU2.out.size; simp; omega) ?_
      intro v' w4 hown hgrow _
      have HN := Lib.hid hown
      have HUN : RowKit.Hid (Upd (fun _ => False) w w4) := Lib.hid (((HU2.out.alloc _).step (Upd.of_grown (F := fun k => w.heap.size ≤ k) hgrow (fun k hk => (HO2.out.lt k hk).1)) (fun k hk e => by omega)))
      clear hown hgrow hi0 hz0 hz1 hz2 HO2 HU2
      go_wp2
      go_roundg (R.length - (j + 1))
      case measure => omega
      case rel =>
        refine ⟨j + 1, by omega, rfl, congrArg _ (by omega), ?_, HUN.out⟩
        have := HN.out
        rw [List.take_add_one, HX.out]
        simpa using this
    · obtain rfl : j = R.length := by omega
      go_wp2
      go_ret
      refine ⟨_, rfl, ?_, HU.out⟩
      have := HO.out
      rwa [List.take_length] at this

end Go.Proofs.Ytbimkhdiplnbfaa
end

section
namespace Go.Proofs.Ytbimkhdiplnbfaa
open Go.RowKit Go.Deep

/-- What a sector shows behind a row. -/
def shL (i : Int) (b : List Int) (R : List (Nat × List Int × Int)) : List Int := R.foldl (fun b x => if (x.1 : Int) = i then x.2.1 else b) b

theorem shL_snoc (i : Int) (b : List Int) (R : List (Nat × List Int × Int)) (x : Nat × List Int × Int) : shL i b (R ++ [x]) = if (x.1 : Int) = i then x.2.1 else shL i b R := by
  simp [shL, List.foldl_append]

theorem shL_shows (D : Dk) (i : Nat) : shL i (D.arr.getD i []) D.row = D.shows i := by
  have key : ∀ (R : List (Nat × List Int × Int)) (b : List Int), shL i b R = ((((b, 0) : List Int × Int) :: (R.filter (fun x => x.1 == i)).map (·.2)).getLast?.getD (zblk, 0)).1 := by
    intro R
    induction R with
    | nil => intro b; rfl
    | cons x R ih =>
      intro b
      have e : shL i b (x :: R) = shL i (if (x.1 : Int) = i then x.2.1 else b) R := rfl
      rw [e, ih]
      by_cases hx : x.1 = i
      · rw [if_pos (by omega), List.filter_cons_of_pos (by simpa using hx)]
        simp only [List.map_cons]
        cases (R.filter (fun x => x.1 == i)).map (·.2) with
        | nil => rfl
        | cons y l => simp
      · rw [if_neg (by omega), List.filter_cons_of_neg (by simpa using hx)]
  rw [key]
  rfl

theorem shL_blk (i : Int) (b : List Int) (hb : b.length = 64) : ∀ (R : List (Nat × List Int × Int)), (∀ x ∈ R, x.2.1.length = 64) → (shL i b R).length = 64 := by
  intro R
  induction R generalizing b with
  | nil => intro _; exact hb
  | cons x R ih =>
    intro hl
    have e : shL i b (x :: R) = shL i (if (x.1 : Int) = i then x.2.1 else b) R := rfl
    rw [e]
    refine ih _ ?_ (fun y hy => hl y (List.mem_cons_of_mem _ hy))
    split
    · exact hl x List.mem_cons_self
    · exact hb

/-- The reference's arrived blocks, where they lie. -/
def ArrS (w : World) (Aa : Option Addr) (Ac : Nat) (arr : List (List Int)) : Prop := w.ownsRow 0 56 64 (.slice Aa arr.length Ac) arr.length (arr.flatMap bcells)

theorem ArrS.kept {w w' : World} {Aa : Option Addr} {Ac : Nat} {arr : List (List Int)} (h : ArrS w Aa Ac arr) (hu : Upd (fun _ => False) w w') : ArrS w' Aa Ac arr := ownsRow_any h hu (fun _ _ e => e)

theorem ArrS.at {w : World} {Aa : Option Addr} {Ac : Nat} {arr : List (List Int)} (h : ArrS w Aa Ac arr) (hl : ∀ b ∈ arr, b.length = 64) {j : Nat} (hj : j < arr.length) :
    ∃ g, Aa = some ⟨g, 0, none⟩ ∧ w.rangeAt g (j * 64) (bcells (arr.getD j [])) := by
  unfold ArrS at h
  rcases h.2 with ⟨e, h0⟩ | ⟨g, cap, cur, e, _⟩
  · omega
  · simp only [Value.slice.injEq, true_and] at e
    obtain ⟨rfl, rfl⟩ := e
    refine ⟨g, rfl, rangeAt_rowS h (flat_at bcells 64 arr j _ (by simp [List.getD_eq_getElem?_getD, hj]) (fun y hy => by rw [bcells_length]; exact hl y hy))⟩

end Go.Proofs.Ytbimkhdiplnbfaa
end

section
namespace Go.Proofs.Ytbimkhdiplnbfaa
open Go.RowKit

def Z150 : Array Value := ((List.replicate 1 (Value.int .i64 0)) ++ (List.replicate 64 (Value.int .u8 0))).toArray
theorem Z150_size : Z150.size = 65 := by simp [Z150]
theorem zero150 (w : World) : (zeroValue 150).run Try.prog w = .ok (.agg Z150) w := by kernel_rfl

theorem run_build150 (i : Int) (cs : List Value) (w : World) (hc : cs.length = 64) :
    (Instr.build 150 #[(0, .int .i64 i), (1, .agg cs.toArray)]).run Try.prog w = .ok (.agg (Value.int .i64 i :: cs).toArray) w := by
  have hz := zero150 w
  have hne : Z150 ≠ #[] := fun e => by have := Z150_size; rw [e] at this; simp at this
  have hf : List.foldl (fun (cs : Array Value) (x : Value × Nat) => cs.setIfInBounds (1 + x.snd) x.fst) (Z150.setIfInBounds 0 (Value.int IntKind.i64 i)) cs.zipIdx = (Value.int .i64 i :: cs).toArray := by
    apply Array.toList_inj.1
    have h := splice_fold cs 1 0 (Z150.setIfInBounds 0 (Value.int IntKind.i64 i)) (by simp [Z150_size, hc])
    rw [h]
    have e1 : (Z150.setIfInBounds 0 (Value.int IntKind.i64 i)).toList.take (1 + 0) = [Value.int .i64 i] := by simp [Z150]
    have e2 : (Z150.setIfInBounds 0 (Value.int IntKind.i64 i)).toList.drop (1 + 0 + cs.length) = [] := by rw [List.drop_eq_nil_iff]; simp [Z150_size, hc]
    rw [e1, e2]; simp
  simp [Instr.build, hz, go_sem, hne, hc, Z150_size, hf]

theorem fold67 (cs : List Value) (Z : Array Value) (hc : cs.length = 65) (hz : Z.size = 65) : List.foldl (fun (cs : Array Value) (x : Value × Nat) => cs.setIfInBounds x.snd x.fst) Z cs.zipIdx = cs.toArray := by
  apply Array.toList_inj.1
  have h := splice_fold cs 0 0 Z (by simp [hz, hc])
  simp only [Nat.zero_add] at h
  rw [h]
  have e : Z.toList.drop 65 = [] := by rw [List.drop_eq_nil_iff]; simp [hz]
  simp [hc, e]

theorem run_buildSlice67 (cs : List Value) (w : World) (hc : cs.length = 65) :
    (Instr.buildSlice 67 1 #[(0, .agg cs.toArray)]).run Try.prog w = .ok (.slice (some ⟨w.heap.size, 0, none⟩) 1 1) (w.alloc (.cells cs.toArray 150)) := by
  simp [Instr.buildSlice, go_sem]
  rw [fold67 cs _ hc (by simp)]
  simp [hc]

theorem Try.info150p : (Try.prog.info? 150).map (fun i => (i.zero, i.size, i.bytes)) = some (some (.agg Z150), 65, 72) := by kernel_rfl

end Go.Proofs.Ytbimkhdiplnbfaa
end

section
namespace Go.Proofs.Ytbimkhdiplnbfaa
open Go.RowKit Go.Deep

theorem send_fin {w w4 : World} {ts : Array Value} {Aa : Option Addr} {An Ac g c B : Nat} {R : List (Nat × List Int × Int)} {o ar fl : Int} {dd : Bool} {i : Nat} {b : List Int} {nth : Int}
    (h3 : w4.ownsRow B 150 65 (.slice (some ⟨g, 0, none⟩) (R.length + 1) c) (R.length + 1) (R.flatMap sentC ++ (Value.int .i64 (i : Int) :: bcells b)))
    (rs : w4.heap[w.heap.size + 1 + 1]? = some (.cells #[.slice none 0 0, .slice none 0 0, .int .i64 0, .int .i64 0, .int .i64 0, .bool false] 69 (0, 0))) (hu : Upd (fun _ => False) w w4) (hB : w.heap.size + 2 < B) (ht : ts.getD 6 undef = .pointer (some ⟨w.heap.size + 1 + 1, 0, none⟩)) :
    bodyPost Try.prog Try.f94 (fun e w' => ∃ g c, w.heap.size ≤ g ∧ e = .returned (.agg #[.slice Aa An Ac, .slice (some ⟨g, 0, none⟩) (R.length + 1) c, .int .i64 o, .int .i64 ar, .int .i64 fl, .bool dd]) ∧ RowR w' (some ⟨g, 0, none⟩) c (R ++ [(i, b, nth)]) ∧ Upd (fun _ => False) w w') .ret { tmps := ts, defers := [] }
      (((((((w4.setCell ⟨w.heap.size, 1, none⟩ (.slice (some ⟨g, 0, none⟩) (R.length + 1) c)).setCell ⟨w.heap.size + 1 + 1, 0, none⟩ (.slice Aa An Ac)).setCell ⟨w.heap.size + 1 + 1, 1, none⟩ (.slice (some ⟨g, 0, none⟩) (R.length + 1) c)).setCell ⟨w.heap.size + 1 + 1, 2, none⟩ (.int .i64 o)).setCell ⟨w.heap.size + 1 + 1, 3, none⟩ (.int .i64 ar)).setCell ⟨w.heap.size + 1 + 1, 4, none⟩ (.int .i64 fl)).setCell ⟨w.heap.size + 1 + 1, 5, none⟩ (.bool dd)) := by
  have hgB := (World.ownsRow.lt h3 g rfl).1
  have r0 : (w4.setCell ⟨w.heap.size, 1, none⟩ (.slice (some ⟨g, 0, none⟩) (R.length + 1) c)).heap[w.heap.size + 1 + 1]? = _ := (set_ne (by show w.heap.size + 1 + 1 ≠ w.heap.size; omega)).trans rs
  have r6 := blk_set (i := 5) (v := .bool dd) (blk_set (i := 4) (v := .int .i64 fl) (blk_set (i := 3) (v := .int .i64 ar) (blk_set (i := 2) (v := .int .i64 o) (blk_set (i := 1) (v := .slice (some ⟨g, 0, none⟩) (R.length + 1) c) (blk_set (i := 0) (v := .slice Aa An Ac) r0)))))
  simp at r6
  have hup : Upd (fun k => k = w.heap.size ∨ k = w.heap.size + 1 + 1) w4 (((((((w4.setCell ⟨w.heap.size, 1, none⟩ (.slice (some ⟨g, 0, none⟩) (R.length + 1) c)).setCell ⟨w.heap.size + 1 + 1, 0, none⟩ (.slice Aa An Ac)).setCell ⟨w.heap.size + 1 + 1, 1, none⟩ (.slice (some ⟨g, 0, none⟩) (R.length + 1) c)).setCell ⟨w.heap.size + 1 + 1, 2, none⟩ (.int .i64 o)).setCell ⟨w.heap.size + 1 + 1, 3, none⟩ (.int .i64 ar)).setCell ⟨w.heap.size + 1 + 1, 4, none⟩ (.int .i64 fl)).setCell ⟨w.heap.size + 1 + 1, 5, none⟩ (.bool dd)) :=
    (((((((Upd.refl _ w4).setCell (p := ⟨w.heap.size, 1, none⟩) (.inl (.inl rfl)) _).setCell (p := ⟨w.heap.size + 1 + 1, 0, none⟩) (.inl (.inr rfl)) _).setCell (p := ⟨w.heap.size + 1 + 1, 1, none⟩) (.inl (.inr rfl)) _).setCell (p := ⟨w.heap.size + 1 + 1, 2, none⟩) (.inl (.inr rfl)) _).setCell (p := ⟨w.heap.size + 1 + 1, 3, none⟩) (.inl (.inr rfl)) _).setCell (p := ⟨w.heap.size + 1 + 1, 4, none⟩) (.inl (.inr rfl)) _).setCell (p := ⟨w.heap.size + 1 + 1, 5, none⟩) (.inl (.inr rfl)) _
  generalize (((((((w4.setCell ⟨w.heap.size, 1, none⟩ (.slice (some ⟨g, 0, none⟩) (R.length + 1) c)).setCell ⟨w.heap.size + 1 + 1, 0, none⟩ (.slice Aa An Ac)).setCell ⟨w.heap.size + 1 + 1, 1, none⟩ (.slice (some ⟨g, 0, none⟩) (R.length + 1) c)).setCell ⟨w.heap.size + 1 + 1, 2, none⟩ (.int .i64 o)).setCell ⟨w.heap.size + 1 + 1, 3, none⟩ (.int .i64 ar)).setCell ⟨w.heap.size + 1 + 1, 4, none⟩ (.int .i64 fl)).setCell ⟨w.heap.size + 1 + 1, 5, none⟩ (.bool dd)) = wf at *
  have hl3 := run_loadVar_mid (P := Try.prog) wf (w.heap.size + 1 + 1) 0 69 [.slice Aa An Ac, .slice (some ⟨g, 0, none⟩) (R.length + 1) c, .int .i64 o, .int .i64 ar, .int .i64 fl, .bool dd] _ (rangeAt_block r6) Try.underlying69 rfl (by kernel_rfl)
  refine bodyPost_ret (results_cell1 Try.results94 ht hl3) rfl ⟨g, c, by omega, rfl, ?_, hu.step hup (fun k hk e => by omega)⟩
  have h5 := ownsRow_any h3 hup (fun k hk e => by simp [Value.ownBlock] at hk; omega)
  unfold RowR
  simp only [List.flatMap_append, List.flatMap_cons, List.flatMap_nil, List.append_nil, List.length_append, List.length_cons, List.length_nil, Nat.zero_add]
  obtain ⟨a1, a2⟩ := h5
  refine ⟨a1, ?_⟩
  rcases a2 with ⟨e, _⟩ | ⟨g', c', cur, e, _, r⟩
  · cases e
  · exact .inr ⟨g', c', cur, e, Nat.zero_le _, r⟩

end Go.Proofs.Ytbimkhdiplnbfaa
end

section
namespace Go.Proofs.Ytbimkhdiplnbfaa
open Go.RowKit Go.Deep

theorem Try.info56all : (Try.prog.info? 56).map (fun i => (i.zero, i.size, i.bytes)) = some (some (.agg (bcells zblk).toArray), 64, 64) := by kernel_rfl

set_option maxRecDepth 100000 in
set_option maxHeartbeats 1000000 in
theorem refNew_run (n : Nat) (w : World) (hn : 1 ≤ n ∧ n ≤ 2048) :
    Calls Try.prog 43 #[.int .i64 n] w fun e w' => (∃ g, e = .returned (.agg #[.slice (some ⟨g, 0, none⟩) n n, .slice none 0 0, .int .i64 0, .int .i64 (-1), .int .i64 (-1), .bool false]) ∧ w.heap.size ≤ g ∧ w'.heap[g]? = some (.cells (madeCells (bcells zblk).toArray (n * 64)) 56 (0, 0))) ∧ Upd (fun _ => False) w w' := by
  have hmk : ∀ W, (Instr.makeSlice 66 (.int .i64 n) (.int .i64 n)).run Try.prog W = .ok (.slice (some ⟨W.heap.size, 0, none⟩) n n) (W.alloc (.cells (madeCells (bcells zblk).toArray (n * 64)) 56)) := fun W => by
    obtain ⟨i, hi, hz⟩ := Option.map_eq_some_iff.1 Try.info56all
    simp only [Prod.mk.injEq] at hz
    obtain ⟨h1, h2, h3⟩ := hz
    have := run_make (P := Try.prog) W 66 56 i _ Try.underlying66 hi h1 .i64 .i64 n n (by omega) (Int.le_refl _) (by rw [h3]; omega) (by omega)
    simpa only [Int.toNat_natCast, h2, Value.cells] using this
  generalize madeCells (bcells zblk).toArray (n * 64) = mc at *
  go_enter Try.func43, Try.ntmps43
  go_wp2
  obtain ⟨wf, hwf⟩ : ∃ wf, wf = (w.alloc (.cells #[.slice (some ⟨w.heap.size + 1, 0, none⟩) n n, .slice none 0 0, .int .i64 0, .int .i64 (-1), .int .i64 (-1), .bool false] 69)).alloc (.cells mc 56) := ⟨_, rfl⟩
  rw [← hwf]
  have h1 : wf.heap[w.heap.size]? = some (.cells #[.slice (some ⟨w.heap.size + 1, 0, none⟩) n n, .slice none 0 0, .int .i64 0, .int .i64 (-1), .int .i64 (-1), .bool false] 69 (0, 0)) := by rw [hwf]; exact (alloc_lt (by simp)).trans (alloc_at rfl)
  have h2 : wf.heap[w.heap.size + 1]? = some (.cells mc 56 (0, 0)) := by rw [hwf]; exact alloc_at (by simp)
  have hl3 := run_loadVar_mid (P := Try.prog) wf w.heap.size 0 69 [.slice (some ⟨w.heap.size + 1, 0, none⟩) n n, .slice none 0 0, .int .i64 0, .int .i64 (-1), .int .i64 (-1), .bool false] _ (rangeAt_block h1) Try.underlying69 rfl (by kernel_rfl)
  refine bodyPost_ret (results_cell1 Try.results43 rfl hl3) rfl ⟨⟨w.heap.size + 1, rfl, by omega, h2⟩, ?_⟩
  rw [hwf]
  exact ((Upd.refl _ w).alloc _).alloc _

set_option maxRecDepth 100000 in
set_option maxHeartbeats 1000000 in
/-- Of an empty row. -/
theorem refPending_nil (Aa : Option Addr) (An Ac : Nat) (o ar fl : Int) (dd : Bool) (w : World) :
    Calls Try.prog 96 #[.agg #[.slice Aa An Ac, .slice none 0 0, .int .i64 o, .int .i64 ar, .int .i64 fl, .bool dd]] w fun e w' => e = .returned (.slice none 0 0) ∧ Upd (fun _ => False) w w' := by
  have hu : Upd (fun _ => False) w (w.alloc (.cells #[.slice Aa An Ac, .slice none 0 0, .int .i64 o, .int .i64 ar, .int .i64 fl, .bool dd] 69)) := (Upd.refl _ w).alloc _
  have HU := Lib.hid hu
  clear hu
  go_enter Try.func96, Try.ntmps96
  go_wp2
  go_loopg [3, 9] 0 (fun g u i wr => g = 0 ∧ u = .slice none 0 0 ∧ i = .int .i64 0 ∧ Upd (fun _ => False) w wr)
  case atStart => exact ⟨rfl, rfl, rfl, HU.out⟩
  case round =>
    obtain ⟨rfl, rfl, rfl, hu⟩ := hrel
    have HU2 := Lib.hid hu
    clear hu
    go_wp2
    go_ret
    exact ⟨rfl, HU2.out⟩

end Go.Proofs.Ytbimkhdiplnbfaa
end

section
namespace Go.Proofs.Ytbimkhdiplnbfaa
open Go.RowKit Go.Deep

theorem fresh56d (W : World) (bs : List Value) (hb : bs.length = 64) : (W.alloc (.cells (bcells zblk).toArray 56)).there W.heap.size 0 bs.toArray.size ∧ ((W.alloc (.cells (bcells zblk).toArray 56)).setCells W.heap.size 0 bs).heap[W.heap.size]? = some (.cells bs.toArray 56 (0, 0)) ∧
    Upd (fun _ => False) W ((W.alloc (.cells (bcells zblk).toArray 56)).setCells W.heap.size 0 bs) := by
  have hblk : (W.alloc (.cells (bcells zblk).toArray 56)).heap[W.heap.size]? = some (.cells (bcells zblk).toArray 56 (0, 0)) := alloc_at rfl
  have hzl : (bcells zblk).toArray.size = bs.toArray.size := by simp [bcells, zblk, hb]
  refine ⟨?_, heap_setCells_whole (vs := bs) hblk (by rw [hzl]; simp), ?_⟩
  · have := there_block hblk
    rwa [hzl] at this
  · have := Upd.setCells (F := fun j => W.heap.size ≤ j) (b := W.heap.size) (Nat.le_refl _) bs 0 ((Upd.refl _ W).alloc (.cells (bcells zblk).toArray 56))
    exact this.mono (fun j hj e => by omega)

set_option maxRecDepth 100000 in
set_option maxHeartbeats 4000000 in
theorem refShows_run (Aa Ra : Option Addr) (Ac Rc : Nat) (arr : List (List Int)) (R : List (Nat × List Int × Int)) (o ar fl : Int) (dd : Bool) (i : Nat) (w : World) (hA : ArrS w Aa Ac arr) (hR : RowR w Ra Rc R) (hl : ∀ x ∈ R, x.2.1.length = 64) (hal : ∀ b ∈ arr, b.length = 64) (hRl : R.length ≤ 1000000) (_hAl : arr.length ≤ 2048) (hi : i < arr.length) :
    Calls Try.prog 50 #[.agg #[.slice Aa arr.length Ac, .slice Ra R.length Rc, .int .i64 o, .int .i64 ar, .int .i64 fl, .bool dd], .int .i64 i] w fun e w' => e = .returned (.agg (bcells (shL i (arr.getD i []) R)).toArray) ∧ Upd (fun _ => False) w w' := by
  have HR := Lib.hid hR; have HL := Lib.hid hl
  have hi2 : (i : Int) < arr.length := by omega
  have hbl : (arr.getD i []).length = 64 := hal _ (by simp [List.getD_eq_getElem?_getD, hi])
  obtain ⟨ga, rfl, hra⟩ := (hA.kept (((Upd.refl _ w).alloc (.cells #[.slice Aa arr.length Ac, .slice Ra R.length Rc, .int .i64 o, .int .i64 ar, .int .i64 fl, .bool dd] 69)).alloc (.cells (bcells zblk).toArray 56))).at hal hi
  have hra2 : ((w.alloc (.cells #[.slice (some ⟨ga, 0, none⟩) arr.length Ac, .slice Ra R.length Rc, .int .i64 o, .int .i64 ar, .int .i64 fl, .bool dd] 69)).alloc (.cells (bcells zblk).toArray 56)).rangeAt ga (i * 64) (bcells (arr.getD i [])) := hra
  obtain ⟨b0, hb0⟩ : ∃ b0, b0 = arr.getD i [] := ⟨_, rfl⟩
  rw [← hb0] at hra2 hbl ⊢
  have H0 : RowKit.Hid (b0.length = 64) := Lib.hid hbl
  have HRA := Lib.hid hra2
  have hi0 : (Try.prog.info? 56).map (·.size) = some (bcells b0).length := by rw [Try.info56p, bcells_length, hbl]
  have HI0 := Lib.hid hi0
  clear hA hR hl hra hra2 hi0 hal hb0
  go_enter Try.func50, Try.ntmps50
  go_upto_region 1 with fail
  iterate 13 go_step
  obtain ⟨w2, hw2⟩ : ∃ w2, w2 = ((w.alloc (.cells #[.slice (some ⟨ga, 0, none⟩) arr.length Ac, .slice Ra R.length Rc, .int .i64 o, .int .i64 ar, .int .i64 fl, .bool dd] 69)).alloc (.cells (bcells zblk).toArray 56)) := ⟨_, rfl⟩
  refine (?_ : wpList _ _ _ _ _ ((w.alloc (.cells #[.slice (some ⟨ga, 0, none⟩) arr.length Ac, .slice Ra R.length Rc, .int .i64 o, .int .i64 ar, .int .i64 fl, .bool dd] 69)).alloc (.cells (bcells zblk).toArray 56)))
  have hres : w2.heap[w.heap.size + 1]? = some (.cells (bcells zblk).toArray 56 (0, 0)) := by rw [hw2]; exact alloc_at (by simp)
  have hbox : w2.heap[w.heap.size]? = some (.cells #[.slice (some ⟨ga, 0, none⟩) arr.length Ac, .slice Ra R.length Rc, .int .i64 o, .int .i64 ar, .int .i64 fl, .bool dd] 69 (0, 0)) := by rw [hw2]; exact (alloc_lt (by simp)).trans (alloc_at rfl)
  have huw : Upd (fun _ => False) w w2 := by rw [hw2]; exact ((Upd.refl _ w).alloc _).alloc _
  have hz2 : w2.heap.size = w.heap.size + 2 := by rw [hw2]; simp
  rw [← hw2] at HRA ⊢
  clear hw2
  refine wpList_load_mid rfl 56 (.tmp 11) rfl ga (i * 64) rfl (bcells b0) _ HRA.out Try.underlying56 rfl HI0.out ?_
  iterate 3 go_step
  obtain ⟨f1, f2, f3⟩ := fresh56d w2 (bcells b0) (by rw [bcells_length]; exact H0.out)
  rw [hz2] at f1 f2 f3
  refine wpList_store_mid rfl 56 (.tmp 5) (.tmp 12) rfl (w.heap.size + 2) 0 (bcells b0).toArray rfl rfl f1 (by rw [HI0.out]; simp) (all_oneCell_toArray (bcells_one b0)) ?_
  refine (?_ : wpList _ _ _ _ _ ((w2.alloc (.cells (bcells zblk).toArray 56)).setCells (w.heap.size + 2) 0 (bcells b0)))
  have hres3 := (f3.block _ (lt_of_heap hres) (fun e => e)).trans hres
  have hbox3 := (f3.block _ (lt_of_heap hbox) (fun e => e)).trans hbox
  have hu3 := huw.trans f3
  generalize (w2.alloc (.cells (bcells zblk).toArray 56)).setCells (w.heap.size + 2) 0 (bcells b0) = w3 at *
  have q1 : w3.cell? ⟨w.heap.size, 1, none⟩ = some (.slice Ra R.length Rc) := by rw [cell_of_heap hbox3]; rfl
  have HRES := Lib.hid hres3; have HB3 := Lib.hid f2; have HU3 := Lib.hid hu3
  obtain ⟨b5, hb5⟩ : ∃ b5, b5 = w.heap.size + 2 := ⟨_, rfl⟩
  rw [← hb5] at HB3 ⊢
  have hb5a : w.heap.size + 2 ≤ b5 := by omega
  clear hb5 f1 f2 f3 hres hbox hres3 hbox3 hu3 HRA huw
  go_wp2
  go_loopg [16] R.length (fun g c wr => ∃ j : Nat, j ≤ R.length ∧ g = R.length - j ∧ c = .int .i64 j ∧ wr.heap[b5]? = some (.cells (bcells (shL i b0 (R.take j))).toArray 56 (0, 0)) ∧ wr.heap[w.heap.size + 1]? = some (.cells (bcells zblk).toArray 56 (0, 0)) ∧ Upd (fun _ => False) w wr)
  case atStart => exact ⟨0, Nat.zero_le _, rfl, rfl, HB3.out, HRES.out, HU3.out⟩
  case round =>
    clear HRES HB3 HU3 q1
    obtain ⟨j, hj, rfl, rfl, hcur, hre, hu⟩ := hrel
    have HC := Lib.hid hcur; have HRE := Lib.hid hre; have HU := Lib.hid hu
    clear hcur hre hu
    obtain ⟨wo, rfl⟩ : ∃ wo, wo = wr := ⟨_, rfl⟩
    by_cases hjn : j < R.length
    · have hjn2 : (j : Int) < R.length := by omega
      obtain ⟨x, hx⟩ : ∃ x, R[j]? = some x := ⟨R[j], by simp [hjn]⟩
      obtain ⟨g, rfl, hrg⟩ := (HR.out.kept HU.out).at HL.out hx
      have hxb := HL.out x (List.mem_of_getElem? hx)
      have hxl := sentC_length hxb
      have HX := Lib.hid hx; have HRG := Lib.hid hrg; have HXL := Lib.hid hxl
      have hi1 : (Try.prog.info? 150).map (·.size) = some (sentC x).length := by rw [Try.size150, hxl]
      have hi3 : (Try.prog.info? 56).map (·.size) = some (bcells x.2.1).length := by rw [Try.info56p, bcells_length, hxb]
      have HI := Lib.hid hi1; have HI3 := Lib.hid hi3; have HXB := Lib.hid hxb
      clear hx hrg hxl hi1 hi3 hxb
      go_upto_region 4 with fail
      iterate 4 go_step
      refine wpList_load_mid rfl 150 (.tmp 18) rfl g (j * 65) rfl (sentC x) _ HRG.out Try.underlying150 rfl HI.out ?_
      iterate 3 go_step
      have hblk : (wo.alloc (.cells Try.zeroCells150 150)).heap[wo.heap.size]? = some (.cells Try.zeroCells150 150 (0, 0)) := alloc_at rfl
      have hth : (wo.alloc (.cells Try.zeroCells150 150)).there wo.heap.size 0 (sentC x).toArray.size := by
        have := there_block hblk
        rwa [show Try.zeroCells150.size = (sentC x).toArray.size by rw [Try.zsize150]; simp [HXL.out]] at this
      refine wpList_store_mid rfl 150 (.tmp 7) (.tmp 19) rfl wo.heap.size 0 (sentC x).toArray rfl rfl hth (by rw [HI.out]; simp) (all_oneCell_toArray (sentC_one x)) ?_
      have hb2 := heap_setCells_whole (vs := sentC x) hblk (by rw [Try.zsize150, HXL.out])
      have hu2 : Upd (fun _ => False) wo ((wo.alloc (.cells Try.zeroCells150 150)).setCells wo.heap.size 0 (sentC x)) := by
        have := Upd.setCells (F := fun j => wo.heap.size ≤ j) (b := wo.heap.size) (Nat.le_refl _) (sentC x) 0 ((Upd.refl _ wo).alloc (.cells Try.zeroCells150 150))
        exact this.mono (fun j hj e => by omega)
      refine (?_ : wpList _ _ _ _ _ ((wo.alloc (.cells Try.zeroCells150 150)).setCells wo.heap.size 0 (sentC x)))
      clear hblk hth
      obtain ⟨bx, hbx⟩ : ∃ bx, bx = wo.heap.size := ⟨_, rfl⟩
      generalize (wo.alloc (.cells Try.zeroCells150 150)).setCells wo.heap.size 0 (sentC x) = w4 at *
      rw [← hbx] at hb2 ⊢
      have c0 : w4.cell? ⟨bx, 0, none⟩ = some (.int .i64 x.1) := by rw [cell_of_heap hb2]; simp [sentC]
      have hrg2 : w4.rangeAt bx 1 (bcells x.2.1) := by
        intro t v hv
        rw [cell_of_heap hb2]
        have e : (sentC x).toArray[1 + t]? = (bcells x.2.1)[t]? := by rw [Nat.add_comm]; simp [sentC]
        rw [e]; exact hv
      have HRG2 := Lib.hid hrg2
      have HC2 := Lib.hid ((hu2.block _ (lt_of_heap HC.out) (fun e => e)).trans HC.out)
      have HRE2 := Lib.hid ((hu2.block _ (lt_of_heap HRE.out) (fun e => e)).trans HRE.out)
      have HU2 := Lib.hid (HU.out.trans hu2)
      have htk : R.take (j + 1) = R.take j ++ [x] := by rw [List.take_add_one, HX.out]; simp
      have HTK := Lib.hid htk
      clear hb2 hu2 hbx hrg2 HC HRE HU HRG HI HXL htk
      by_cases hxi : (x.1 : Int) = i
      · go_upto_region 6 with fail
        iterate 4 go_step
        refine wpList_load_mid rfl 56 (.tmp 24) rfl bx 1 rfl (bcells x.2.1) _ HRG2.out Try.underlying56 rfl HI3.out ?_
        have hcl : (bcells (shL i b0 (R.take j))).length = 64 := by rw [bcells_length]; exact shL_blk i b0 H0.out _ (fun y hy => HL.out y (List.mem_of_mem_take hy))
        have hth : w4.there b5 0 (bcells x.2.1).toArray.size := by
          have := there_block HC2.out
          rwa [show (bcells (shL i b0 (R.take j))).toArray.size = (bcells x.2.1).toArray.size by simp [hcl, bcells_length, HXB.out]] at this
        refine wpList_store_mid rfl 56 (.tmp 5) (.tmp 25) rfl b5 0 (bcells x.2.1).toArray rfl rfl hth (by rw [HI3.out]; simp) (all_oneCell_toArray (bcells_one _)) ?_
        have hb6 := heap_setCells_whole (vs := bcells x.2.1) HC2.out (by simp [hcl, bcells_length, HXB.out])
        have hu6 : Upd (fun k => k = b5) w4 (w4.setCells b5 0 (bcells x.2.1)) := Upd.setCells (F := fun k => k = b5) rfl _ 0 (Upd.refl _ w4)
        have HC6 := Lib.hid hb6
        have HRE6 := Lib.hid ((hu6.block _ (lt_of_heap HRE2.out) (by omega)).trans HRE2.out)
        have HU6 : RowKit.Hid (Upd (fun _ => False) w (w4.setCells b5 0 (bcells x.2.1))) := Lib.hid (HU2.out.step hu6 (fun k hk e => by omega))
        refine (?_ : wpList _ _ _ _ _ (w4.setCells b5 0 (bcells x.2.1)))
        clear hth hb6 hu6 hcl HC2 HRE2 HU2
        generalize w4.setCells b5 0 (bcells x.2.1) = w6 at *
        go_wp2
        go_roundg (R.length - (j + 1))
        case measure => omega
        case rel => exact ⟨j + 1, by omega, rfl, congrArg _ (by omega), by rw [HTK.out, shL_snoc, if_pos hxi]; exact HC6.out, HRE6.out, HU6.out⟩
      · go_wp2
        go_roundg (R.length - (j + 1))
        case measure => omega
        case rel => exact ⟨j + 1, by omega, rfl, congrArg _ (by omega), by rw [HTK.out, shL_snoc, if_neg hxi]; exact HC2.out, HRE2.out, HU2.out⟩
    · obtain rfl : j = R.length := by omega
      have hcl : (bcells (shL i b0 R)).length = 64 := by rw [bcells_length]; exact shL_blk i b0 H0.out _ HL.out
      have hcc := HC.out
      rw [List.take_length] at hcc
      have hi9 : (Try.prog.info? 56).map (·.size) = some (bcells (shL i b0 R)).length := by rw [Try.info56p, hcl]
      have hth : wo.there (w.heap.size + 1) 0 (bcells (shL i b0 R)).toArray.size := by
        have := there_block HRE.out
        rwa [show (bcells zblk).toArray.size = (bcells (shL i b0 R)).toArray.size by simp [hcl, bcells_length, zblk]] at this
      have hw := heap_setCells_whole (vs := bcells (shL i b0 R)) HRE.out (by simp [hcl, bcells_length, zblk])
      have hu9 : Upd (fun _ => False) w (wo.setCells (w.heap.size + 1) 0 (bcells (shL i b0 R))) := (Upd.setCells (F := fun k => w.heap.size ≤ k) (Nat.le_succ _) _ 0 (HU.out.mono (fun _ _ e => e.elim))).mono (fun j hj e => by omega)
      have HCC := Lib.hid hcc; have HI9 := Lib.hid hi9; have HTH := Lib.hid hth; have HW := Lib.hid hw; have HU9 := Lib.hid hu9
      clear hcl hcc hi9 hth hw hu9
      go_upto_region 8 with fail
      go_step
      refine wpList_load_mid rfl 56 (.tmp 5) rfl b5 0 rfl (bcells (shL i b0 R)) _ (rangeAt_block HCC.out) Try.underlying56 rfl HI9.out ?_
      refine wpList_store_mid rfl 56 (.tmp 4) (.tmp 27) rfl (w.heap.size + 1) 0 (bcells (shL i b0 R)).toArray rfl rfl HTH.out (by rw [HI9.out]; simp) (all_oneCell_toArray (bcells_one _)) ?_
      go_wp2
      have hl3 := run_loadVar_mid (P := Try.prog) (wo.setCells (w.heap.size + 1) 0 (bcells (shL i b0 R))) (w.heap.size + 1) 0 56 (bcells (shL i b0 R)) _ (rangeAt_block HW.out) Try.underlying56 rfl HI9.out
      exact bodyPost_ret (results_cell1 Try.results50 rfl hl3) rfl ⟨rfl, HU9.out⟩

end Go.Proofs.Ytbimkhdiplnbfaa
end

section
namespace Go.Proofs.Ytbimkhdiplnbfaa
open Go.RowKit

/-- A sector's history since the last Sync. -/
def Dk.hist (D : Dk) (i : Nat) : List (List Int) := (D.vers i).map (·.1)

theorem hist_ne (D : Dk) (i : Nat) : D.hist i ≠ [] := by simp [Dk.hist, Dk.vers]
theorem hist_pos (D : Dk) (i : Nat) : 0 < (D.hist i).length := List.length_pos_iff.2 (hist_ne D i)

theorem hist_last (D : Dk) (i : Nat) : (D.hist i)[(D.hist i).length - 1]? = some (D.shows i) := by
  obtain ⟨v, h1, _, h3⟩ := shows_at D i
  simp [Dk.hist, h1, h3]

theorem hist_first (D : Dk) (i : Nat) : (D.hist i)[0]? = some (D.arr.getD i []) := by simp [Dk.hist, Dk.vers]

theorem hist_len (D : Dk) (i : Nat) : (D.hist i).length ≤ D.row.length + 1 := by
  have := vers_length_le D i
  simpa [Dk.hist] using this

theorem hist_new {n i : Nat} (hi : i < n) : (Dk.new n).hist i = [zblk] := by
  simp [Dk.hist, Dk.vers, Dk.new, List.getD_eq_getElem?_getD, hi]

theorem vers_nums {D E : Dk} (ha : D.arr = E.arr) (hr : D.row = E.row) (i : Nat) : D.vers i = E.vers i := by
  unfold Dk.vers; rw [ha, hr]

theorem Dk.Calm.hist_write {D : Dk} (h : D.Calm) {i : Int} (hi : ¬ D.off i) (b : List Int) (j : Nat) :
    (D.write i b).hist j = if j = i.toNat then D.hist j ++ [b] else D.hist j := by
  have hw : D.write i b = Dk.send { D with ops := D.ops + 1 } i.toNat b := by
    rw [h.write, if_neg hi]; rfl
  unfold Dk.hist
  rw [hw]
  by_cases hj : j = i.toNat
  · subst hj
    rw [if_pos rfl, vers_send_same]
    simp [Dk.vers]
  · rw [if_neg hj, vers_send_other _ _ _ _ hj]
    rfl

theorem Dk.Calm.hist_off {D : Dk} (h : D.Calm) {i : Int} (hi : D.off i) (b : List Int) : D.write i b = D := by
  rw [h.write, if_pos hi]

theorem Dk.Calm.hist_read {D : Dk} (h : D.Calm) (i : Int) (wr : Bool) (j : Nat) : (D.callD i wr).hist j = D.hist j := by
  unfold Dk.hist
  rw [h.callD]
  split
  · rfl
  · rfl

theorem Dk.Calm.hist_sync {D : Dk} (h : D.Calm) (hn : 1 ≤ D.arr.length) {j : Nat} (hj : j < D.arr.length) : D.sync.hist j = [D.shows j] := by
  rw [h.sync hn]
  simp [Dk.hist, Dk.vers, List.getD_eq_getElem?_getD, hj]

theorem Dk.Calm.sync' {D : Dk} (h : D.Calm) (hn : 1 ≤ D.arr.length) : D.sync.Calm := by
  rw [h.sync hn]
  exact ⟨h.dead, h.arm, h.fail⟩

theorem crash_calm (D : Dk) (keep : List Bool) : (D.crash keep).Calm := ⟨rfl, rfl, rfl⟩

theorem crash_shows {D : Dk} {keep : List Bool} {i : Nat} (hi : i < D.arr.length) : (D.crash keep).shows i = D.kept (fun n => !D.keepsAt keep n) i := by
  unfold Dk.shows Dk.vers Dk.crash Dk.arrive
  simp [List.getD_eq_getElem?_getD, hi]

theorem arriveL_none (kp : Nat → Bool) (i : Nat) : ∀ (R : List (Nat × List Int × Int)) (k : Nat) (b : List Int), (∀ j x, R[j]? = some x → x.1 = i → kp (k + j) = false) → arriveL kp i R k b false = b
  | [], _, _, _ => rfl
  | x :: R, k, b, H => by
    unfold arriveL
    have h0 := H 0 x (by simp)
    have hr : ∀ j y, R[j]? = some y → y.1 = i → kp (k + 1 + j) = false := fun j y hj hy => by
      have := H (j + 1) y (by simpa using hj) hy
      rwa [show k + (j + 1) = k + 1 + j by omega] at this
    by_cases hx : x.1 = i
    · rw [if_pos hx]
      have h1 := h0 hx
      simp only [Nat.add_zero] at h1
      rw [h1]
      simp only [Bool.not_false, Bool.or_true, if_true]
      exact arriveL_lost kp i R (k + 1) b
    · rw [if_neg hx]
      exact arriveL_none kp i R (k + 1) b hr

theorem arriveL_whole (kp : Nat → Bool) (i : Nat) : ∀ (R : List (Nat × List Int × Int)) (k : Nat) (b : List Int), (∀ j x, R[j]? = some x → x.1 = i → kp (k + j) = true) → arriveL kp i R k b false = shL i b R
  | [], _, _, _ => rfl
  | x :: R, k, b, H => by
    unfold arriveL
    have h0 := H 0 x (by simp)
    have hr : ∀ j y, R[j]? = some y → y.1 = i → kp (k + 1 + j) = true := fun j y hj hy => by
      have := H (j + 1) y (by simpa using hj) hy
      rwa [show k + (j + 1) = k + 1 + j by omega] at this
    by_cases hx : x.1 = i
    · rw [if_pos hx]
      have h1 := h0 hx
      simp only [Nat.add_zero] at h1
      rw [h1]
      simp only [Bool.not_true, Bool.or_false, Bool.false_eq_true, if_false]
      rw [arriveL_whole kp i R (k + 1) x.2.1 hr]
      unfold shL
      simp [hx]
    · rw [if_neg hx, arriveL_whole kp i R (k + 1) b hr]
      unfold shL
      have : ¬ (x.1 : Int) = (i : Int) := by omega
      simp [this]

/-- All of one sector is lost, nothing of the others. -/
theorem crash_own {D : Dk} {K : Nat} (h : D.Ok K) (own i : Nat) (hi : i < D.arr.length) :
    (D.crash (D.row.map fun x => decide (x.1 ≠ own))).shows i = if i = own then D.arr.getD i [] else D.shows i := by
  have hkp : ∀ j x, D.row[j]? = some x → (D.row.map fun x => decide (x.1 ≠ own)).getD j false = !(!D.keepsAt (D.row.map fun x => decide (x.1 ≠ own)) x.2.2) := fun j x hx => by
    rw [Bool.not_not, keepsAt_at h.sorted _ hx]
  rw [crash_shows hi, ← arriveL_eq D (fun k => (D.row.map fun x => decide (x.1 ≠ own)).getD k false) (fun n => !D.keepsAt (D.row.map fun x => decide (x.1 ≠ own)) n) i hkp]
  by_cases ho : i = own
  · rw [if_pos ho]
    refine arriveL_none _ i D.row 0 _ (fun j x hx he => ?_)
    simp [List.getD_eq_getElem?_getD, hx, he, ho]
  · rw [if_neg ho, ← shL_shows]
    refine arriveL_whole _ i D.row 0 _ (fun j x hx he => ?_)
    simp [List.getD_eq_getElem?_getD, hx, he, ho]

theorem takeWhile_mono {α : Type} (f g : α → Bool) (h : ∀ x, f x = true → g x = true) : ∀ l : List α, (l.takeWhile f).length ≤ (l.takeWhile g).length
  | [] => Nat.le_refl _
  | x :: l => by
    simp only [List.takeWhile_cons]
    cases hf : f x with
    | false => simp
    | true =>
      rw [h x hf]
      simpa using takeWhile_mono f g h l

theorem keepsAt_mono {D : Dk} {keep more : List Bool} (h : ∀ j, keep.getD j false = true → more.getD j false = true) (n : Int) (hk : D.keepsAt keep n = true) : D.keepsAt more n = true := by
  unfold Dk.keepsAt at hk ⊢
  rw [List.any_eq_true] at hk ⊢
  obtain ⟨x, h1, h2⟩ := hk
  refine ⟨x, h1, ?_⟩
  rw [Bool.and_eq_true] at h2 ⊢
  exact ⟨h2.1, h _ h2.2⟩

/-- Behind a crash a sector shows one of its history, and no older one by keeping more. -/
theorem crash_ages {D : Dk} {keep more : List Bool} (h : ∀ j, keep.getD j false = true → more.getD j false = true) {i : Nat} (hi : i < D.arr.length) :
    ∃ p q : Nat, p ≤ q ∧ (D.hist i)[p]? = some ((D.crash keep).shows i) ∧ (D.hist i)[q]? = some ((D.crash more).shows i) := by
  refine ⟨D.count (fun n => !D.keepsAt keep n) i, D.count (fun n => !D.keepsAt more n) i, ?_, ?_, ?_⟩
  · unfold Dk.count
    refine takeWhile_mono _ _ (fun v hv => ?_) _
    simp only [Bool.not_not] at hv ⊢
    exact keepsAt_mono h v.2 hv
  · obtain ⟨v, h1, _, h3⟩ := kept_at D (fun n => !D.keepsAt keep n) i
    rw [crash_shows hi, h3]
    simp [Dk.hist, h1]
  · obtain ⟨v, h1, _, h3⟩ := kept_at D (fun n => !D.keepsAt more n) i
    rw [crash_shows hi, h3]
    simp [Dk.hist, h1]

end Go.Proofs.Ytbimkhdiplnbfaa
end

