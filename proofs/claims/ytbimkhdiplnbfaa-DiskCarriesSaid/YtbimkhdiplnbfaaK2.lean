/- Walks of the laws: Call.on. -/
import Derived.Test.YtbimkhdiplnbfaaK1
import Derived.Test.YtbimkhdiplnbfaaR0
namespace Go.Proofs.Ytbimkhdiplnbfaa
open Go.RowKit Go.Deep

theorem kind_run' {k κ : Int} (hκ : kindOf k = κ) (i n c : Int) (ka : Option Addr) (kn kc : Nat) (w : World) :
    Calls Try.prog 57 #[callV k i n c ka kn kc] w fun e w' => e = .returned (.int .u64 κ) ∧ Upd (fun _ => False) w w' := by
  rw [← hκ]; exact kind_run k i n c ka kn kc w

def callBox (k i n c : Int) (ka : Option Addr) (kn kc : Nat) : Obj := .cells #[.int .i64 k, .int .i64 i, .int .i64 n, .int .u8 c, .slice ka kn kc] 51 (0, 0)

theorem box_cells {w : World} {b : Nat} {k i n c : Int} {ka : Option Addr} {kn kc : Nat} (h : w.heap[b]? = some (callBox k i n c ka kn kc)) :
    w.cell? ⟨b, 0, none⟩ = some (.int .i64 k) ∧ w.cell? ⟨b, 1, none⟩ = some (.int .i64 i) ∧ w.cell? ⟨b, 2, none⟩ = some (.int .i64 n) ∧ w.cell? ⟨b, 3, none⟩ = some (.int .u8 c) ∧ w.cell? ⟨b, 4, none⟩ = some (.slice ka kn kc) := by
  unfold callBox at h
  refine ⟨?_, ?_, ?_, ?_, ?_⟩ <;> rw [cell_of_heap h] <;> rfl

theorem Try.size51 : (Try.prog.info? 51).map (·.size) = some 5 := by kernel_rfl

/-- What a call of a disk leaves: On's own two blocks are behind w. -/
def OnLeft (w : World) (F : Nat → Prop) (Post : World → World → Prop) (w' : World) : Prop :=
  ∃ W1 W2, Upd (fun _ => False) w W1 ∧ w.heap.size + 1 < W1.heap.size ∧ Post W1 W2 ∧ Upd F W1 W2 ∧ Upd (fun j => j = w.heap.size + 1) W2 w'

set_option maxRecDepth 100000 in
set_option maxHeartbeats 2000000 in
theorem on_sync {ptr : Value} {F : Nat → Prop} (k i n c : Int) (ka : Option Addr) (kn kc : Nat) (w : World) (hF : ∀ j, F j → j < w.heap.size) (E : Int) (Post : World → World → Prop) (hκ : kindOf k = 6)
    (hc : ∀ W, Upd (fun _ => False) w W → Calls Try.prog 38 #[ptr] W fun e w' => e = .returned (.int .i64 E) ∧ Post W w' ∧ Upd F W w') :
    Calls Try.prog 44 #[callV k i n c ka kn kc, ptr] w fun e w' => e = .returned (.tuple #[.agg (bcells zblk).toArray, .int .i64 E]) ∧ OnLeft w F Post w' := by
  have HC := Lib.hid hc
  have HF := Lib.hid hF
  have hle : (bcells zblk).length = 64 := by simp [bcells, zblk]
  have hi : (Try.prog.info? 56).map (·.size) = some (bcells zblk).length := by rw [Try.info56p, hle]
  have H1B := Lib.hid (all_oneCell_toArray (bcells_one zblk))
  have HI := Lib.hid hi; have HLE := Lib.hid hle
  clear hc hle hi hF
  unfold callV
  go_enter Try.func44, Try.ntmps44
  go_wp2_with (go_at_call 57; refine (kind_run' hκ i n c ka kn kc _).mono ?_; rintro e w1 ⟨rfl, hu1⟩
               have hb1 : w1.heap[w.heap.size + 1]? = some (.cells (bcells zblk).toArray 56 (0, 0)) := (hu1.block _ (by simp) (fun e => e)).trans (alloc_at (by simp))
               have hx1 : w1.heap[w.heap.size]? = some (callBox k i n c ka kn kc) := (hu1.block _ (by simp; omega) (fun e => e)).trans ((alloc_lt (by simp)).trans (alloc_at rfl))
               have HU1 : RowKit.Hid (Upd (fun _ => False) w w1) := Lib.hid ((((Upd.refl _ w).alloc _).alloc _).trans hu1)
               have HB1 := Lib.hid hb1
               obtain ⟨x0, x1, x2, x3, x4⟩ := box_cells hx1
               have HX1 := Lib.hid hx1
               clear hu1 hb1 hx1)
  generalize hbs : bcells zblk = bs at *
  refine (HC.out w1 HU1.out).mono ?_
  rintro e w2 ⟨rfl, hp, hu2⟩
  have hb2 := (hu2.block _ (lt_of_heap HB1.out) (fun e => by have := HF.out _ e; omega)).trans HB1.out
  have HB2 := Lib.hid hb2; have HP := Lib.hid hp; have HU2 := Lib.hid hu2
  clear hb2 hp hu2 HC
  simp only []
  go_upto_region 13 with fail
  go_step
  refine wpList_load_mid rfl 56 (.tmp 4) rfl (w.heap.size + 1) 0 rfl bs _ (rangeAt_block HB2.out) Try.underlying56 rfl HI.out ?_
  iterate 3 go_step
  refine wpList_store_mid rfl 56 (.tmp 4) (.tmp 44) rfl (w.heap.size + 1) 0 bs.toArray rfl rfl (there_block HB2.out) (by rw [HI.out]; simp) H1B.out ?_
  go_wp2
  have hl3 := run_loadVar_mid (P := Try.prog) (w2.setCells (w.heap.size + 1) 0 bs) (w.heap.size + 1) 0 56 bs _ (rangeAt_block (heap_setCells_whole (vs := bs) HB2.out (by simp))) Try.underlying56 rfl HI.out
  refine bodyPost_ret (results_cell_tmp Try.results44 rfl hl3) rfl ⟨by rw [hbs]; rfl, w1, w2, HU1.out, lt_of_heap HB1.out, HP.out, HU2.out, Upd.setCells (F := fun k => k = w.heap.size + 1) rfl bs 0 (Upd.refl _ w2)⟩

set_option maxRecDepth 100000 in
set_option maxHeartbeats 2000000 in
theorem on_arm {ptr : Value} {F : Nat → Prop} (k i n c : Int) (ka : Option Addr) (kn kc : Nat) (w : World) (hF : ∀ j, F j → j < w.heap.size) (E : Int) (Post : World → World → Prop) (hκ : kindOf k = 7)
    (hc : ∀ W, Upd (fun _ => False) w W → Calls Try.prog 55 #[ptr, .int .i64 n] W fun e w' => e = .returned (.int .i64 E) ∧ Post W w' ∧ Upd F W w') :
    Calls Try.prog 44 #[callV k i n c ka kn kc, ptr] w fun e w' => e = .returned (.tuple #[.agg (bcells zblk).toArray, .int .i64 E]) ∧ OnLeft w F Post w' := by
  have HC := Lib.hid hc
  have HF := Lib.hid hF
  have hle : (bcells zblk).length = 64 := by simp [bcells, zblk]
  have hi : (Try.prog.info? 56).map (·.size) = some (bcells zblk).length := by rw [Try.info56p, hle]
  have H1B := Lib.hid (all_oneCell_toArray (bcells_one zblk))
  have HI := Lib.hid hi; have HLE := Lib.hid hle
  clear hc hle hi hF
  unfold callV
  go_enter Try.func44, Try.ntmps44
  go_wp2_with (go_at_call 57; refine (kind_run' hκ i n c ka kn kc _).mono ?_; rintro e w1 ⟨rfl, hu1⟩
               have hb1 : w1.heap[w.heap.size + 1]? = some (.cells (bcells zblk).toArray 56 (0, 0)) := (hu1.block _ (by simp) (fun e => e)).trans (alloc_at (by simp))
               have hx1 : w1.heap[w.heap.size]? = some (callBox k i n c ka kn kc) := (hu1.block _ (by simp; omega) (fun e => e)).trans ((alloc_lt (by simp)).trans (alloc_at rfl))
               have HU1 : RowKit.Hid (Upd (fun _ => False) w w1) := Lib.hid ((((Upd.refl _ w).alloc _).alloc _).trans hu1)
               have HB1 := Lib.hid hb1
               obtain ⟨x0, x1, x2, x3, x4⟩ := box_cells hx1
               have HX1 := Lib.hid hx1
               clear hu1 hb1 hx1)
  generalize hbs : bcells zblk = bs at *
  refine (HC.out w1 HU1.out).mono ?_
  rintro e w2 ⟨rfl, hp, hu2⟩
  have hb2 := (hu2.block _ (lt_of_heap HB1.out) (fun e => by have := HF.out _ e; omega)).trans HB1.out
  have HB2 := Lib.hid hb2; have HP := Lib.hid hp; have HU2 := Lib.hid hu2
  clear hb2 hp hu2 HC
  simp only []
  go_upto_region 13 with fail
  go_step
  refine wpList_load_mid rfl 56 (.tmp 4) rfl (w.heap.size + 1) 0 rfl bs _ (rangeAt_block HB2.out) Try.underlying56 rfl HI.out ?_
  iterate 3 go_step
  refine wpList_store_mid rfl 56 (.tmp 4) (.tmp 44) rfl (w.heap.size + 1) 0 bs.toArray rfl rfl (there_block HB2.out) (by rw [HI.out]; simp) H1B.out ?_
  go_wp2
  have hl3 := run_loadVar_mid (P := Try.prog) (w2.setCells (w.heap.size + 1) 0 bs) (w.heap.size + 1) 0 56 bs _ (rangeAt_block (heap_setCells_whole (vs := bs) HB2.out (by simp))) Try.underlying56 rfl HI.out
  refine bodyPost_ret (results_cell_tmp Try.results44 rfl hl3) rfl ⟨by rw [hbs]; rfl, w1, w2, HU1.out, lt_of_heap HB1.out, HP.out, HU2.out, Upd.setCells (F := fun k => k = w.heap.size + 1) rfl bs 0 (Upd.refl _ w2)⟩

set_option maxRecDepth 100000 in
set_option maxHeartbeats 2000000 in
theorem on_fail {ptr : Value} {F : Nat → Prop} (k i n c : Int) (ka : Option Addr) (kn kc : Nat) (w : World) (hF : ∀ j, F j → j < w.heap.size) (E : Int) (Post : World → World → Prop) (hκ : kindOf k = 8)
    (hc : ∀ W, Upd (fun _ => False) w W → Calls Try.prog 56 #[ptr, .int .i64 n] W fun e w' => e = .returned (.int .i64 E) ∧ Post W w' ∧ Upd F W w') :
    Calls Try.prog 44 #[callV k i n c ka kn kc, ptr] w fun e w' => e = .returned (.tuple #[.agg (bcells zblk).toArray, .int .i64 E]) ∧ OnLeft w F Post w' := by
  have HC := Lib.hid hc
  have HF := Lib.hid hF
  have hle : (bcells zblk).length = 64 := by simp [bcells, zblk]
  have hi : (Try.prog.info? 56).map (·.size) = some (bcells zblk).length := by rw [Try.info56p, hle]
  have H1B := Lib.hid (all_oneCell_toArray (bcells_one zblk))
  have HI := Lib.hid hi; have HLE := Lib.hid hle
  clear hc hle hi hF
  unfold callV
  go_enter Try.func44, Try.ntmps44
  go_wp2_with (go_at_call 57; refine (kind_run' hκ i n c ka kn kc _).mono ?_; rintro e w1 ⟨rfl, hu1⟩
               have hb1 : w1.heap[w.heap.size + 1]? = some (.cells (bcells zblk).toArray 56 (0, 0)) := (hu1.block _ (by simp) (fun e => e)).trans (alloc_at (by simp))
               have hx1 : w1.heap[w.heap.size]? = some (callBox k i n c ka kn kc) := (hu1.block _ (by simp; omega) (fun e => e)).trans ((alloc_lt (by simp)).trans (alloc_at rfl))
               have HU1 : RowKit.Hid (Upd (fun _ => False) w w1) := Lib.hid ((((Upd.refl _ w).alloc _).alloc _).trans hu1)
               have HB1 := Lib.hid hb1
               obtain ⟨x0, x1, x2, x3, x4⟩ := box_cells hx1
               have HX1 := Lib.hid hx1
               clear hu1 hb1 hx1)
  generalize hbs : bcells zblk = bs at *
  refine (HC.out w1 HU1.out).mono ?_
  rintro e w2 ⟨rfl, hp, hu2⟩
  have hb2 := (hu2.block _ (lt_of_heap HB1.out) (fun e => by have := HF.out _ e; omega)).trans HB1.out
  have HB2 := Lib.hid hb2; have HP := Lib.hid hp; have HU2 := Lib.hid hu2
  clear hb2 hp hu2 HC
  simp only []
  go_upto_region 13 with fail
  go_step
  refine wpList_load_mid rfl 56 (.tmp 4) rfl (w.heap.size + 1) 0 rfl bs _ (rangeAt_block HB2.out) Try.underlying56 rfl HI.out ?_
  iterate 3 go_step
  refine wpList_store_mid rfl 56 (.tmp 4) (.tmp 44) rfl (w.heap.size + 1) 0 bs.toArray rfl rfl (there_block HB2.out) (by rw [HI.out]; simp) H1B.out ?_
  go_wp2
  have hl3 := run_loadVar_mid (P := Try.prog) (w2.setCells (w.heap.size + 1) 0 bs) (w.heap.size + 1) 0 56 bs _ (rangeAt_block (heap_setCells_whole (vs := bs) HB2.out (by simp))) Try.underlying56 rfl HI.out
  refine bodyPost_ret (results_cell_tmp Try.results44 rfl hl3) rfl ⟨by rw [hbs]; rfl, w1, w2, HU1.out, lt_of_heap HB1.out, HP.out, HU2.out, Upd.setCells (F := fun k => k = w.heap.size + 1) rfl bs 0 (Upd.refl _ w2)⟩

set_option maxRecDepth 100000 in
set_option maxHeartbeats 2000000 in
theorem on_read {ptr : Value} {F : Nat → Prop} (k i n c : Int) (ka : Option Addr) (kn kc : Nat) (w : World) (hF : ∀ j, F j → j < w.heap.size) (E : Int) (B : List Int) (hB : B.length = 64) (Post : World → World → Prop) (hκ : kindOf k = 5)
    (hc : ∀ W, Upd (fun _ => False) w W → Calls Try.prog 42 #[ptr, .int .i64 i] W fun e w' => e = .returned (.tuple #[.agg (bcells B).toArray, .int .i64 E]) ∧ Post W w' ∧ Upd F W w') :
    Calls Try.prog 44 #[callV k i n c ka kn kc, ptr] w fun e w' => e = .returned (.tuple #[.agg (bcells B).toArray, .int .i64 E]) ∧ OnLeft w F Post w' := by
  have HC := Lib.hid hc
  have HF := Lib.hid hF
  have hle : (bcells B).length = 64 := by simp [bcells, hB]
  have hi : (Try.prog.info? 56).map (·.size) = some (bcells B).length := by rw [Try.info56p, hle]
  have H1B := Lib.hid (all_oneCell_toArray (bcells_one B))
  have HI := Lib.hid hi; have HLE := Lib.hid hle
  clear hc hle hi hF
  unfold callV
  go_enter Try.func44, Try.ntmps44
  go_wp2_with (go_at_call 57; refine (kind_run' hκ i n c ka kn kc _).mono ?_; rintro e w1 ⟨rfl, hu1⟩
               have hb1 : w1.heap[w.heap.size + 1]? = some (.cells (bcells zblk).toArray 56 (0, 0)) := (hu1.block _ (by simp) (fun e => e)).trans (alloc_at (by simp))
               have hx1 : w1.heap[w.heap.size]? = some (callBox k i n c ka kn kc) := (hu1.block _ (by simp; omega) (fun e => e)).trans ((alloc_lt (by simp)).trans (alloc_at rfl))
               have HU1 : RowKit.Hid (Upd (fun _ => False) w w1) := Lib.hid ((((Upd.refl _ w).alloc _).alloc _).trans hu1)
               have HB1 := Lib.hid hb1
               obtain ⟨x0, x1, x2, x3, x4⟩ := box_cells hx1
               have HX1 := Lib.hid hx1
               clear hu1 hb1 hx1)
  generalize hbs : bcells B = bs at *
  refine (HC.out w1 HU1.out).mono ?_
  rintro e w2 ⟨rfl, hp, hu2⟩
  have hb2 := (hu2.block _ (lt_of_heap HB1.out) (fun e => by have := HF.out _ e; omega)).trans HB1.out
  have hzl : (bcells zblk).toArray.size = bs.toArray.size := by simp [bcells, zblk, HLE.out]
  have hth : w2.there (w.heap.size + 1) 0 bs.toArray.size := by
    have := there_block hb2
    rwa [hzl] at this
  have hb3 := heap_setCells_whole (vs := bs) hb2 (by rw [hzl]; simp)
  have HP := Lib.hid hp; have HU2 := Lib.hid hu2
  clear hb2 hp hu2 HC hzl
  simp only []
  iterate 7 go_step
  refine wpList_store_mid rfl 56 (.tmp 4) (.tmp 20) rfl (w.heap.size + 1) 0 bs.toArray rfl rfl hth (by rw [HI.out]; simp) H1B.out ?_
  have hu3 : Upd (fun k => k = w.heap.size + 1) w2 (w2.setCells (w.heap.size + 1) 0 bs) := Upd.setCells (F := fun k => k = w.heap.size + 1) rfl bs 0 (Upd.refl _ w2)
  have HB2 := Lib.hid hb3; have HU3 := Lib.hid hu3
  clear hth hb3 hu3
  generalize w2.setCells (w.heap.size + 1) 0 bs = w3 at *
  go_wp2
  have hl3 := run_loadVar_mid (P := Try.prog) w3 (w.heap.size + 1) 0 56 bs _ (rangeAt_block HB2.out) Try.underlying56 rfl HI.out
  refine bodyPost_ret (results_cell_tmp Try.results44 rfl hl3) rfl ⟨by rw [hbs]; rfl, w1, w2, HU1.out, lt_of_heap HB1.out, HP.out, HU2.out, HU3.out⟩

set_option maxRecDepth 100000 in
set_option maxHeartbeats 2000000 in
theorem on_crash {ptr : Value} {F : Nat → Prop} (k i n c : Int) (ka : Option Addr) (kn kc : Nat) (Bk : Nat → Bool) (w : World) (hk : KeepIn w ka kn kc Bk) (hF : ∀ j, F j → j < w.heap.size) (E : Int) (Post : World → World → Prop) (hκ : kindOf k = 9)
    (hc : ∀ W ka' kc', Upd (fun _ => False) w W → BoolsAt W ka' ((List.range (min kn 80)).map Bk) → Calls Try.prog 40 #[ptr, .slice ka' (min kn 80) kc'] W fun e w' => e = .returned (.int .i64 E) ∧ Post W w' ∧ Upd F W w') :
    Calls Try.prog 44 #[callV k i n c ka kn kc, ptr] w fun e w' => e = .returned (.tuple #[.agg (bcells zblk).toArray, .int .i64 E]) ∧ OnLeft w F Post w' := by
  have HC := Lib.hid hc
  have HF := Lib.hid hF
  have hle : (bcells zblk).length = 64 := by simp [bcells, zblk]
  have hi : (Try.prog.info? 56).map (·.size) = some (bcells zblk).length := by rw [Try.info56p, hle]
  have H1B := Lib.hid (all_oneCell_toArray (bcells_one zblk))
  have HI := Lib.hid hi; have HLE := Lib.hid hle
  clear hc hle hi hF
  unfold callV
  go_enter Try.func44, Try.ntmps44
  go_wp2_with (go_at_call 57; refine (kind_run' hκ i n c ka kn kc _).mono ?_; rintro e w1 ⟨rfl, hu1⟩
               have hb1 : w1.heap[w.heap.size + 1]? = some (.cells (bcells zblk).toArray 56 (0, 0)) := (hu1.block _ (by simp) (fun e => e)).trans (alloc_at (by simp))
               have hx1 : w1.heap[w.heap.size]? = some (callBox k i n c ka kn kc) := (hu1.block _ (by simp; omega) (fun e => e)).trans ((alloc_lt (by simp)).trans (alloc_at rfl))
               have HU1 : RowKit.Hid (Upd (fun _ => False) w w1) := Lib.hid ((((Upd.refl _ w).alloc _).alloc _).trans hu1)
               have HB1 := Lib.hid hb1
               obtain ⟨x0, x1, x2, x3, x4⟩ := box_cells hx1
               have HX1 := Lib.hid hx1
               clear hu1 hb1 hx1)
  generalize hbs : bcells zblk = bs at *
  refine (keep_run k i n c ka kn kc Bk w1 (hk.kept HU1.out)).mono ?_
  rintro e wk ⟨⟨ka', kc', rfl, hbk⟩, huk⟩
  have HUK := Lib.hid (HU1.out.trans huk)
  have HBB := Lib.hid ((huk.block _ (lt_of_heap HB1.out) (fun e => e)).trans HB1.out)
  have HBK := Lib.hid hbk
  clear huk hbk HU1 HB1 HX1
  simp only []
  go_wp2_with fail
  refine (HC.out wk ka' kc' HUK.out HBK.out).mono ?_
  rintro e w2 ⟨rfl, hp, hu2⟩
  have hb2 := (hu2.block _ (lt_of_heap HBB.out) (fun e => by have := HF.out _ e; omega)).trans HBB.out
  have HB2 := Lib.hid hb2; have HP := Lib.hid hp; have HU2 := Lib.hid hu2
  clear hb2 hp hu2 HC
  simp only []
  go_upto_region 13 with fail
  go_step
  refine wpList_load_mid rfl 56 (.tmp 4) rfl (w.heap.size + 1) 0 rfl bs _ (rangeAt_block HB2.out) Try.underlying56 rfl HI.out ?_
  iterate 3 go_step
  refine wpList_store_mid rfl 56 (.tmp 4) (.tmp 44) rfl (w.heap.size + 1) 0 bs.toArray rfl rfl (there_block HB2.out) (by rw [HI.out]; simp) H1B.out ?_
  go_wp2
  have hl3 := run_loadVar_mid (P := Try.prog) (w2.setCells (w.heap.size + 1) 0 bs) (w.heap.size + 1) 0 56 bs _ (rangeAt_block (heap_setCells_whole (vs := bs) HB2.out (by simp))) Try.underlying56 rfl HI.out
  refine bodyPost_ret (results_cell_tmp Try.results44 rfl hl3) rfl ⟨by rw [hbs]; rfl, wk, w2, HUK.out, lt_of_heap HBB.out, HP.out, HU2.out, Upd.setCells (F := fun k => k = w.heap.size + 1) rfl bs 0 (Upd.refl _ w2)⟩

set_option maxRecDepth 100000 in
set_option maxHeartbeats 2000000 in
theorem on_write {ptr : Value} {F : Nat → Prop} (k i n c : Int) (ka : Option Addr) (kn kc : Nat) {κ : Int} (h5 : κ < 5) (w : World) (hF : ∀ j, F j → j < w.heap.size) (E : Int) (Post : World → World → Prop) (hκ : kindOf k = κ)
    (hc : ∀ W, Upd (fun _ => False) w W → Calls Try.prog 34 #[ptr, .int .i64 i, .agg (bcells (fill c)).toArray] W fun e w' => e = .returned (.int .i64 E) ∧ Post W w' ∧ Upd F W w') :
    Calls Try.prog 44 #[callV k i n c ka kn kc, ptr] w fun e w' => e = .returned (.tuple #[.agg (bcells zblk).toArray, .int .i64 E]) ∧ OnLeft w F Post w' := by
  have HC := Lib.hid hc
  have n5 : ¬ κ = 5 := by omega
  have n6 : ¬ κ = 6 := by omega
  have n7 : ¬ κ = 7 := by omega
  have n8 : ¬ κ = 8 := by omega
  have n9 : ¬ κ = 9 := by omega
  clear h5
  have HF := Lib.hid hF
  have hle : (bcells zblk).length = 64 := by simp [bcells, zblk]
  have hi : (Try.prog.info? 56).map (·.size) = some (bcells zblk).length := by rw [Try.info56p, hle]
  have H1B := Lib.hid (all_oneCell_toArray (bcells_one zblk))
  have HI := Lib.hid hi; have HLE := Lib.hid hle
  clear hc hle hi hF
  unfold callV
  go_enter Try.func44, Try.ntmps44
  go_upto_region 2 with (go_at_call 57; refine (kind_run' hκ i n c ka kn kc _).mono ?_; rintro e w1 ⟨rfl, hu1⟩
                         have hb1 : w1.heap[w.heap.size + 1]? = some (.cells (bcells zblk).toArray 56 (0, 0)) := (hu1.block _ (by simp) (fun e => e)).trans (alloc_at (by simp))
                         have hx1 : w1.heap[w.heap.size]? = some (callBox k i n c ka kn kc) := (hu1.block _ (by simp; omega) (fun e => e)).trans ((alloc_lt (by simp)).trans (alloc_at rfl))
                         have HU1 : RowKit.Hid (Upd (fun _ => False) w w1) := Lib.hid ((((Upd.refl _ w).alloc _).alloc _).trans hu1)
                         have HB1 := Lib.hid hb1
                         obtain ⟨x0, x1, x2, x3, x4⟩ := box_cells hx1
                         have HX1 := Lib.hid hx1
                         clear hu1 hb1 hx1)
  generalize hbs : bcells zblk = bs at *
  have hA : w1.drew.heap[w.heap.size]? = some (callBox k i n c ka kn kc) := HX1.out
  refine wp_region_G 6 (fun W => W.heap[w.heap.size]? = some (callBox k i n c ka kn kc)) [false, false, false, false, false, false, false] rfl (by kernel_rfl) ?_
  refine wpG_take (i := 0) (v := ptr) rfl (by kernel_rfl) (fun _ _ _ h => h) hA (.inl ⟨rfl, fun w5 q1 => ?_⟩) ?_
  · go_simp
  simp only [Act.put, List.setIfInBounds_toArray, List.set]
  refine wpG_take (i := 1) (v := .pointer (some ⟨w.heap.size, 1, none⟩)) rfl (by kernel_rfl) (fun _ _ _ h => h) hA (.inl ⟨rfl, fun w5 q1 => ?_⟩) ?_
  · go_simp
  simp only [Act.put, List.setIfInBounds_toArray, List.set]
  refine wpG_take (i := 2) (v := .int .i64 i) rfl (by kernel_rfl) (fun _ _ _ h => h) hA (.inl ⟨rfl, fun w5 q1 => ?_⟩) ?_
  · have q2 := (box_cells q1).2.1
    go_simp
  simp only [Act.put, List.setIfInBounds_toArray, List.set]
  refine wpG_take (i := 3) (v := .agg [.int .i64 k, .int .i64 i, .int .i64 n, .int .u8 c, .slice ka kn kc].toArray) rfl (by kernel_rfl) (fun _ _ _ h => h) hA (.inl ⟨rfl, fun w5 q1 => ?_⟩) ?_
  · exact run_load_mid' rfl rfl [.int .i64 k, .int .i64 i, .int .i64 n, .int .u8 c, .slice ka kn kc] (rangeAt_block (cs := [.int .i64 k, .int .i64 i, .int .i64 n, .int .u8 c, .slice ka kn kc]) q1) Try.underlying51 rfl Try.size51
  simp only [Act.put, List.setIfInBounds_toArray, List.set]
  clear x0 x1 x2 x3 x4
  refine wpG_do (i := 4) rfl (by kernel_rfl) rfl (fun K hK => ?_)
  have HK := Lib.hid hK
  clear hK
  go_step
  refine (block_run k i n c ka kn kc w1.drew).mono ?_
  rintro e wk ⟨rfl, huk⟩
  have hA : wk.heap[w.heap.size]? = some (callBox k i n c ka kn kc) := (huk.block _ (lt_of_heap HX1.out) (fun e => e)).trans HX1.out
  have HUK : RowKit.Hid (Upd (fun _ => False) w wk) := Lib.hid (HU1.out.drew.trans huk)
  have HBB : RowKit.Hid (wk.heap[w.heap.size + 1]? = some (.cells bs.toArray 56 (0, 0))) := Lib.hid ((huk.block _ (lt_of_heap HB1.out) (fun e => e)).trans HB1.out)
  clear huk HX1 HB1 HU1
  simp only []
  refine HK.out _ _ hA ?_
  clear HK
  simp only [Act.put, List.setIfInBounds_toArray, List.set]
  refine wpG_do (i := 5) rfl (by kernel_rfl) rfl (fun K hK => ?_)
  have HK := Lib.hid hK
  clear hK
  go_step
  refine (HC.out wk HUK.out).mono ?_
  rintro e w2 ⟨rfl, hp, hu2⟩
  have hA : w2.heap[w.heap.size]? = some (callBox k i n c ka kn kc) := (hu2.block _ (lt_of_heap hA) (fun e => by have := HF.out _ e; omega)).trans hA
  have hb2 := (hu2.block _ (lt_of_heap HBB.out) (fun e => by have := HF.out _ e; omega)).trans HBB.out
  have HB2 := Lib.hid hb2; have HP := Lib.hid hp; have HU2 := Lib.hid hu2
  clear hb2 hp hu2 HC
  simp only []
  refine HK.out _ _ hA ?_
  clear HK
  simp only [Act.put, List.setIfInBounds_toArray, List.set]
  refine wpG_tail_lit (k := 6) rfl rfl (by kernel_rfl) ?_
  simp only [List.drop]
  go_upto_region 13 with fail
  go_step
  refine wpList_load_mid rfl 56 (.tmp 4) rfl (w.heap.size + 1) 0 rfl bs _ (rangeAt_block HB2.out) Try.underlying56 rfl HI.out ?_
  iterate 3 go_step
  refine wpList_store_mid rfl 56 (.tmp 4) (.tmp 44) rfl (w.heap.size + 1) 0 bs.toArray rfl rfl (there_block HB2.out) (by rw [HI.out]; simp) H1B.out ?_
  go_wp2
  have hl3 := run_loadVar_mid (P := Try.prog) (w2.setCells (w.heap.size + 1) 0 bs) (w.heap.size + 1) 0 56 bs _ (rangeAt_block (heap_setCells_whole (vs := bs) HB2.out (by simp))) Try.underlying56 rfl HI.out
  refine bodyPost_ret (results_cell_tmp Try.results44 rfl hl3) rfl ⟨by rw [hbs]; rfl, wk, w2, HUK.out, lt_of_heap HBB.out, HP.out, HU2.out, Upd.setCells (F := fun k => k = w.heap.size + 1) rfl bs 0 (Upd.refl _ w2)⟩

end Go.Proofs.Ytbimkhdiplnbfaa
