/- Walks of the laws: Call.block. -/
import Derived.Test.YtbimkhdiplnbfaaW1
import Derived.Test.YtbimkhdiplnbfaaB6
namespace Go.Proofs.Ytbimkhdiplnbfaa
open Go.RowKit Go.Deep

def fill (c : Int) : List Int := List.replicate 64 c

theorem fill_ok {c : Int} (h : 0 ≤ c ∧ c ≤ 255) : okBlk (fill c) := ⟨by simp [fill], fun x hx => by
  have : x = c := by simpa [fill] using hx
  rw [this]; exact h⟩

theorem array_at (g : Nat) (w : World) : (Instr.arrayAt 56 (.slice (some ⟨g, 0, none⟩) 64 64)).run Try.prog w = .ok (.pointer (some ⟨g, 0, none⟩)) w := by
  simp [Instr.arrayAt, run_underlying Try.underlying56]

theorem results_cell1 {P : Program} {fn : Func} {ts : Array Value} {w : World} {a : Nat} {t : TypeId} {p : Addr} {v : Value} (hr : fn.results = #[.cell a t]) (ha : ts.getD a undef = .pointer (some p)) (hl : (loadVar t p).run P w = .ok v w) :
    (Go.results fn ts).run P w = .ok v w := by
  unfold Go.results
  rw [hr]
  have ha' : ts[a]?.getD undef = .pointer (some p) := by simpa using ha
  simp [asAddr, ha', hl]

theorem fill_cells (c : Int) : repCells c 64 = bcells (fill c) := by simp [repCells, bcells, fill]

/-- A call as it comes in. -/
def callV (k i n c : Int) (ka : Option Addr) (kn kc : Nat) : Value := .agg #[.int .i64 k, .int .i64 i, .int .i64 n, .int .u8 c, .slice ka kn kc]

set_option maxRecDepth 100000 in
set_option maxHeartbeats 2000000 in
theorem block_run (k i n c : Int) (ka : Option Addr) (kn kc : Nat) (w : World) :
    Calls Try.prog 35 #[callV k i n c ka kn kc] w fun e w' => e = .returned (.agg (bcells (fill c)).toArray) ∧ Upd (fun _ => False) w w' := by
  have hi : (Try.prog.info? 56).map (·.size) = some (bcells (fill c)).length := by rw [Try.info56p]; simp [bcells, fill]
  have H1B := Lib.hid (all_oneCell_toArray (bcells_one (fill c)))
  have HL : RowKit.Hid ((bcells (fill c)).length = 64) := Lib.hid (by simp [bcells, fill])
  have HF := Lib.hid (fill_cells c)
  have HI := Lib.hid hi
  clear hi
  unfold callV
  generalize bcells (fill c) = bs at *
  go_enter Try.func35, Try.ntmps35
  go_upto_region 1 with fail
  iterate 10 go_step
  have hcl := repeat_run (b := w.heap.size + 1 + 1) (c := c) (((w.alloc (.cells #[.int .i64 k, .int .i64 i, .int .i64 n, .int .u8 c, .slice ka kn kc] 51)).alloc (.cells (bcells zblk).toArray 56)).alloc (.cells #[.int .u8 c] 5)) (alloc_at (by simp))
  simp only [World.size_alloc] at hcl
  go_step
  go_step
  refine hcl.mono ?_
  rintro e w' ⟨rfl, h1, h2⟩
  have hz : (bcells zblk).toArray.size = 64 := by simp [bcells, zblk]
  have hu : Upd (fun _ => False) w w' := (((Upd.refl _ w).alloc _).alloc _).trans (((Upd.refl _ _).alloc _).trans h2)
  have hb : w'.heap[w.heap.size + 1]? = some (.cells (bcells zblk).toArray 56 (0, 0)) :=
    (h2.block _ (by simp) (fun e => e)).trans ((alloc_lt (by simp)).trans (alloc_at (by simp)))
  rw [HF.out] at h1
  have hth : w'.there (w.heap.size + 1) 0 bs.toArray.size := by
    have := there_block hb
    rwa [show (bcells zblk).toArray.size = bs.toArray.size by rw [hz]; simp [HL.out]] at this
  have hw := heap_setCells_whole (vs := bs) hb (by rw [hz, HL.out])
  have H1 := Lib.hid h1; have HU := Lib.hid hu; have HB := Lib.hid hb; have HT := Lib.hid hth; have HW := Lib.hid hw
  clear h1 h2 hu hb hth hw hz hcl
  simp only []
  have hat := array_at (w.heap.size + 1 + 1 + 1)
  iterate 4 go_step
  refine wpList_load_mid rfl 56 (.tmp 7) rfl (w.heap.size + 1 + 1 + 1) 0 rfl bs _ (rangeAt_block H1.out) Try.underlying56 rfl HI.out ?_
  refine wpList_store_mid rfl 56 (.tmp 2) (.tmp 8) rfl (w.heap.size + 1) 0 bs.toArray rfl rfl HT.out (by rw [HI.out]; simp) H1B.out ?_
  go_wp2
  have hl3 := run_loadVar_mid (P := Try.prog) (w'.setCells (w.heap.size + 1) 0 bs) (w.heap.size + 1) 0 56 bs _ (rangeAt_block HW.out) Try.underlying56 rfl HI.out
  refine bodyPost_ret (results_cell1 Try.results35 rfl hl3) rfl ⟨rfl, ?_⟩
  exact (Upd.setCells (F := fun k => w.heap.size ≤ k) (Nat.le_succ _) bs 0 (HU.out.mono (fun _ _ e => e.elim))).mono (fun j hj e => by omega)

end Go.Proofs.Ytbimkhdiplnbfaa
