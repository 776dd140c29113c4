/- Walks of the disk: New. -/
import Derived.Test.YtbimkhdiplnbfaaB6
import Derived.Deep.LoopGhost
import Derived.Deep.OwnRows
import Derived.Deep.Cut
namespace Go.Proofs.Ytbimkhdiplnbfaa
open Go.RowKit Go.Deep

theorem wpList_exec {P : Program} {ops : Array Oper} {rest : List Oper} {o : Oper} {a : Act} {w w' : World} {v : Value} {Q : Exit → Act → World → Prop} (hg : o.guard = none) (h : (execOp a.eval o).run P w = .ok (.value v) w')
    (hK : wpList P ops Q rest (a.put o.dst v) w') : wpList P ops Q (o :: rest) a w :=
  wpList_plain hg fun _ hk => wp_exec h (hk _ _ hK)

def Dk.new (n : Nat) : Dk := ⟨List.replicate n zblk, [], 0, 0, -1, -1, false⟩

set_option maxHeartbeats 400000 in
theorem new_bad (n : Int) (w : World) (hn : n < 1 ∨ 2048 < n) :
    Calls Try.prog 32 #[.int .i64 n] w fun e w' => e = .returned (.tuple #[.pointer none, .int .i64 2]) ∧ w = w' := by
  rcases hn with hn | hn
  all_goals
    go_enter Try.func32, Try.ntmps32
    go_wp2
    go_returns
    exact ⟨rfl, rfl⟩

theorem Try.info131 : (Try.prog.info? 131).map (fun i => (i.zero, i.size, i.bytes)) = some (some (.slice none 0 0), 1, 24) := by kernel_rfl

/-- What holds at the loop's head, k sectors made. -/
structure NewAt (w wr : World) (n k : Nat) : Prop where
  upd : Upd (fun _ => False) w wr
  size : wr.heap.size = w.heap.size + 2 + k
  main : wr.heap[w.heap.size + 1]? = some (mainObj w.heap.size n 0 0 (-1) (-1) false)
  sec : wr.heap[w.heap.size]? = some (.cells ((List.range n).map fun i => if i < k then Value.slice (some ⟨w.heap.size + 2 + i, 0, none⟩) 1 1 else .slice none 0 0).toArray 131 (0, 0))
  rows : ∀ i, i < k → wr.heap[w.heap.size + 2 + i]? = some (.cells Z130 130 (0, 0))

theorem NewAt.start (w : World) (n : Nat) : NewAt w ((w.alloc (.cells (madeCells #[.slice none 0 0] n) 131)).alloc (mainObj w.heap.size n 0 0 (-1) (-1) false)) n 0 := by
  refine ⟨((Upd.refl _ w).alloc _).alloc _, by simp, alloc_at (by simp), ?_, fun i hi => by omega⟩
  rw [alloc_lt (by simp), alloc_at rfl]
  congr 2
  apply Array.toList_inj.1
  rw [toList_madeCells_one]
  simp [List.map_const']

theorem NewAt.step {w wr : World} {n k : Nat} (h : NewAt w wr n k) :
    NewAt w ((wr.alloc (.cells Z130 130)).setCell ⟨w.heap.size, k, none⟩ (.slice (some ⟨w.heap.size + 2 + k, 0, none⟩) 1 1)) n (k + 1) := by
  have hs := h.size
  refine ⟨(h.upd.alloc _).setCell (p := ⟨w.heap.size, k, none⟩) (.inr (Nat.le_refl _)) _, by simp [World.setCell, hs]; omega, ?_, ?_, fun i hi => ?_⟩
  · rw [set_ne (by simp), alloc_lt (by omega)]; exact h.main
  · have h1 : (wr.alloc (.cells Z130 130)).heap[w.heap.size]? = _ := (alloc_lt (by omega)).trans h.sec
    rw [blk_set h1]
    congr 2
    apply Array.toList_inj.1
    apply List.ext_getElem
    · simp
    · intro j h1 h2
      simp only [Array.toList_setIfInBounds, List.getElem_set, List.getElem_map, List.getElem_range]
      by_cases e : k = j
      · subst e; simp
      · rw [if_neg e]
        by_cases hj : j < k
        · rw [if_pos hj, if_pos (by omega)]
        · rw [if_neg hj, if_neg (by omega)]
  · rw [set_ne (by simp; omega)]
    by_cases hi2 : i = k
    · subst hi2; exact alloc_at hs.symm
    · rw [alloc_lt (by omega)]; exact h.rows i (by omega)

set_option maxHeartbeats 2000000 in
theorem new_good (n : Nat) (w : World) (hn : 1 ≤ n ∧ n ≤ 2048) :
    Calls Try.prog 32 #[.int .i64 n] w fun e w' => e = .returned (.tuple #[.pointer (some ⟨w.heap.size + 1, 0, none⟩), .int .i64 0]) ∧ NewAt w w' n n := by
  have hmk := run_make_row' (P := Try.prog) 126 131 (.slice none 0 0) 24 Try.underlying126 Try.info131 rfl .i64 .i64 n (by omega) (by omega)
  obtain ⟨hn1, hn2⟩ := hn
  have hn3 : ¬ ((n : Int) < 1) := by omega
  go_enter Try.func32, Try.ntmps32
  go_wp2
  clear hmk
  go_loopg [21] n (fun g i wr => ∃ k : Nat, k ≤ n ∧ g = n - k ∧ i = .int .i64 k ∧ NewAt w wr n k)
  case atStart => exact ⟨0, Nat.zero_le _, rfl, rfl, NewAt.start w n⟩
  case round =>
    obtain ⟨k, hk, rfl, rfl, hN⟩ := hrel
    have hs := hN.size
    have hm := hN.main
    have c0 := (cells6_of hm).1
    have hkc : k < n → ∀ o, (wr.alloc o).cell? ⟨w.heap.size, k, none⟩ = some (.slice none 0 0) := fun h o => by
      rw [cell_of_heap ((alloc_lt (by omega)).trans hN.sec)]; simp [h]
    have hkf : ∀ o, (wr.alloc o).frozen? ⟨w.heap.size, k, none⟩ = false := fun o => frozen_of_heap ((alloc_lt (by omega)).trans hN.sec)
    have HN := Lib.hid hN
    clear hN hm
    go_upto_region 7 with fail
    · have hlt : k < n := by assumption
      iterate 16 go_step
      refine wpList_exec rfl (run_exec_build (run_build130_zero _) rfl (by simp)) ?_
      refine wpList_exec rfl (run_exec_buildSlice (run_buildSlice131 Z130.toList _ (by simp [Z130_size])) rfl (by simp [Act.eval, Act.put])) ?_
      go_wp2
      go_roundg (n - (k + 1))
      case measure => omega
      case rel => exact ⟨k + 1, by omega, rfl, rfl, HN.out.step⟩
    · have hkn : k = n := by omega
      subst hkn
      go_returns
      exact ⟨rfl, HN.out⟩

theorem NewAt.dsk {w w' : World} {n : Nat} (h : NewAt w w' n n) (hn : 1 ≤ n ∧ n ≤ 2048) : ∃ F, Dsk w' (w.heap.size + 1) (Dk.new n) F ∧ (∀ k, F k → w.heap.size ≤ k) ∧ Upd (fun _ => False) w w' := by
  have hv : ∀ i, i < n → (Dk.new n).vers i = [(zblk, 0)] := fun i hi => by simp [Dk.vers, Dk.new, hi]
  have hl : (Dk.new n).arr.length = n := by simp [Dk.new]
  refine ⟨_, ⟨w.heap.size, fun i => w.heap.size + 2 + i, fun _ => 1, ⟨?_, ?_, ?_, by omega, ?_, ?_, ?_⟩, fun _ => Iff.rfl⟩, ?_, h.upd⟩
  · rw [hl]; exact h.main
  · rw [h.sec, hl]
    congr 3
    apply List.ext_getElem
    · simp
    · intro j h1 h2
      have hj : j < n := by simpa using h1
      simp [hj, hv j hj]
  · intro i hi
    rw [hl] at hi
    rw [hv i hi]
    refine ⟨by simp [vcells, zblk], .inr ⟨_, _, Z130, rfl, Nat.zero_le _, h.rows i hi, by simp, by decide, by simp [Z130_size], ?_⟩⟩
    simp [vcells, zblk, Z130]
  · intro i hi; omega
  · intro i hi; omega
  · intro i j _ _ e
    have e' : w.heap.size + 2 + i = w.heap.size + 2 + j := e
    omega
  · rintro k (rfl | rfl | ⟨i, _, rfl⟩)
    · omega
    · exact Nat.le_refl _
    · show w.heap.size ≤ w.heap.size + 2 + i; omega

theorem Dk.new_ok {n : Nat} (hn : 1 ≤ n ∧ n ≤ 2048) (K : Nat) : (Dk.new n).Ok K := by
  refine ⟨by simpa [Dk.new] using hn, ?_, by simp [Dk.new], by simp [Dk.new], by simp [Dk.new], by simp [Dk.new], by simp [Dk.new], by simp [Dk.new], by simp [Dk.new]⟩
  intro b hb
  have : b = zblk := by simp [Dk.new] at hb; exact hb.2
  rw [this]; exact zblk_ok

end Go.Proofs.Ytbimkhdiplnbfaa
