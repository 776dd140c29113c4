/- Building a version, and a row of one, of whatever cells. -/
import Derived.Test.YtbimkhdiplnbfaaA1
import Derived.Deep.MidRow
import Derived.Deep.AppendLies
import Derived.KernelRfl
namespace Go.Proofs.Ytbimkhdiplnbfaa
open Go.RowKit

theorem splice_fold (vs : List Value) : ∀ (off k : Nat) (cells : Array Value), off + k + vs.length ≤ cells.size →
    ((vs.zipIdx k).foldl (fun (cs : Array Value) (x : Value × Nat) => cs.setIfInBounds (off + x.2) x.1) cells).toList = cells.toList.take (off + k) ++ vs ++ cells.toList.drop (off + k + vs.length) := by
  induction vs with
  | nil => intro off k cells _; simp
  | cons v vs ih =>
    intro off k cells h
    simp only [List.length_cons] at h
    rw [List.zipIdx_cons, List.foldl_cons, ih off (k + 1) _ (by simp; omega)]
    simp only [Array.toList_setIfInBounds, List.length_cons]
    apply List.ext_getElem?
    intro j
    simp only [List.getElem?_append, List.getElem?_take, List.length_take, List.length_set, Array.length_toList, List.getElem?_set, List.getElem?_drop, List.length_append, List.length_cons]
    by_cases h1 : j < off + k
    · simp [h1, show j < off + (k + 1) by omega, show off + k ≠ j by omega, show j < min (off + (k + 1)) cells.size by omega, show j < min (off + k) cells.size by omega, show j < min (off + (k + 1)) cells.size + vs.length by omega, show j < min (off + k) cells.size + (vs.length + 1) by omega]
    · by_cases h2 : j = off + k
      · subst h2
        simp [show off + k < off + (k + 1) by omega, show off + k < min (off + (k + 1)) cells.size by omega, show off + k < min (off + (k + 1)) cells.size + vs.length by omega, show min (off + k) cells.size = off + k by omega, show off + k < cells.size by omega]
      · obtain ⟨m, rfl⟩ : ∃ m, j = off + k + 1 + m := ⟨j - (off + k + 1), by omega⟩
        have e1 : min (off + (k + 1)) cells.size = off + k + 1 := by omega
        have e2 : min (off + k) cells.size = off + k := by omega
        have e3 : ¬ (off + k + 1 + m < off + k + 1) := by omega
        have e4 : ¬ (off + k + 1 + m < off + k) := by omega
        have e5 : off + k + 1 + m - (off + k + 1) = m := by omega
        have e6 : off + k + 1 + m - (off + k) = m + 1 := by omega
        have e7 : (off + k + 1 + m < off + k + 1 + vs.length) = (m < vs.length) := by simp
        have e8 : (off + k + 1 + m < off + k + (vs.length + 1)) = (m < vs.length) := by apply propext; omega
        simp only [e1, e2, e3, e4, e5, e6, e7, e8, if_false, List.getElem?_cons_succ]
        by_cases h3 : m < vs.length
        · simp [h3]
        · simp [h3, show off + (k + 1) + vs.length + (off + k + 1 + m - (off + k + 1 + vs.length)) = off + k + (vs.length + 1) + (off + k + 1 + m - (off + k + (vs.length + 1))) by omega]
          intro hx; omega

theorem splice_arr (bs : Array Value) (off : Nat) (cells : Array Value) (h : off + bs.size ≤ cells.size) :
    (Array.foldl (fun (cs : Array Value) (x : Value × Nat) => cs.setIfInBounds (off + x.snd) x.fst) cells bs.zipIdx).toList = cells.toList.take off ++ bs.toList ++ cells.toList.drop (off + bs.size) := by
  rw [← Array.foldl_toList, Array.toList_zipIdx]
  have := splice_fold bs.toList off 0 cells (by simpa using h)
  simpa using this

theorem size_of_toList {a : Array Value} {l : List Value} (h : a.toList = l) : a.size = l.length := by rw [← h]; simp

theorem fill_two {place : Nat → Option (Nat × Nat)} (zero bs : Array Value) (v : Value) (n : Nat) (h0 : place 0 = some (0, n)) (h1 : place 1 = some (n, 1)) (hb : bs.size = n) (hz : zero.size = n + 1) (hv : v.cells = #[v]) :
    Instr.fill place zero [(0, .agg bs), (1, v)] = some (bs.push v) := by
  have e0 : (Value.agg bs).cells = bs := rfl
  have l1 := splice_arr bs 0 zero (by omega)
  have s1 : (Array.foldl (fun (cs : Array Value) (x : Value × Nat) => cs.setIfInBounds (0 + x.snd) x.fst) zero bs.zipIdx).size = n + 1 := by
    rw [size_of_toList l1]; simp; omega
  have l2 := splice_arr #[v] n (Array.foldl (fun (cs : Array Value) (x : Value × Nat) => cs.setIfInBounds (0 + x.snd) x.fst) zero bs.zipIdx) (by rw [s1]; simp)
  simp only [Instr.fill, h0, h1, e0, hv]
  rw [if_neg (by simp; omega), if_neg (by rw [s1]; simp)]
  congr 1
  apply Array.toList_inj.1
  rw [l2, l1]
  subst hb
  simp
  omega

theorem fill_one {place : Nat → Option (Nat × Nat)} (zero bs : Array Value) (n : Nat) (h0 : place 0 = some (0, n)) (hb : bs.size = n) (hz : zero.size = n) :
    Instr.fill place zero [(0, .agg bs)] = some bs := by
  have e0 : (Value.agg bs).cells = bs := rfl
  have l1 := splice_arr bs 0 zero (by omega)
  simp only [Instr.fill, h0, e0]
  rw [if_neg (by simp; omega)]
  congr 1
  apply Array.toList_inj.1
  rw [l1]
  subst hb
  simp
  omega

def Z130 : Array Value := (List.replicate 64 (Value.int .u8 0) ++ [Value.int .i64 0]).toArray
theorem Z130_size : Z130.size = 65 := by simp [Z130]
theorem zero130 (w : World) : (zeroValue 130).run Try.prog w = .ok (.agg Z130) w := by kernel_rfl

theorem fold130 (bs : List Value) (hb : bs.length = 64) : List.foldl (fun (cs : Array Value) (x : Value × Nat) => cs.setIfInBounds x.snd x.fst) Z130 bs.zipIdx = (bs ++ [Value.int .i64 0]).toArray := by
  apply Array.toList_inj.1
  have h := splice_fold bs 0 0 Z130 (by simp [Z130_size, hb])
  simp only [Nat.zero_add] at h
  rw [h]
  have e : Z130.toList.drop 64 = [Value.int .i64 0] := rfl
  simp [hb, e]

theorem run_build130 (bs : List Value) (m : Int) (w : World) (hb : bs.length = 64) :
    (Instr.build 130 #[(0, .agg bs.toArray), (1, .int .i64 m)]).run Try.prog w = .ok (.agg (bs ++ [Value.int .i64 m]).toArray) w := by
  have hz := zero130 w
  have hf := fold130 bs hb
  have e : ((bs ++ [Value.int .i64 0]).toArray).setIfInBounds 64 (Value.int .i64 m) = (bs ++ [Value.int .i64 m]).toArray := by
    apply Array.toList_inj.1
    simp [← hb]
  simp [Instr.build, hz, go_sem]
  simp only [hf, Z130_size, hb, e]
  simp [hb]

theorem run_build130_zero (w : World) : (Instr.build 130 #[]).run Try.prog w = .ok (.agg Z130) w := by
  have hz := zero130 w
  simp [Instr.build, hz, go_sem]

theorem run_build130_one (bs : List Value) (w : World) (hb : bs.length = 64) :
    (Instr.build 130 #[(0, .agg bs.toArray)]).run Try.prog w = .ok (.agg (bs ++ [Value.int .i64 0]).toArray) w := by
  have hz := zero130 w
  have hf := fold130 bs hb
  simp [Instr.build, hz, go_sem]
  simp only [hf, Z130_size, hb]
  simp

theorem fold131 (cs : List Value) (Z : Array Value) (hc : cs.length = 65) (hz : Z.size = 65) : List.foldl (fun (cs : Array Value) (x : Value × Nat) => cs.setIfInBounds x.snd x.fst) Z cs.zipIdx = cs.toArray := by
  apply Array.toList_inj.1
  have h := splice_fold cs 0 0 Z (by simp [hz, hc])
  simp only [Nat.zero_add] at h
  rw [h]
  have e : Z.toList.drop 65 = [] := by rw [List.drop_eq_nil_iff]; simp [hz]
  simp [hc, e]

theorem run_buildSlice131 (cs : List Value) (w : World) (hc : cs.length = 65) :
    (Instr.buildSlice 131 1 #[(0, .agg cs.toArray)]).run Try.prog w = .ok (.slice (some ⟨w.heap.size, 0, none⟩) 1 1) (w.alloc (.cells cs.toArray 130)) := by
  simp [Instr.buildSlice, go_sem]
  rw [fold131 cs _ hc (by simp)]
  simp [hc]

end Go.Proofs.Ytbimkhdiplnbfaa
