/- Walks of the disk: what row builds. -/
import Derived.Test.YtbimkhdiplnbfaaC2
namespace Go.Proofs.Ytbimkhdiplnbfaa
open Go.RowKit

def ecells (x : Nat × List Int × Int) : List Value := .int .i64 x.1 :: vcells x.2

def Z163 : Array Value := ((List.replicate 1 (Value.int .i64 0)) ++ (List.replicate 64 (Value.int .u8 0)) ++ [Value.int .i64 0]).toArray
theorem Z163_size : Z163.size = 66 := by simp [Z163]
theorem zero163 (w : World) : (zeroValue 163).run Try.prog w = .ok (.agg Z163) w := by kernel_rfl

theorem run_build163 (i : Int) (cs : List Value) (w : World) (hc : cs.length = 65) :
    (Instr.build 163 #[(0, .int .i64 i), (1, .agg cs.toArray)]).run Try.prog w = .ok (.agg (Value.int .i64 i :: cs).toArray) w := by
  have hz := zero163 w
  have hne : Z163 ≠ #[] := fun e => by have := Z163_size; rw [e] at this; simp at this
  have hf : List.foldl (fun (cs : Array Value) (x : Value × Nat) => cs.setIfInBounds (1 + x.snd) x.fst) (Z163.setIfInBounds 0 (Value.int IntKind.i64 i)) cs.zipIdx = (Value.int .i64 i :: cs).toArray := by
    apply Array.toList_inj.1
    have h := splice_fold cs 1 0 (Z163.setIfInBounds 0 (Value.int IntKind.i64 i)) (by simp [Z163_size, hc])
    rw [h]
    have e1 : (Z163.setIfInBounds 0 (Value.int IntKind.i64 i)).toList.take (1 + 0) = [Value.int .i64 i] := by simp [Z163]
    have e2 : (Z163.setIfInBounds 0 (Value.int IntKind.i64 i)).toList.drop (1 + 0 + cs.length) = [] := by rw [List.drop_eq_nil_iff]; simp [Z163_size, hc]
    rw [e1, e2]; simp
  simp [Instr.build, hz, go_sem, hne, hc, Z163_size, hf]

theorem fold161 (cs : List Value) (Z : Array Value) (hc : cs.length = 66) (hz : Z.size = 66) : List.foldl (fun (cs : Array Value) (x : Value × Nat) => cs.setIfInBounds x.snd x.fst) Z cs.zipIdx = cs.toArray := by
  apply Array.toList_inj.1
  have h := splice_fold cs 0 0 Z (by simp [hz, hc])
  simp only [Nat.zero_add] at h
  rw [h]
  have e : Z.toList.drop 66 = [] := by rw [List.drop_eq_nil_iff]; simp [hz]
  simp [hc, e]

theorem run_buildSlice161 (cs : List Value) (w : World) (hc : cs.length = 66) :
    (Instr.buildSlice 161 1 #[(0, .agg cs.toArray)]).run Try.prog w = .ok (.slice (some ⟨w.heap.size, 0, none⟩) 1 1) (w.alloc (.cells cs.toArray 163)) := by
  simp [Instr.buildSlice, go_sem]
  rw [fold161 cs _ hc (by simp)]
  simp [hc]

theorem Try.info163p : (Try.prog.info? 163).map (fun i => (i.zero, i.size, i.bytes)) = some (some (.agg Z163), 66, 80) := by kernel_rfl

/-- The disk's blocks that are on their way, sector by sector. -/
def Dk.pile (D : Dk) (k : Nat) : List (Nat × List Int × Int) := (List.range k).flatMap fun i => (D.vers i).tail.map fun v => (i, v)

theorem pile_succ (D : Dk) (k : Nat) : D.pile (k + 1) = D.pile k ++ (D.vers k).tail.map fun v => (k, v) := by
  simp [Dk.pile, List.range_succ]

end Go.Proofs.Ytbimkhdiplnbfaa
