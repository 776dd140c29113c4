/- Two blocks compared. -/
import Derived.Test.YtbimkhdiplnbfaaB4
import Derived.ChangeKeysEq
namespace Go.Proofs.Ytbimkhdiplnbfaa
open Go.RowKit

theorem items_bytes (w : World) (d : Nat) (xs ys : List Int) : ∀ (is : List Nat), (∀ i ∈ is, i < xs.length ∧ i < ys.length) →
    (Op.eqItems (d + 1) 5 1 (bcells xs).toArray (bcells ys).toArray is).run Try.prog w = .ok (is.all fun i => xs.getD i 0 == ys.getD i 0) w
  | [], _ => by simp [Op.eqItems]
  | i :: is, hi => by
    obtain ⟨h1, h2⟩ := hi i List.mem_cons_self
    have ih := items_bytes w d xs ys is (fun j hj => hi j (List.mem_cons_of_mem _ hj))
    have p1 : (part 5 (bcells xs).toArray (i * 1)).run Try.prog w = .ok (.int .u8 (xs.getD i 0)) w := run_part_plain w (by kernel_rfl) (by simp [bcells, h1, List.getD_eq_getElem?_getD])
    have p2 : (part 5 (bcells ys).toArray (i * 1)).run Try.prog w = .ok (.int .u8 (ys.getD i 0)) w := run_part_plain w (by kernel_rfl) (by simp [bcells, h2, List.getD_eq_getElem?_getD])
    have p3 := run_equalIn_int (P := Try.prog) w d 5 .u8 .u8 (xs.getD i 0) (ys.getD i 0) Try.underlying5
    simp only [Op.eqItems, Sem.run_bind, p1, p2, p3, Result.andThen_ok, List.all_cons]
    cases hb : (xs.getD i 0 == ys.getD i 0)
    · simp
    · simpa using ih

theorem all_eq {xs ys : List Int} {n : Nat} (hx : xs.length = n) (hy : ys.length = n) : ((List.range n).all fun i => xs.getD i 0 == ys.getD i 0) = (xs == ys) := by
  rw [Bool.eq_iff_iff]
  simp only [List.all_eq_true, List.mem_range, beq_iff_eq]
  constructor
  · intro h
    apply List.ext_getElem (by rw [hx, hy])
    intro i h1 h2
    have := h i (by omega)
    simpa [List.getD_eq_getElem?_getD, h1, h2] using this
  · rintro rfl i _; rfl

/-- The comparison of two blocks. -/
theorem eq_bytes (w : World) {xs ys : List Int} (hx : xs.length = 64) (hy : ys.length = 64) : (Op.equalIn 10000 56 (.agg (bcells xs).toArray) (.agg (bcells ys).toArray)).run Try.prog w = .ok (xs == ys) w := by
  obtain ⟨i, hi⟩ : ∃ i, Try.prog.info? 5 = some i := Option.isSome_iff_exists.1 (by kernel_rfl)
  rw [run_equalIn_array (P := Try.prog) w 9999 (n := 64) (e := 5) _ _ Try.underlying56 hi, show Try.prog.cellsOf 5 = 1 by kernel_rfl, items_bytes w 9998 xs ys _ (fun j hj => by have := List.mem_range.1 hj; omega), all_eq hx hy]

theorem neq_bytes (w : World) {xs ys : List Int} (hx : xs.length = 64) (hy : ys.length = 64) : (binOp .neq 56 (.agg (bcells xs).toArray) (.agg (bcells ys).toArray)).run Try.prog w = .ok (.bool (!(xs == ys))) w := by
  rw [run_neq_struct, eq_bytes w hx hy]
  rfl

theorem run_exec_neq {o : Oper} {a : Act} {w : World} {x y : Operand} {rt : TypeId} {xs ys : Array Value} {v : Value} (ho : o.op = .binOp .neq 56 x y rt) (hx : a.eval x = .agg xs) (hy : a.eval y = .agg ys)
    (hr : (binOp .neq 56 (.agg xs) (.agg ys)).run Try.prog w = .ok v w) : (execOp a.eval o).run Try.prog w = .ok (.value v) w := by
  have hg := run_eqGuard_agg (P := Try.prog) w .neq 56 x y xs ys (by kernel_rfl)
  simp [execOp, ho, hx, hy, hg, hr, Result.andThen]

end Go.Proofs.Ytbimkhdiplnbfaa
