/- The disk: what a crash keeps, as a map in memory. -/
import Derived.Test.YtbimkhdiplnbfaaD3
import Derived.Maps.Own
namespace Go.Proofs.Ytbimkhdiplnbfaa
open Go.RowKit

/-- What the map says of a number. -/
def keptOf (M : DataW Empty) (n : Int) : Bool := match M.atKey (.int .i64 n) (.lit (.bool false)) with
  | .lit (.bool x) => x
  | _ => false

theorem plainElem_bool_inv {P : Program} {e : TypeId} (he : P.underlying e = some .bool) {v : Value} {z : DataW Empty × List MemPlace} (h : plainElem P e v = some z) : ∃ x, v = .bool x ∧ z = (.lit (.bool x), []) := by
  unfold plainElem at h
  rw [he] at h
  cases v <;> simp at h
  case bool x => exact ⟨x, rfl, h.symm⟩

theorem look_bool {w : World} {mb m : Nat} {M : DataW Empty} {n : Int} (hown : w.ownsMap Try.prog 3 (plainElem Try.prog 4) mb m M) (hn : -9223372036854775808 ≤ n ∧ n ≤ 9223372036854775807) :
    (Instr.lookup 138 (.map (some mb)) (.int .i64 n) false).run Try.prog w = .ok (.bool (keptOf M n)) w := by
  have hwf : (Lit.int .i64 n).wf = true := by simp [Lit.wf, IntKind.min, IntKind.max, IntKind.signed, IntKind.bits]; omega
  obtain ⟨v, ps, hrun, hv⟩ := hown.lookup (Maps.int_keyed Try.underlying3) Try.underlying138 (z := .bool false) (by kernel_rfl) (plainElem_bool Try.underlying4 false) (key := .int .i64 n) (Maps.keyOf_int_mk Try.underlying3 hwf)
  obtain ⟨x, rfl, hx⟩ := plainElem_bool_inv Try.underlying4 hv
  rw [hrun]
  have : keptOf M n = x := by
    unfold keptOf
    rw [(Prod.mk.inj hx).1]
  rw [this]

end Go.Proofs.Ytbimkhdiplnbfaa
