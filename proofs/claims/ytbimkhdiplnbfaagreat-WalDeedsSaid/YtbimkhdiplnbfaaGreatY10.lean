/- Appending bytes to a row of one's own, in one law. -/
import Derived.Test.YtbimkhdiplnbfaaGreatY9
import Derived.Laws.AppendOwnNone
set_option linter.unusedVariables false
set_option linter.unusedSimpArgs false
namespace Go.Proofs.YtbimkhdiplnbfaaGreat
set_option maxRecDepth 1000000
set_option maxHeartbeats 16000000
section
open Go.RowKit
theorem run_appB {w : World} {base : Nat} {ty : TypeId} {v vx : Value} {bs cs : List Int} (hown : OwnB w base v bs) (hx : BytesIn w vx cs) (hm : bs.length + cs.length ≤ 1099511627776) (hbase : base ≤ w.heap.size) :
  ∃ v' w', (Builtin.append_ #[39, 39] ty #[v, vx]).run Tryz.prog w = .ok v' w' ∧ OwnB w' base v' (bs ++ cs) ∧ Upd (fun k => v.ownBlock = some k) w w' := by
 obtain ⟨i, hi, hz, hs, hb⟩ := info_parts Tryz.info5p
 rcases hx with ⟨rfl, rfl⟩ | ⟨a, c, rfl, h1, h2, h3⟩
 ·have hr := run_append_owned_none (P := Tryz.prog) (w := w) base 39 ty 5 i 1 Tryz.underlying39 hi v bs.length (bcells bs) hown
  refine ⟨_, _, hr, ?_, Upd.refl _ _⟩
  simpa using hown
 ·obtain ⟨v', w', hr, g1, g2, _⟩ := run_append_own (P := Tryz.prog) w base 39 ty 5 i (.int .u8 0) 1 1 Tryz.underlying39 hi hz hs hb rfl (by omega) v bs.length (bcells bs) hown a cs.length c (bcells cs) (by simp [bcells]) h3 (bcells_one cs) (by unfold maxLen; omega) (by omega) hbase
  refine ⟨v', w', hr, ?_, Upd.of_grown g2 (fun k hk => hk)⟩
  unfold OwnB
  rw [bcells_append, List.length_append]
  exact g1
theorem wpList_appB {ops : Array Oper} {rest : List Oper} {o : Oper} {a : Act} {w : World} {Q : Exit → Act → World → Prop} (hgd : o.guard = none) (s x : Operand) (ho : o.op = .call { callee := .builtin .append, args := #[s, x], argTypes := #[39, 39] })
  {base : Nat} {v vx : Value} {bs cs : List Int} (hs : a.eval s = v) (hown : OwnB w base v bs) (hx : a.eval x = vx) (hxx : BytesIn w vx cs) (hm : bs.length + cs.length ≤ 1099511627776) (hbase : base ≤ w.heap.size)
  (h : ∀ v' w', OwnB w' base v' (bs ++ cs) → Upd (fun k => v.ownBlock = some k) w w' → wpList Tryz.prog ops Q rest (a.put o.dst v') w') : wpList Tryz.prog ops Q (o :: rest) a w := by
 obtain ⟨v', w', hr, g1, g2⟩ := run_appB (ty := o.type) hown hxx hm hbase
 exact Lib.wpList_append_run w hgd s x 39 39 ho v vx hs hx v' w' hr (h v' w' g1 g2)
theorem wpList_zerB {ops : Array Oper} {rest : List Oper} {o : Oper} {a : Act} {w : World} {Q : Exit → Act → World → Prop} (hgd : o.guard = none) (s x : Operand) (ho : o.op = .call { callee := .builtin .append, args := #[s, x], argTypes := #[39, 3] })
  {base : Nat} {v : Value} {bs : List Int} {m : Nat} {z : Int} (hs : a.eval s = v) (hown : OwnB w base v bs) (hx : a.eval x = .int .i64 z) (hz : z = m) (hm : bs.length + m ≤ 1099511627776) (hbase : base ≤ w.heap.size)
  (h : ∀ v' w', OwnB w' base v' (bs ++ List.replicate m 0) → Upd (fun k => v.ownBlock = some k) w w' → wpList Tryz.prog ops Q rest (a.put o.dst v') w') : wpList Tryz.prog ops Q (o :: rest) a w := by
 subst hz
 rcases Nat.eq_zero_or_pos m with rfl | hm0
 ·have hr : (Builtin.append_ #[39, 3] o.type #[v, .int .i64 (0 : Nat)]).run Tryz.prog w = .ok v w := by
   obtain ⟨i, hi, hz, hsz, hb⟩ := info_parts Tryz.info5p
   have hw0 : IntKind.i64.wrap 0 = 0 := rfl
   have hc0 : ((0 : Nat) : Int) = 0 := rfl
   rcases hown.2 with ⟨rfl, _⟩ | ⟨g, cap, cur, rfl, _, hg, hnc, _, _, _⟩
   ·simp [Builtin.append_, run_underlying Tryz.underlying39, run_underlying Tryz.underlying3, hi, typeInfo, sizeOf, asInt, asIntOf, hw0]
   ·simp [Builtin.append_, run_underlying Tryz.underlying39, run_underlying Tryz.underlying3, hi, typeInfo, sizeOf, asInt, asIntOf, hw0, hnc, storeCells]
  refine Lib.wpList_append_run w hgd s x 39 3 ho v _ hs hx v w hr (h v w ?_ (Upd.refl _ _))
  simpa using hown
 ·obtain ⟨v', w', hr, g1, g2, _⟩ := run_append_zeros_own (ty := o.type) hown hm hm0 hbase
  exact Lib.wpList_append_run w hgd s x 39 3 ho v _ hs hx v' w' hr (h v' w' g1 (Upd.of_grown g2 (fun k hk => hk)))
theorem or_sign {m : Nat} (h : m < 1000) : bits .or .i64 (m : Int) 32768 = (m : Int) + 32768 := by
 have : ∀ m < 1000, bits .or .i64 ((m : Nat) : Int) 32768 = (m : Int) + 32768 := by decide +kernel
 exact this m h
end
end Go.Proofs.YtbimkhdiplnbfaaGreat
