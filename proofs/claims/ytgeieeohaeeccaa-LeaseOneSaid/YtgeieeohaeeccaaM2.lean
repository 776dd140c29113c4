/- Deeds in memory; loads of several cells at any address. -/
import Derived.Test.YtgeieeohaeeccaaM1
import Derived.Deep.MidRow
namespace Go.Proofs.Ytgeieeohaeeccaa
open Go.RowKit

structure DeedR where
  k : Int
  who : Int
  ah : Int
  sp : Int
  hd : Int

def cellsD (d : DeedR) : List Value := [.int .i64 d.k, .int .i64 d.who, .int .i64 d.ah, .int .i64 d.sp, .int .i64 d.hd]

def DeedsIn (w : World) (sa : Option Addr) (sc : Nat) (L : List DeedR) : Prop := (sa = none ∧ L = [] ∧ sc = 0) ∨ ∃ a : Addr, sa = some a ∧ L.length ≤ sc ∧ sc ≤ maxLen ∧ ∀ i d, L[i]? = some d → ∀ j u, (cellsD d)[j]? = some u → w.cell? ((a.add (i * 5)).add j) = some u

theorem DeedsIn.kept {w w' : World} {sa : Option Addr} {sc : Nat} {L : List DeedR} (h : DeedsIn w sa sc L) (hu : Upd (fun _ => False) w w') : DeedsIn w' sa sc L := by
  rcases h with h | ⟨a, h1, h2, h3, h4⟩
  · exact .inl h
  · exact .inr ⟨a, h1, h2, h3, fun i d hd j u hj => cell_kept hu (h4 i d hd j u hj)⟩

theorem run_loadVar_any {P : Program} (w : World) (x : Addr) (ty : TypeId) (cs : List Value) (d : TypeDesc) (hc : ∀ j u, cs[j]? = some u → w.cell? (x.add j) = some u)
    (hu : P.underlying ty = some d) (hd : d.isRow = true) (hi : (P.info? ty).map (·.size) = some cs.length) :
    (loadVar ty x).run P w = .ok (.agg cs.toArray) w := by
  have hl : (loadCells x cs.length).run P w = .ok cs.toArray w := run_loadCells_list (P := P) w x cs hc
  cases hq : P.info? ty with
  | none => simp [hq] at hi
  | some i =>
    have hs : i.size = cs.length := by simpa [hq] using hi
    have hagg : (isAgg ty).run P w = .ok true w := by
      unfold isAgg
      rw [Sem.run_bind, run_underlying hu w]
      cases d <;> simp_all
    simp [loadVar, Sem.run_bind, hagg, sizeOf, typeInfo, hq, hs, hl]

theorem wpList_load_any {P : Program} {ops : Array Oper} {rest : List Oper} {op : Oper} {a : Act} {w : World} {Q : Exit → Act → World → Prop} (hgd : op.guard = none) (ty : TypeId) (x : Operand) (ho : op.op = .load ty x)
    (y : Addr) (hx : a.eval x = .pointer (some y)) (cs : List Value) (d : TypeDesc) (hc : ∀ j u, cs[j]? = some u → w.cell? (y.add j) = some u)
    (hu : P.underlying ty = some d) (hd : d.isRow = true) (hi : (P.info? ty).map (·.size) = some cs.length)
    (h : wpList P ops Q rest (a.put op.dst (.agg cs.toArray)) w) : wpList P ops Q (op :: rest) a w :=
  wpList_plain hgd fun _ hK => by
    unfold Oper.wp execOp
    simp only [ho, hx, Instr.loadAt, Instr.sureAddr, Sem.run_bind, Sem.run_pure, Result.andThen_ok, run_loadVar_any w y ty cs d hc hu hd hi]
    exact hK _ _ h

theorem Try.size43d : (Try.prog.info? 43).map (·.size) = some 5 := by kernel_rfl
theorem Try.size24d : (Try.prog.info? 24).map (·.size) = some 3 := by kernel_rfl
theorem Try.size35d : (Try.prog.info? 35).map (·.size) = some 2 := by kernel_rfl

end Go.Proofs.Ytgeieeohaeeccaa
