/- Walks: collected (all that a function over which one ranges tells). -/
import Derived.Test.YtbonfdkgkcbkmaaGreatW1
import Derived.Test.YtbonfdkgkcbkmaaGreatW2
import Derived.Test.YtbonfdkgkcbkmaaGreatW5
import Derived.Test.YtbonfdkgkcbkmaaGreatW6
set_option linter.unusedVariables false
set_option linter.unusedSimpArgs false

section
namespace Go.Proofs.YtbonfdkgkcbkmaaGreat
set_option maxRecDepth 100000
set_option maxRecDepth 100000
open Go.RowKit Go.Shelf

attribute [local go_sem] Oper.semAt_some
theorem Tryz.info2p : (Tryz.prog.info? 2).map (fun i => (i.zero, i.size, i.bytes)) = some (some (.int .i64 0), 1, 8) := by kernel_rfl

/-- What holds between the rounds of collected. -/
structure ColAt (Φ : Nat → TypeId → Prop) (w : World) (pre : List Int) (W : World) : Prop where
  out : ∃ a c, W.heap[w.heap.size]? = some (.cells #[.slice a pre.length c] 55 (0, 0)) ∧ OwnI W (w.heap.size + 1) 2 (.slice a pre.length c) pre
  upd : UpdT Φ w W

/-- What the body of collected may write. -/
def colB (w : World) : Nat → TypeId → Prop := fun k t => (k = w.heap.size ∧ t = 55) ∨ (w.heap.size < k ∧ t = 2)

theorem ColAt.box {w W w4 : World} {pre : List Int} {x : Int} {a : Option Addr} {c : Nat} (h1 : W.heap[w.heap.size]? = some (.cells #[.slice a pre.length c] 55 (0, 0))) (h2 : OwnI W (w.heap.size + 1) 2 (.slice a pre.length c) pre) (hgrow : (W.alloc (.cells #[.int .i64 x] 2)).grownBy w4 (Value.slice a pre.length c).ownBlock) :
    w4.heap[w.heap.size]? = some (.cells #[.slice a pre.length c] 55 (0, 0)) :=
  (hgrow.block _ (by simp; have := lt_of_heap h1; omega) (fun e => by have := (World.ownsRow.lt h2 _ e.symm).1; omega)).trans ((alloc_lt (lt_of_heap h1)).trans h1)
theorem ColAt.more {Φ : Nat → TypeId → Prop} {w W w4 : World} {pre : List Int} {x : Int} {a : Option Addr} {c g4 cap4 : Nat} (h1 : W.heap[w.heap.size]? = some (.cells #[.slice a pre.length c] 55 (0, 0))) (h2 : OwnI W (w.heap.size + 1) 2 (.slice a pre.length c) pre) (h3 : UpdT Φ w W)
    (hown4 : w4.ownsRow (w.heap.size + 1) 2 1 (.slice (some ⟨g4, 0, none⟩) (pre.length + 1) cap4) (pre.length + 1) (pre.map I ++ [.int .i64 x])) (hgrow : (W.alloc (.cells #[.int .i64 x] 2)).grownBy w4 (Value.slice a pre.length c).ownBlock) :
    ColAt Φ w (pre ++ [x]) (w4.setCell ⟨w.heap.size, 0, none⟩ (.slice (some ⟨g4, 0, none⟩) (pre.length + 1) cap4)) ∧ UpdT (colB w) W (w4.setCell ⟨w.heap.size, 0, none⟩ (.slice (some ⟨g4, 0, none⟩) (pre.length + 1) cap4)) := by
  have hg4 : w.heap.size + 1 ≤ g4 := (World.ownsRow.lt hown4 g4 rfl).1
  have hv : ∀ k, (Value.slice a pre.length c).ownBlock = some k → w.heap.size + 1 ≤ k := fun k hk => (World.ownsRow.lt h2 k hk).1
  have hbx : w4.heap[w.heap.size]? = some (.cells #[.slice a pre.length c] 55 (0, 0)) :=
    (hgrow.block _ (by simp; have := lt_of_heap h1; omega) (fun e => by have := hv _ e.symm; omega)).trans ((alloc_lt (lt_of_heap h1)).trans h1)
  have hua : Upd (fun k => (Value.slice a pre.length c).ownBlock = some k) W w4 := ((Upd.refl _ W).alloc _).trans (Upd.of_grown hgrow (fun k hk => hk))
  have hub : Upd (fun k => (Value.slice a pre.length c).ownBlock = some k ∨ k = w.heap.size) W (w4.setCell ⟨w.heap.size, 0, none⟩ (.slice (some ⟨g4, 0, none⟩) (pre.length + 1) cap4)) :=
    (hua.mono (fun _ _ e => .inl e)).trans ((upd_own w4 w.heap.size 0 _).mono (fun _ _ e => .inr e))
  refine ⟨⟨⟨some ⟨g4, 0, none⟩, cap4, ?_, ?_⟩, ?_⟩, ?_⟩
  · have := blk_set (i := 0) (v := .slice (some ⟨g4, 0, none⟩) (pre.length + 1) cap4) hbx
    simpa using this
  · refine ownsRow_heap (by simpa [OwnI] using hown4) (fun k hk => ?_)
    simp only [Value.ownBlock, Option.some.injEq] at hk
    exact set_ne (by show k ≠ w.heap.size; omega)
  · refine h3.own hub (fun k hk => ?_)
    rcases hk with hk | hk
    · have := hv k hk; omega
    · omega
  · refine hub.mono (fun k hk e => ?_)
    rcases e with e | e
    · obtain ⟨cur, hcur⟩ := ownsRow_at h2 e
      exact ⟨_, _, _, hcur, .inr ⟨by have := hv k e; omega, rfl⟩⟩
    · subst e
      exact ⟨_, _, _, h1, .inl ⟨rfl, rfl⟩⟩

end Go.Proofs.YtbonfdkgkcbkmaaGreat
end

section
namespace Go.Proofs.YtbonfdkgkcbkmaaGreat
set_option maxRecDepth 100000
set_option maxRecDepth 100000
open Go.RowKit Go.Shelf

attribute [local go_sem] Oper.semAt_some

/-- What a flow reads and writes. -/
structure FlAt (B ob vb pcb peb cb eb : Nat) (va : Option Addr) (vc : Nat) (o : OpM) (vals : List Int) (c : CellV) (W : World) : Prop where
  op : W.heap[ob]? = some (.cells #[.int .i64 o.tag, .int .i64 o.width, .slice o.ia o.ins.length o.ic, .int .i64 o.a, .int .i64 o.b] 89 (0, 0))
  vs : W.heap[vb]? = some (.cells #[.slice va vals.length vc] 55 (0, 0))
  pc : W.heap[pcb]? = some (.cells #[.pointer (some ⟨cb, 0, none⟩)] 286 (0, 0))
  pe : W.heap[peb]? = some (.cells #[.pointer (some ⟨eb, 0, none⟩)] 287 (0, 0))
  cell : W.heap[cb]? = some (.cells #[.int .i64 c.count, .int .i64 c.sum] 61 (0, 0))
  err : W.heap[eb]? = some (.cells #[.int .i64 0] 33 (0, 0))
  vals : IntsIn W va vals
  low : ob < B ∧ vb < B ∧ pcb < B ∧ peb < B ∧ cb < B ∧ eb < B
  valb : ∀ b f, va = some ⟨b, f, none⟩ → b < B ∧ b ≠ cb ∧ b ≠ eb
theorem FlAt.kept {B ob vb pcb peb cb eb : Nat} {va : Option Addr} {vc : Nat} {o : OpM} {vals : List Int} {c : CellV} {W W' : World} {F : Nat → Prop} (h : FlAt B ob vb pcb peb cb eb va vc o vals c W) (hu : Upd F W W') (hF : ∀ k, F k → B ≤ k) : FlAt B ob vb pcb peb cb eb va vc o vals c W' := by
  obtain ⟨l1, l2, l3, l4, l5, l6⟩ := h.low
  have k : ∀ {j p}, j < B → W.heap[j]? = some p → W'.heap[j]? = some p := fun hj hp => (hu.block _ (lt_of_heap hp) (fun e => by have := hF _ e; omega)).trans hp
  refine ⟨k l1 h.op, k l2 h.vs, k l3 h.pc, k l4 h.pe, k l5 h.cell, k l6 h.err, fun i x hx => ?_, h.low, h.valb⟩
  obtain ⟨h0, b, f, e, hc⟩ := h.vals i x hx
  exact ⟨h0, b, f, e, fun t u ht => cell_keptF hu (fun e2 => by have h1 : B ≤ b := hF _ e2; have := (h.valb b f e).1; omega) (hc t u ht)⟩
theorem FlAt.put {B ob vb pcb peb cb eb : Nat} {va : Option Addr} {vc : Nat} {o : OpM} {vals : List Int} {c c' : CellV} {W : World} (h : FlAt B ob vb pcb peb cb eb va vc o vals c W) :
    FlAt B ob vb pcb peb cb eb va vc o vals c' ((W.setCell ⟨cb, 0, none⟩ (.int .i64 c'.count)).setCell ⟨cb, 1, none⟩ (.int .i64 c'.sum)) := by
  obtain ⟨p1, p2⟩ := put2 (u := .int .i64 c'.count) (v := .int .i64 c'.sum) h.cell
  have k : ∀ {j : Nat} {cs : Array Value} {t : TypeId}, W.heap[j]? = some (.cells cs t (0, 0)) → t ≠ 61 → ((W.setCell ⟨cb, 0, none⟩ (.int .i64 c'.count)).setCell ⟨cb, 1, none⟩ (.int .i64 c'.sum)).heap[j]? = some (.cells cs t (0, 0)) := fun {j cs t} hp ht => (p2.block _ (lt_of_heap hp) (fun e => by
    subst e
    have := h.cell
    rw [hp] at this
    injection this with this
    injection this with _ this
    exact ht this)).trans hp
  refine ⟨k h.op (by decide), k h.vs (by decide), k h.pc (by decide), k h.pe (by decide), p1, k h.err (by decide), fun i x hx => ?_, h.low, h.valb⟩
  obtain ⟨h0, b, f, e, hc⟩ := h.vals i x hx
  exact ⟨h0, b, f, e, fun t u ht => cell_keptF p2 (fun e2 => (h.valb b f e).2.1 e2) (hc t u ht)⟩

end Go.Proofs.YtbonfdkgkcbkmaaGreat
end

section
namespace Go.Proofs.YtbonfdkgkcbkmaaGreat
set_option maxRecDepth 100000
set_option maxRecDepth 100000
open Go.RowKit Go.Shelf

end Go.Proofs.YtbonfdkgkcbkmaaGreat
end

