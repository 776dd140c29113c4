/- What the walk of LeaseOne needs besides: operations that yield a value; what holds at its two meetings. -/
import Derived.Test.YtgeieeohaeeccaaM3
import Derived.Test.YtgeieeohaeeccaaL1
import Derived.Test.YtgeieeohaeeccaaR3
import Derived.Deep.CutBlock
namespace Go.Proofs.Ytgeieeohaeeccaa
open Go.RowKit Go.Deep

theorem oper_val {P : Program} {o : Oper} {a : Act} {w w' : World} {v : Value} {K : Act → World → Prop} {Q : Exit → Act → World → Prop} (hr : (execOp a.eval o).run P w = .ok (.value v) w') (hK : K (a.put o.dst v) w') : o.wp P a w K Q := by
  unfold Oper.wp; rw [hr]; exact hK

theorem run_load_mid' {P : Program} {o : Oper} {a : Act} {w : World} {b off : Nat} {ty : TypeId} {x : Operand} {d : TypeDesc} (ho : o.op = .load ty x) (hx : a.eval x = .pointer (some ⟨b, off, none⟩)) (cs : List Value) (hc : w.rangeAt b off cs)
    (hu : P.underlying ty = some d) (hd : d.isRow = true) (hi : (P.info? ty).map (·.size) = some cs.length) : (execOp a.eval o).run P w = .ok (.value (.agg cs.toArray)) w := by
  unfold execOp
  simp only [ho, hx, Instr.loadAt, Instr.sureAddr, Sem.run_bind, Sem.run_pure, Result.andThen_ok, run_loadVar_mid w b off ty cs d hc hu hd hi]

theorem run_exec_lookup {P : Program} {o : Oper} {a : Act} {w : World} {t : TypeId} {x y : Operand} {m k v : Value} (ho : o.op = .lookup t x y false) (hx : a.eval x = m) (hy : a.eval y = k) (hr : (Instr.lookup t m k false).run P w = .ok v w) : (execOp a.eval o).run P w = .ok (.value v) w := by
  unfold execOp
  simp only [ho, hx, hy, Sem.run_bind, hr, Result.andThen_ok, Sem.run_pure]

theorem info_parts {P : Program} {t : TypeId} {z : Value} {n b : Nat} (h : (P.info? t).map (fun i => (i.zero, i.size, i.bytes)) = some (some z, n, b)) : ∃ i, P.info? t = some i ∧ i.zero = some z ∧ i.size = n ∧ i.bytes = b := by
  cases hq : P.info? t with
  | none => simp [hq] at h
  | some i =>
    simp only [hq, Option.map_some, Option.some.injEq, Prod.mk.injEq] at h
    exact ⟨i, rfl, h.1, h.2.1, h.2.2⟩

theorem Try.info35p : (Try.prog.info? 35).map (fun i => (i.zero, i.size, i.bytes)) = some (some (.agg #[.int .i64 0, .int .u64 0]), 2, 16) := by kernel_rfl

/-- What holds behind k deeds. -/
structure OneAt (w : World) (b3 mb : Nat) (k : Nat) (now E H U : Int) (ns : List Int) (V : Value) (W : World) : Prop where
  li : LI k now E H U ns
  lease : W.heap[b3]? = some (.cells #[.int .u64 E, .int .i64 H, .int .i64 U] 24 (0, 0))
  had : W.ownsRow (mb + 1) 35 2 V ns.length (whoC 0 ns)
  lost : ∃ u D, u ≤ 81 * k ∧ LostTo W mb u (ns.length - 1) D
  upd : Upd (fun _ => False) w W

theorem OneAt.kept {w W W' : World} {b3 mb k : Nat} {now E H U : Int} {ns : List Int} {V : Value} (h : OneAt w b3 mb k now E H U ns V W) (hu : Upd (fun _ => False) W W') : OneAt w b3 mb k now E H U ns V W' :=
  ⟨h.li, (hu.block _ (lt_of_heap h.lease) (fun e => e)).trans h.lease, h.had.kept (row := none) ⟨hu.os, hu.tape, hu.output, hu.size, fun j hj _ => hu.block j hj (fun e => e)⟩ (by cases hv : V.ownBlock <;> simp), by
    obtain ⟨u, D, h1, h2⟩ := h.lost
    exact ⟨u, D, h1, h2.kept hu (fun e => e)⟩, h.upd.trans hu⟩

theorem OneAt.to {w W : World} {b3 mb k k2 : Nat} {now now2 E H U : Int} {ns : List Int} {V : Value} (h : OneAt w b3 mb k now E H U ns V W) (hl : LI k2 now2 E H U ns) (hk : k ≤ k2) : OneAt w b3 mb k2 now2 E H U ns V W := by
  obtain ⟨u, D, h1, h2⟩ := h.lost
  exact ⟨hl, h.lease, h.had, ⟨u, D, by omega, h2⟩, h.upd⟩

theorem kind3 (z : Int) : 0 ≤ (wrap64 (z.tmod 3 + 3)).tmod 3 ∧ (wrap64 (z.tmod 3 + 3)).tmod 3 ≤ 2 ∧ ((wrap64 (z.tmod 3 + 3)).tmod 3 = 0 ↔ z.tmod 3 = 0) := by
  have h1 := Int.tmod_lt_of_pos z (b := 3) (by omega)
  have h2 := Int.lt_tmod_of_pos z (b := 3) (by omega)
  rw [IntWalk.wrap64_in _ (by omega), Int.tmod_eq_emod_of_nonneg (by omega)]
  omega

theorem cell_keptG {G : Nat → Prop} {w w' : World} (hu : Upd G w w') {x : Addr} (hg : ¬ G x.block) {v : Value} (h : w.cell? x = some v) : w'.cell? x = some v := by
  have hlt : x.block < w.heap.size := by
    rcases Nat.lt_or_ge x.block w.heap.size with h' | h'
    · exact h'
    · simp [World.cell?, Array.getElem?_eq_none h'] at h
  rw [← h]
  simp only [World.cell?]
  rw [hu.block x.block hlt hg]

theorem LI.start : LI 0 0 0 0 0 [] := ⟨rfl, Nat.le_refl _, by omega, by omega, fun x hx => by simp at hx, fun _ => ⟨rfl, rfl⟩, fun i hi => by simp at hi⟩

/-- Whose deed it is: b10 holds the number and the epoch. -/
def WhoAt (wo : World) (b3 b8 b10 : Nat) (d : DeedR) (E H U num : Int) (ns : List Int) (W : World) : Prop :=
  ∃ x ep : Int, W.heap[b10]? = some (.cells #[.int .i64 x, .int .u64 ep] 35 (0, 0)) ∧ Upd (fun _ => False) wo W ∧ W.heap[b8]? = some (.cells (cellsD d).toArray 43 (0, 0)) ∧ W.heap[b3]? = some (.cells #[.int .u64 E, .int .i64 H, .int .i64 U] 24 (0, 0)) ∧
    ((ep = 0 ∧ x = num ∧ (ns = [] ∨ d.k.tmod 3 = 0)) ∨ ∃ i : Nat, ns[i]? = some x ∧ ep = (i : Int) + 1 ∧ d.k.tmod 3 ≠ 0)

/-- What a deed that was not refused leaves: the lease to be in b11. -/
structure NewAt (w : World) (b3 mb b11 : Nat) (k : Nat) (now E H U : Int) (ns : List Int) (V : Value) (W : World) : Prop where
  li : LI k now E H U ns
  ne : ns ≠ []
  lease : ∃ x y z, W.heap[b3]? = some (.cells #[x, y, z] 24 (0, 0))
  new : W.heap[b11]? = some (.cells #[.int .u64 E, .int .i64 H, .int .i64 U] 24 (0, 0))
  had : W.ownsRow (mb + 1) 35 2 V ns.length (whoC 0 ns)
  lost : ∃ u D, u ≤ 81 * k ∧ LostTo W mb u (ns.length - 1) D
  upd : Upd (fun _ => False) w W

/-- What a deed leaves. -/
def DoneAt (w : World) (b3 mb b11 : Nat) (k : Nat) (now E H U : Int) (ns : List Int) (V e : Value) (W : World) : Prop :=
  (∃ c : Int, c ≠ 0 ∧ e = .int .i64 c ∧ OneAt w b3 mb k now E H U ns V W) ∨
  (e = .int .i64 0 ∧ ∃ E2 H2 U2 ns2, NewAt w b3 mb b11 k now E2 H2 U2 ns2 V W)

theorem wpList_execG {P : Program} {ops : Array Oper} {rest : List Oper} {o : Oper} {a : Act} {w w' : World} {v : Value} {Q : Exit → Act → World → Prop} (hw : Region.wanted o (yielded ops a.tmps) = true) (hr : (execOp a.eval o).run P w = .ok (.value v) w')
    (hK : wpList P ops Q rest (a.put o.dst v) w') : wpList P ops Q (o :: rest) a w := by
  unfold wpList
  simp only [hw, if_true]
  refine .inl ?_
  unfold Oper.wp
  rw [hr]
  exact hK

/-- Whose deed it is, that does not acquire. -/
theorem LI.ofs {j : Nat} {now E H U : Int} {ns : List Int} (h : LI j now E H U ns) {num x ep kk : Int} (hn : 1 ≤ num ∧ num ≤ 3) (hk : kk ≠ 0)
    (hor : (ep = 0 ∧ x = num ∧ (ns = [] ∨ kk = 0)) ∨ ∃ i : Nat, ns[i]? = some x ∧ ep = (i : Int) + 1 ∧ kk ≠ 0) (t : Int) :
    (1 ≤ x ∧ x ≤ 3) ∧ 0 ≤ ep ∧ (refu E H U x ep t = 0 → ns ≠ [] ∧ ep = ns.length ∧ t < U ∧ E = ep ∧ H = x) := by
  rcases hor with ⟨h1, h2, h3⟩ | ⟨i, h1, h2, h3⟩
  · subst h1; subst h2
    have hns : ns = [] := h3.resolve_right hk
    refine ⟨hn, Int.le_refl _, fun e => ?_⟩
    rw [h.refu_none hns hn.1] at e
    simp at e
  · have hx := h.nums x (List.mem_of_getElem? h1)
    refine ⟨hx, by omega, fun e => ?_⟩
    have hr := h.refu_last h1 t
    rw [h2, show (i : Int) + 1 = (i + 1 : Nat) by omega, hr] at e
    have hlt : i < ns.length := (List.getElem?_eq_some_iff.1 h1).1
    by_cases hi : i + 1 = ns.length
    · rw [if_pos hi] at e
      by_cases ht : t < U
      · have hl := h.last i hi
        rw [h1] at hl
        have hl := Option.some.inj hl
        have := h.len
        exact ⟨fun e0 => by rw [e0] at hlt; simp at hlt, by omega, ht, by omega, hl.symm⟩
      · rw [if_neg ht] at e; simp at e
    · rw [if_neg hi] at e; simp at e

theorem LI.renews {j : Nat} {now E H U : Int} {ns : List Int} (h : LI j now E H U ns) (hj : j < 80) {num x ep kk t span : Int} (hn : 1 ≤ num ∧ num ≤ 3) (hk : kk ≠ 0)
    (hor : (ep = 0 ∧ x = num ∧ (ns = [] ∨ kk = 0)) ∨ ∃ i : Nat, ns[i]? = some x ∧ ep = (i : Int) + 1 ∧ kk ≠ 0) (ht : now ≤ t ∧ t ≤ now + 19) (hs : 1 ≤ span ∧ span ≤ 10) :
    (∃ c, c ≠ 0 ∧ renewF E H U x ep t span = (c, 0, 0, 0)) ∨ (∃ V, renewF E H U x ep t span = (0, E, H, V) ∧ LI (j + 1) t E H V ns ∧ ns ≠ [] ∧ ep = ns.length ∧ holdsF E H U x ep t = true) := by
  obtain ⟨h1, h2, h3⟩ := h.ofs hn hk hor t
  by_cases hr : refu E H U x ep t = 0
  · obtain ⟨e1, e2, e3, e4, e5⟩ := h3 hr
    obtain ⟨V, e6, _, e7⟩ := h.renew_yes hj h1 ht hs hr e1
    refine .inr ⟨V, e6, e7, e1, e2, ?_⟩
    unfold holdsF
    rw [h.right (by omega)]
    simp [e4, e5, e3]
  · exact .inl ⟨_, hr, h.renew_no hj h1 ht hs hr⟩

theorem LI.yields {j : Nat} {now E H U : Int} {ns : List Int} (h : LI j now E H U ns) (hj : j < 80) {num x ep kk t : Int} (hn : 1 ≤ num ∧ num ≤ 3) (hk : kk ≠ 0)
    (hor : (ep = 0 ∧ x = num ∧ (ns = [] ∨ kk = 0)) ∨ ∃ i : Nat, ns[i]? = some x ∧ ep = (i : Int) + 1 ∧ kk ≠ 0) (ht : now ≤ t ∧ t ≤ now + 19) :
    (∃ c, c ≠ 0 ∧ yieldF E H U x ep t = (c, 0, 0, 0)) ∨ (yieldF E H U x ep t = (0, E, H, t) ∧ LI (j + 1) t E H t ns ∧ ns ≠ [] ∧ leftF E H t t = 0) := by
  obtain ⟨h1, h2, h3⟩ := h.ofs hn hk hor t
  by_cases hr : refu E H U x ep t = 0
  · obtain ⟨e1, e2, e3, e4, e5⟩ := h3 hr
    obtain ⟨e6, e7⟩ := h.yield_yes hj h1 ht hr e1
    refine .inr ⟨e6, e7, e1, ?_⟩
    rw [e7.left (by omega)]; simp
  · exact .inl ⟨_, hr, h.yield_no hj h1 ht hr⟩

theorem ownsRow_any {w w' : World} {G : Nat → Prop} {B : Nat} {e : TypeId} {sz n : Nat} {v : Value} {xs : List Value} (h : w.ownsRow B e sz v n xs) (hu : Upd G w w') (hg : ∀ k, v.ownBlock = some k → ¬ G k) : w'.ownsRow B e sz v n xs := by
  obtain ⟨h1, h2⟩ := h
  refine ⟨h1, ?_⟩
  rcases h2 with h2 | ⟨gg, cap', cur, hv, hb, hh, r⟩
  · exact .inl h2
  · exact .inr ⟨gg, cap', cur, hv, hb, (hu.block gg (lt_of_heap hh) (hg gg (by rw [hv]; rfl))).trans hh, r⟩

theorem rangeAt_block' {w : World} {b : Nat} {cs : List Value} {t : TypeId} (h : w.heap[b]? = some (.cells cs.toArray t (0, 0))) : ∀ j u, cs[j]? = some u → w.cell? ((⟨b, 0, none⟩ : Addr).add j) = some u := by
  intro j u hj
  rw [Addr.add_mid, Nat.zero_add, cell_of_heap h]
  simpa using hj

end Go.Proofs.Ytgeieeohaeeccaa
