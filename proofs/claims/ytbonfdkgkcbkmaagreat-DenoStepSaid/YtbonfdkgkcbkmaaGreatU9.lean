/- Walks: collected (all that a function over which one ranges tells). -/
import Derived.Test.YtbonfdkgkcbkmaaGreatU1
import Derived.Test.YtbonfdkgkcbkmaaGreatU2
import Derived.Test.YtbonfdkgkcbkmaaGreatU5
import Derived.Test.YtbonfdkgkcbkmaaGreatU6
set_option linter.unusedVariables false
set_option linter.unusedSimpArgs false

section
namespace Go.Proofs.YtbonfdkgkcbkmaaGreat
set_option maxRecDepth 100000
set_option maxRecDepth 100000
open Go.RowKit Go.Shelf

attribute [local go_sem] Oper.semAt_some
theorem Tryz.info2p : (Tryz.prog.info? 2).map (fun i => (i.zero, i.size, i.bytes)) = some (some (.int .i64 0), 1, 8) := by kernel_rfl

/-- What holds between the rounds of collected. -/
structure ColAt (Φ : Nat → TypeId → Prop) (w : World) (pre : List Int) (W : World) : Prop where
  out : ∃ a c, W.heap[w.heap.size]? = some (.cells #[.slice a pre.length c] 55 (0, 0)) ∧ OwnI W (w.heap.size + 1) 2 (.slice a pre.length c) pre
  upd : UpdT Φ w W

/-- What the body of collected may write. -/
def colB (w : World) : Nat → TypeId → Prop := fun k t => (k = w.heap.size ∧ t = 55) ∨ (w.heap.size < k ∧ t = 2)

theorem ColAt.box {w W w4 : World} {pre : List Int} {x : Int} {a : Option Addr} {c : Nat} (h1 : W.heap[w.heap.size]? = some (.cells #[.slice a pre.length c] 55 (0, 0))) (h2 : OwnI W (w.heap.size + 1) 2 (.slice a pre.length c) pre) (hgrow : (W.alloc (.cells #[.int .i64 x] 2)).grownBy w4 (Value.slice a pre.length c).ownBlock) :
    w4.heap[w.heap.size]? = some (.cells #[.slice a pre.length c] 55 (0, 0)) :=
  (hgrow.block _ (by simp; have := lt_of_heap h1; omega) (fun e => by have := (World.ownsRow.lt h2 _ e.symm).1; omega)).trans ((alloc_lt (lt_of_heap h1)).trans h1)
theorem ColAt.more {Φ : Nat → TypeId → Prop} {w W w4 : World} {pre : List Int} {x : Int} {a : Option Addr} {c g4 cap4 : Nat} (h1 : W.heap[w.heap.size]? = some (.cells #[.slice a pre.length c] 55 (0, 0))) (h2 : OwnI W (w.heap.size + 1) 2 (.slice a pre.length c) pre) (h3 : UpdT Φ w W)
    (hown4 : w4.ownsRow (w.heap.size + 1) 2 1 (.slice (some ⟨g4, 0, none⟩) (pre.length + 1) cap4) (pre.length + 1) (pre.map I ++ [.int .i64 x])) (hgrow : (W.alloc (.cells #[.int .i64 x] 2)).grownBy w4 (Value.slice a pre.length c).ownBlock) :
    ColAt Φ w (pre ++ [x]) (w4.setCell ⟨w.heap.size, 0, none⟩ (.slice (some ⟨g4, 0, none⟩) (pre.length + 1) cap4)) ∧ UpdT (colB w) W (w4.setCell ⟨w.heap.size, 0, none⟩ (.slice (some ⟨g4, 0, none⟩) (pre.length + 1) cap4)) := by
  have hg4 : w.heap.size + 1 ≤ g4 := (World.ownsRow.lt hown4 g4 rfl).1
  have hv : ∀ k, (Value.slice a pre.length c).ownBlock = some k → w.heap.size + 1 ≤ k := fun k hk => (World.ownsRow.lt h2 k hk).1
  have hbx : w4.heap[w.heap.size]? = some (.cells #[.slice a pre.length c] 55 (0, 0)) :=
    (hgrow.block _ (by simp; have := lt_of_heap h1; omega) (fun e => by have := hv _ e.symm; omega)).trans ((alloc_lt (lt_of_heap h1)).trans h1)
  have hua : Upd (fun k => (Value.slice a pre.length c).ownBlock = some k) W w4 := ((Upd.refl _ W).alloc _).trans (Upd.of_grown hgrow (fun k hk => hk))
  have hub : Upd (fun k => (Value.slice a pre.length c).ownBlock = some k ∨ k = w.heap.size) W (w4.setCell ⟨w.heap.size, 0, none⟩ (.slice (some ⟨g4, 0, none⟩) (pre.length + 1) cap4)) :=
    (hua.mono (fun _ _ e => .inl e)).trans ((upd_own w4 w.heap.size 0 _).mono (fun _ _ e => .inr e))
  refine ⟨⟨⟨some ⟨g4, 0, none⟩, cap4, ?_, ?_⟩, ?_⟩, ?_⟩
  · have := blk_set (i := 0) (v := .slice (some ⟨g4, 0, none⟩) (pre.length + 1) cap4) hbx
    simpa using this
  · refine ownsRow_heap (by simpa [OwnI] using hown4) (fun k hk => ?_)
    simp only [Value.ownBlock, Option.some.injEq] at hk
    exact set_ne (by show k ≠ w.heap.size; omega)
  · refine h3.own hub (fun k hk => ?_)
    rcases hk with hk | hk
    · have := hv k hk; omega
    · omega
  · refine hub.mono (fun k hk e => ?_)
    rcases e with e | e
    · obtain ⟨cur, hcur⟩ := ownsRow_at h2 e
      exact ⟨_, _, _, hcur, .inr ⟨by have := hv k e; omega, rfl⟩⟩
    · subst e
      exact ⟨_, _, _, h1, .inl ⟨rfl, rfl⟩⟩

set_option maxHeartbeats 4000000 in
theorem collected_any {gf : Nat} {lb : Array Value} (w : World) (Φ : Nat → TypeId → Prop) (S : List Int → World → Prop) (eg : ∀ args w, (callFunc gf args).run Tryz.prog w = .ok (.enter gf args) w)
    (hΦ : ∀ k t, Φ k t → w.heap.size ≤ k → t ≠ 55 ∧ t ≠ 2) (hSP : ∀ xs W l o o', S xs W → w.heap.size ≤ l → W.heap[l]? = some o → o.isCells = false → S xs (W.putObj l o'))
    (hseq : ∀ (l : Nat) (J : List Int → World → Prop) (Jx : World → Prop) (W : World), J [] W → Upd0 w W → w.heap.size < W.heap.size → (∀ pre W W', w.heap.size < W.heap.size → J pre W → UpdT Φ W W' → J pre W') → (∀ W W', w.heap.size < W.heap.size → Jx W → UpdT Φ W W' → Jx W') →
      (∀ pre x W1, w.heap.size < W1.heap.size → J pre W1 → pre.length < 1000 → YieldAt Fence.wide 3 Tryz.prog l #[.int .i64 x] W1 fun e W' => (e = .returned (.bool true) ∧ J (pre ++ [x]) W' ∧ UpdT (colB w) W1 W') ∨ (e = .returned (.bool false) ∧ Jx W')) →
      CallsIn Fence.wide 4 Tryz.prog gf (#[.func (.yield l) #[] #[]] ++ lb) W fun e W' => (∃ v, e = .returned v) ∧ ((∃ xs, S xs W' ∧ J xs W') ∨ Jx W')) :
    Calls Tryz.prog 183 #[.func (.func gf) #[] lb] w fun e w' => ∃ xs a c, e = .returned (.slice a xs.length c) ∧ OwnI w' w.heap.size 2 (.slice a xs.length c) xs ∧ S xs w' ∧ UpdT Φ w w' := by
  obtain ⟨w1, hw1⟩ : ∃ w1, w1 = w.alloc (.cells #[.slice none 0 0] 55) := ⟨_, rfl⟩
  have hu1 : Upd0 w w1 := by rw [hw1]; exact (Upd.refl _ w).alloc _
  have hx1 : w1.heap[w.heap.size]? = some (.cells #[.slice none 0 0] 55 (0, 0)) := by rw [hw1]; exact alloc_at rfl
  have hz1 : w1.heap.size = w.heap.size + 1 := by rw [hw1]; simp
  have HAT := Lib.hid (show ColAt Φ w [] w1 from ⟨⟨none, 0, hx1, World.ownsRow_nil _ _ _ _⟩, UpdT.of0 hu1⟩)
  have HSEQ := Lib.hid hseq; have HPHI := Lib.hid hΦ; have HSP := Lib.hid hSP; have HU1 := Lib.hid hu1; have HZ1 := Lib.hid hz1
  clear hseq hΦ hSP hu1 hx1 hz1
  refine (callsIn_wide (n := 5)).1 ?_
  refine callsIn_of_wp_marks Tryz.func183 rfl trivial ?_ rfl
  simp only [Tryz.ntmps183, List.size_toArray, List.length_cons, List.length_nil, Nat.reduceAdd, Nat.reduceSub, Array.replicate_succ, Array.replicate_zero, List.push_toArray, List.append_toArray, List.nil_append, List.cons_append]
  gi_wp2
  rw [← hw1]
  clear hw1
  refine wpIn_rangeFunc_T (α := Int) (encs := fun x => #[.int .i64 x]) rfl (by omega) (gf := gf) (lb := lb) rfl trivial eg (fun _ => rfl) Φ (colB w) (fun pre _ => pre.length < 1000) S (ColAt Φ w) (fun _ _ => False)
    ?hIU ?hIP (fun _ _ _ _ e => e.elim) (fun _ _ _ _ _ e => e.elim) HAT.out ?hSP ?hseq (fun x a' _ => a' = { tmps := #[.func (.func gf) #[] lb, undef, .slice none 0 0, .pointer (some ⟨w.heap.size, 0, none⟩), .int .i64 x, .func (.func gf) #[] lb, .int .i64 x, undef, undef, undef, undef, undef], defers := [] }) (fun _ _ _ _ _ _ e _ _ => e) ?hassign ?hbody ?hdone (fun _ _ e => e.elim)
  case hIU =>
    rintro pre W W' hs ⟨⟨a, c, h1, h2⟩, h3⟩ hu
    refine ⟨⟨a, c, hu.keep h1 (fun cs t fr e p => ?_), ownsRow_T h2 hu (fun k hk p => (HPHI.out k 2 p (by omega)).2 rfl)⟩, h3.trans hu⟩
    injection e with _ e
    subst e
    exact (HPHI.out _ _ p (Nat.le_refl _)).1 rfl
  case hIP =>
    rintro pre W l o o' ⟨⟨a, c, h1, h2⟩, h3⟩ hl ho
    exact ⟨⟨a, c, cells_put o' h1 rfl ho rfl, ownsRow_put h2 o' ho rfl⟩, h3.put (by have := HZ1.out; omega) o'⟩
  case hSP =>
    intro xs W l o o' h hl ho
    exact HSP.out xs W l _ o' h (by have := HZ1.out; omega) ho rfl
  case hseq =>
    intro l J Jx W h0 hu hJ hJx hY
    have hz := HZ1.out
    exact HSEQ.out l J Jx W h0 (HU1.out.trans hu) (by have := hu.size; omega) (fun pre W W' hs => hJ pre W W' (by omega)) (fun W W' hs => hJx W W' (by omega)) (fun pre x W1 hs h hp => hY pre x W1 (by omega) h hp)
  case hassign =>
    intro l x W K _ hK
    have HK := Lib.hid (hK _ W (Upd.refl _ W) rfl)
    clear hK
    gi_wp2
    exact HK.out
  case hbody =>
    rintro l pre x a' W r hl hs ⟨⟨a, c, h1, h2⟩, h3⟩ hpl rfl hlr
    have c4 := cells1_of h1
    have f4 : W.frozen? ⟨w.heap.size, 0, none⟩ = false := frozen_of_heap h1
    have hlt := lt_of_heap h1
    have H1 := Lib.hid h1; have H2 := Lib.hid h2; have H3 := Lib.hid h3
    clear h1 h2 h3 hlr
    gi_wp2_with (gi_at_builtin; obtain ⟨i0, hi0, hz0, hz1, hz2⟩ := info_parts Tryz.info2p; refine wpListIn_append_own _ rfl (.tmp 7) (.tmp 9) 55 rfl (w.heap.size + 1) 2 i0 (.int .i64 0) 1 8 Tryz.underlying55 hi0 hz0 hz1 hz2 rfl (by omega) (.slice a pre.length c) pre.length (pre.map I) rfl (H2.out.alloc _) ⟨W.heap.size, 0, none⟩ 1 1 [.int .i64 x] rfl rfl (cell_one_new _ _ _) (by simp [Value.oneCell']) (by unfold maxLen; omega) (by omega) (by simp; omega) ?_; clear hi0 hz0 hz1 hz2; intro v' w4 hown4 hgrow _; obtain ⟨g4, cap4, rfl⟩ := ownsRow_succ hown4; have hbx4 := ColAt.box H1.out H2.out hgrow; have c4' := cells1_of hbx4; have f4' : w4.frozen? ⟨w.heap.size, 0, none⟩ = false := frozen_of_heap hbx4; have HM := Lib.hid (ColAt.more H1.out H2.out H3.out hown4 hgrow); clear hown4 hgrow hbx4)
    exact HM.out
  case hdone =>
    rintro xs W hS ⟨⟨a, c, h1, h2⟩, h3⟩ hD
    have c4 := cells1_of h1
    have HS := Lib.hid hS; have H1 := Lib.hid h1; have H2 := Lib.hid h2; have H3 := Lib.hid h3; have HD := Lib.hid hD
    clear hS h1 h2 h3 hD
    gi_wp2
    refine ⟨by simp, .inl ⟨_, _, rfl, run_takeDeferred HD.out, ?_⟩⟩
    have hz := HZ1.out
    exact ⟨_, results_tmp rfl _ _ _, xs, a, c, rfl, ownsRow_low (ownsRow_put H2.out _ HD.out rfl) (by omega), HSP.out _ _ _ _ _ HS.out (by omega) HD.out rfl, H3.out.put (by omega) _⟩
end Go.Proofs.YtbonfdkgkcbkmaaGreat
end

section
namespace Go.Proofs.YtbonfdkgkcbkmaaGreat
set_option maxRecDepth 100000
set_option maxRecDepth 100000
open Go.RowKit Go.Shelf

attribute [local go_sem] Oper.semAt_some

/-- What comes of values: what goes on, the cell behind them, why not all. -/
def flowR (o : OpM) : CellV → List Int → List Int × CellV × Int
  | c, [] => ([], c, 0)
  | c, v :: r => if c.count = 9223372036854775807 then ([], c, 6) else
    ((if (stepR o c v).2.2 then [(stepR o c v).2.1] else []) ++ (flowR o (stepR o c v).1 r).1, (flowR o (stepR o c v).1 r).2)
theorem stepR_count {o : OpM} {c : CellV} {v : Int} (h : 0 ≤ c.count) (h' : c.count < 9223372036854775807) : 0 ≤ (stepR o c v).1.count ∧ (stepR o c v).1.count ≤ 9223372036854775807 := by
  unfold stepR
  (repeat' split) <;> simp [CellV.add] <;> omega

/-- What a flow reads and writes. -/
structure FlAt (B ob vb pcb peb cb eb : Nat) (va : Option Addr) (vc : Nat) (o : OpM) (vals : List Int) (c : CellV) (W : World) : Prop where
  op : W.heap[ob]? = some (.cells #[.int .i64 o.tag, .int .i64 o.width, .slice o.ia o.ins.length o.ic, .int .i64 o.a, .int .i64 o.b] 89 (0, 0))
  vs : W.heap[vb]? = some (.cells #[.slice va vals.length vc] 55 (0, 0))
  pc : W.heap[pcb]? = some (.cells #[.pointer (some ⟨cb, 0, none⟩)] 286 (0, 0))
  pe : W.heap[peb]? = some (.cells #[.pointer (some ⟨eb, 0, none⟩)] 287 (0, 0))
  cell : W.heap[cb]? = some (.cells #[.int .i64 c.count, .int .i64 c.sum] 61 (0, 0))
  err : W.heap[eb]? = some (.cells #[.int .i64 0] 33 (0, 0))
  vals : IntsIn W va vals
  low : ob < B ∧ vb < B ∧ pcb < B ∧ peb < B ∧ cb < B ∧ eb < B
  valb : ∀ b f, va = some ⟨b, f, none⟩ → b < B ∧ b ≠ cb ∧ b ≠ eb
theorem FlAt.kept {B ob vb pcb peb cb eb : Nat} {va : Option Addr} {vc : Nat} {o : OpM} {vals : List Int} {c : CellV} {W W' : World} {F : Nat → Prop} (h : FlAt B ob vb pcb peb cb eb va vc o vals c W) (hu : Upd F W W') (hF : ∀ k, F k → B ≤ k) : FlAt B ob vb pcb peb cb eb va vc o vals c W' := by
  obtain ⟨l1, l2, l3, l4, l5, l6⟩ := h.low
  have k : ∀ {j p}, j < B → W.heap[j]? = some p → W'.heap[j]? = some p := fun hj hp => (hu.block _ (lt_of_heap hp) (fun e => by have := hF _ e; omega)).trans hp
  refine ⟨k l1 h.op, k l2 h.vs, k l3 h.pc, k l4 h.pe, k l5 h.cell, k l6 h.err, fun i x hx => ?_, h.low, h.valb⟩
  obtain ⟨h0, b, f, e, hc⟩ := h.vals i x hx
  exact ⟨h0, b, f, e, fun t u ht => cell_keptF hu (fun e2 => by have h1 : B ≤ b := hF _ e2; have := (h.valb b f e).1; omega) (hc t u ht)⟩
theorem FlAt.put {B ob vb pcb peb cb eb : Nat} {va : Option Addr} {vc : Nat} {o : OpM} {vals : List Int} {c c' : CellV} {W : World} (h : FlAt B ob vb pcb peb cb eb va vc o vals c W) :
    FlAt B ob vb pcb peb cb eb va vc o vals c' ((W.setCell ⟨cb, 0, none⟩ (.int .i64 c'.count)).setCell ⟨cb, 1, none⟩ (.int .i64 c'.sum)) := by
  obtain ⟨p1, p2⟩ := put2 (u := .int .i64 c'.count) (v := .int .i64 c'.sum) h.cell
  have k : ∀ {j : Nat} {cs : Array Value} {t : TypeId}, W.heap[j]? = some (.cells cs t (0, 0)) → t ≠ 61 → ((W.setCell ⟨cb, 0, none⟩ (.int .i64 c'.count)).setCell ⟨cb, 1, none⟩ (.int .i64 c'.sum)).heap[j]? = some (.cells cs t (0, 0)) := fun {j cs t} hp ht => (p2.block _ (lt_of_heap hp) (fun e => by
    subst e
    have := h.cell
    rw [hp] at this
    injection this with this
    injection this with _ this
    exact ht this)).trans hp
  refine ⟨k h.op (by decide), k h.vs (by decide), k h.pc (by decide), k h.pe (by decide), p1, k h.err (by decide), fun i x hx => ?_, h.low, h.valb⟩
  obtain ⟨h0, b, f, e, hc⟩ := h.vals i x hx
  exact ⟨h0, b, f, e, fun t u ht => cell_keptF p2 (fun e2 => (h.valb b f e).2.1 e2) (hc t u ht)⟩

theorem noPanic_ret {Q : Exit → Act → World → Prop} {a : Act} {w : World} (h : Q .ret a w) : noPanic Q .ret a w := h
theorem noPanic_end {Q : Exit → Act → World → Prop} {a : Act} {w : World} (h : Q .normal a w) : noPanic Q .normal a w := h
def flowT (cb eb : Nat) : Nat → TypeId → Prop := fun k t => (k = cb ∧ t = 61) ∨ (k = eb ∧ t = 33)
set_option maxHeartbeats 8000000 in
theorem flow1_any {B ob vb pcb peb cb eb : Nat} {va : Option Addr} {vc : Nat} {o : OpM} {vals : List Int} {c0 : CellV} {Φb : Nat → TypeId → Prop} (hB : ∀ k t, Φb k t → B ≤ k ∧ t ≠ 400) (ht : 1 ≤ o.tag ∧ o.tag ≤ 7) (ha : o.a ≤ 9223372036854775807) (hvl : vals.length < 1000) (hc0 : 0 ≤ c0.count ∧ c0.count ≤ 9223372036854775807)
    (l : Nat) (J : List Int → World → Prop) (Jx : World → Prop) (W : World) (hfl : FlAt B ob vb pcb peb cb eb va vc o vals c0 W) (hBW : B < W.heap.size) (h0 : J [] W) (hJ : ∀ pre W W', B < W.heap.size → J pre W → UpdT (flowT cb eb) W W' → J pre W') (hJx : ∀ W W', B < W.heap.size → Jx W → UpdT (flowT cb eb) W W' → Jx W')
    (hY : ∀ pre x W1, B < W1.heap.size → J pre W1 → pre.length < 1000 → YieldAt Fence.wide 3 Tryz.prog l #[.int .i64 x] W1 fun e W' => (e = .returned (.bool true) ∧ J (pre ++ [x]) W' ∧ UpdT Φb W1 W') ∨ (e = .returned (.bool false) ∧ Jx W')) :
    CallsIn Fence.wide 4 Tryz.prog 254 #[.func (.yield l) #[] #[], .pointer (some ⟨ob, 0, none⟩), .pointer (some ⟨vb, 0, none⟩), .pointer (some ⟨pcb, 0, none⟩), .pointer (some ⟨peb, 0, none⟩)] W fun e W' => (∃ v, e = .returned v) ∧
      ((∃ xs, (∃ cf ef, flowR o c0 vals = (xs, cf, ef) ∧ W'.heap[cb]? = some (.cells #[.int .i64 cf.count, .int .i64 cf.sum] 61 (0, 0)) ∧ W'.heap[eb]? = some (.cells #[.int .i64 ef] 33 (0, 0))) ∧ J xs W') ∨ Jx W') := by
  have HFL := Lib.hid hfl; have HY := Lib.hid hY; have HJ := Lib.hid hJ; have HJX := Lib.hid hJx; have H0 := Lib.hid h0; have HB := Lib.hid hB; have HBW := Lib.hid hBW
  clear hfl hY hJ hJx h0 hB hBW
  refine callsIn_of_wp Tryz.func254 rfl trivial ?_ rfl
  simp only [Tryz.ntmps254, List.size_toArray, List.length_cons, List.length_nil, Nat.reduceAdd, Nat.reduceSub, Array.replicate_succ, Array.replicate_zero, List.push_toArray, List.append_toArray, List.nil_append, List.cons_append]
  refine wpIn_mono ?_ noPanic_of
  refine wpIn_wide.2 ?_
  go_upto_region 0 with fail
  have hA : Upd0 W W.drew := (Upd.refl _ _).drew
  have hidx : ∀ (fb : Nat) (w : World), (Instr.index 345 (.agg (stepsV fb).toArray) (.int .i64 o.tag)).run Tryz.prog w = .ok (.func (.func (stepN o.tag)) #[] (stepL o.tag fb)) w := fun fb w => by
    have h := stepsV_at fb ht
    obtain ⟨k, hk⟩ : ∃ k : Nat, o.tag = k := ⟨o.tag.toNat, by omega⟩
    rw [hk] at h ⊢
    have hk7 : 1 ≤ k ∧ k ≤ 7 := by omega
    clear hk
    match k, hk7 with
    | 1, _ => rfl
    | 2, _ => rfl
    | 3, _ => rfl
    | 4, _ => rfl
    | 5, _ => rfl
    | 6, _ => rfl
    | 7, _ => rfl
  have HIDX := Lib.hid hidx
  clear hidx
  refine wp_region_G 4 (fun W' => Upd0 W W') [false, false, false, false, false] rfl (by kernel_rfl) ?_
  generalize W.drew = wd at hA ⊢
  refine wpG_takeT (i := 1) (v := .pointer (some ⟨ob, 0, none⟩)) rfl (fun L hc h => (hc.waits (n := 4) (i := 1) (by kernel_rfl) h)) (by kernel_rfl) (fun _ _ _ h => h) hA (.inl ⟨rfl, fun w5 q1 => ?_⟩) ?_
  · go_simp
  simp only [Act.put, List.setIfInBounds_toArray, List.set]
  refine wpG_takeT (i := 2) (v := .int .i64 o.tag) rfl (fun L hc h => (hc.waits (n := 4) (i := 2) (by kernel_rfl) h)) (by kernel_rfl) (fun _ _ _ h => h) hA (.inl ⟨rfl, fun w5 q1 => ?_⟩) ?_
  · obtain ⟨c0, c1, c2, c3, c4⟩ := cells5_of ((q1.block _ (lt_of_heap HFL.out.op) (fun e => e)).trans HFL.out.op)
    go_simp
  simp only [Act.put, List.setIfInBounds_toArray, List.set]
  refine wpG_doIf (i := 0) rfl (by kernel_rfl) rfl (fun K hK => ?_)
  have HKK := Lib.hid hK
  clear hK
  go_step
  refine (steps_any wd).mono ?_
  rintro e w6 ⟨fb, rfl, hfb, hu6⟩
  have HFB := Lib.hid hfb
  have hA2 := hA.trans hu6
  clear hfb hu6
  simp only []
  refine HKK.out _ _ hA2 ?_
  clear HKK
  simp only [Act.put, List.setIfInBounds_toArray, List.set]
  refine wpG_takeT (i := 3) (v := .func (.func (stepN o.tag)) #[] (stepL o.tag fb)) rfl (fun L hc h => (hc.waits (n := 4) (i := 3) (by kernel_rfl) h)) (by kernel_rfl) (fun _ _ _ h => h) hA2 (.inl ⟨rfl, fun w5 q1 => ?_⟩) ?_
  · have hidx := HIDX.out fb
    go_simp
  simp only [Act.put, List.setIfInBounds_toArray, List.set]
  refine wpG_tail_lit (k := 4) rfl rfl (by kernel_rfl) ?_
  simp only [List.drop]
  have HF6 := Lib.hid (HFL.out.kept hA2 (fun _ e => e.elim))
  have HJ6 := Lib.hid (HJ.out _ _ _ HBW.out H0.out (UpdT.of0 hA2))
  have HB6 := Lib.hid (show B < w6.heap.size by have := hA2.size; have := HBW.out; omega)
  have d0 := cells1_of HF6.out.vs
  clear hA hA2 H0 HFL HIDX HBW
  go_wp2
  clear d0
  go_loopw [18] (fun i wr => ∃ (k : Nat) (c : CellV) (pre : List Int), k ≤ vals.length ∧ i = .int .i64 k ∧ Hid (FlAt B ob vb pcb peb cb eb va vc o vals c wr) ∧ Hid (wr.heap[fb]? = some (.cells #[.func (.func 320) #[] #[]] 400 (0, 0))) ∧ Hid (J pre wr) ∧ (0 ≤ c.count ∧ c.count ≤ 9223372036854775807) ∧ Hid (pre.length ≤ k ∧ flowR o c0 vals = (pre ++ (flowR o c (vals.drop k)).1, (flowR o c (vals.drop k)).2)) ∧ Hid (B < wr.heap.size)) (fun i _ => vals.length - (intOf i).toNat)
  case atStart => exact ⟨0, c0, [], Nat.zero_le _, rfl, HF6, HFB, HJ6, hc0, Lib.hid ⟨Nat.le_refl _, rfl⟩, HB6⟩
  case round =>
    clear HF6 HFB HJ6 HB6
    obtain ⟨k, c, pre, hk, rfl, HFL, HFB, HJW, hcc, HPR, HBW⟩ := hrel
    by_cases hlt : k < vals.length
    · obtain ⟨v, hv⟩ : ∃ v, vals[k]? = some v := ⟨_, List.getElem?_eq_getElem hlt⟩
      obtain ⟨b1, o1, hva, hc1⟩ := HFL.out.vals.cell hv
      have HPR2 : Hid (pre.length ≤ k ∧ flowR o c0 vals = (pre ++ (flowR o c (v :: vals.drop (k + 1))).1, (flowR o c (v :: vals.drop (k + 1))).2)) := by
        have := HPR
        rw [drop_cons hv] at this
        exact this
      have e0 := cells1_of HFL.out.pc
      have e1 := cells1_of HFL.out.pe
      obtain ⟨e2, e3⟩ := cells2_of HFL.out.cell
      have e4 := cells1_of HFL.out.err
      subst hva
      clear hv HPR
      by_cases hfull : c.count = 9223372036854775807
      · have hf1 : (c.count == 9223372036854775807) = true := by simpa using hfull
        have f0 : wr.frozen? ⟨eb, 0, none⟩ = false := frozen_of_heap HFL.out.err
        have HFU := Lib.hid hfull
        clear hfull
        go_wp2
        refine noPanic_ret (bodyPost_ret (results_none rfl _ _ _) rfl (And.intro ⟨_, rfl⟩ (.inl ⟨pre, ⟨c, 6, ?_, ?_, ?_⟩, ?_⟩)))
        · rw [HPR2.out.2, flowR, if_pos HFU.out, List.append_nil]
        · exact (set_ne (by show cb ≠ eb; intro e; subst e; have h1 := HFL.out.cell; have h2 := HFL.out.err; rw [h1] at h2; injection h2 with h2; injection h2 with _ h2; exact absurd h2 (by decide))).trans HFL.out.cell
        · have := blk_set (i := 0) (v := .int .i64 6) HFL.out.err
          simpa using this
        · exact HJ.out _ _ _ HBW.out HJW.out ((upd_own wr eb 0 _).mono (fun j hj e => by subst e; exact ⟨_, _, _, HFL.out.err, .inr ⟨rfl, rfl⟩⟩))
      · have hf1 : (c.count == 9223372036854775807) = false := by simpa using hfull
        have HFU := Lib.hid hfull
        clear hfull
        go_upto_region 6 with fail
        clear e0 e1 e2 e3 e4 hc1
        obtain ⟨sr, hsr⟩ : ∃ sr, sr = stepR o c v := ⟨_, rfl⟩
        obtain ⟨c', out, comes⟩ := sr
        have HSR := Lib.hid hsr
        clear hsr
        have hcl : c.count < 9223372036854775807 := by have := HFU.out; omega
        have HCC := Lib.hid (show 0 ≤ c'.count ∧ c'.count ≤ 9223372036854775807 by have := stepR_count (o := o) (v := v) hcc.1 hcl; rw [← HSR.out] at this; exact this)
        go_cut [9, 10, 11] from 29 to 39 (fun v9 v10 v11 wx => ∃ bo, v9 = .pointer (some ⟨bo, 0, none⟩) ∧ v10 = .int .i64 out ∧ v11 = .bool comes ∧ wx.heap[bo]? = some (.cells #[.int .i64 c'.count, .int .i64 c'.sum] 61 (0, 0)) ∧ Upd0 wr wx ∧ wr.heap.size ≤ bo)
        case first =>
          have hA : Upd0 wr wr.drew := (Upd.refl _ _).drew
          have HU := Lib.hid hA
          have eg := stepN_enters o.tag
          refine wp_region_G 12 (fun W => Upd0 wr W) [false, false, false, false, false, false, false, false, false, false, false, false, false, false, false] rfl (by kernel_rfl) ?_
          generalize wr.drew = we at hA HU ⊢
          refine wpG_takeT (i := 0) (v := .func (.func (stepN o.tag)) #[] (stepL o.tag fb)) rfl (fun L hc h => (hc.waits (n := 12) (i := 0) (by kernel_rfl) h)) (by kernel_rfl) (fun _ _ _ h => h) hA (.inl ⟨rfl, fun w5 q1 => ?_⟩) ?_
          · go_simp
          simp only [Act.put, List.setIfInBounds_toArray, List.set]
          refine wpG_takeT (i := 1) (v := .agg #[.int .i64 o.tag, .int .i64 o.width, .slice o.ia o.ins.length o.ic, .int .i64 o.a, .int .i64 o.b]) rfl (fun L hc h => (hc.waits (n := 12) (i := 1) (by kernel_rfl) h)) (by kernel_rfl) (fun _ _ _ h => h) hA (.inl ⟨rfl, fun w5 q1 => ?_⟩) ?_
          · obtain ⟨c0, c1, c2, c3, c4⟩ := cells5_of ((q1.block _ (lt_of_heap HFL.out.op) (fun e => e)).trans HFL.out.op)
            go_simp
          simp only [Act.put, List.setIfInBounds_toArray, List.set]
          refine wpG_takeT (i := 2) (v := .pointer (some ⟨cb, 0, none⟩)) rfl (fun L hc h => (hc.waits (n := 12) (i := 2) (by kernel_rfl) h)) (by kernel_rfl) (fun _ _ _ h => h) hA (.inl ⟨rfl, fun w5 q1 => ?_⟩) ?_
          · have c0 := cells1_of ((q1.block _ (lt_of_heap HFL.out.pc) (fun e => e)).trans HFL.out.pc)
            go_simp
          simp only [Act.put, List.setIfInBounds_toArray, List.set]
          refine wpG_takeT (i := 3) (v := .pointer (some ⟨cb, 0, none⟩)) rfl (fun L hc h => (hc.waits (n := 12) (i := 3) (by kernel_rfl) h)) (by kernel_rfl) (fun _ _ _ h => h) hA (.inl ⟨rfl, fun w5 q1 => ?_⟩) ?_
          · go_simp
          simp only [Act.put, List.setIfInBounds_toArray, List.set]
          refine wpG_takeT (i := 4) (v := .agg #[.int .i64 c.count, .int .i64 c.sum]) rfl (fun L hc h => (hc.waits (n := 12) (i := 4) (by kernel_rfl) h)) (by kernel_rfl) (fun _ _ _ h => h) hA (.inl ⟨rfl, fun w5 q1 => ?_⟩) ?_
          · obtain ⟨c0, c1⟩ := cells2_of ((q1.block _ (lt_of_heap HFL.out.cell) (fun e => e)).trans HFL.out.cell)
            go_simp
          simp only [Act.put, List.setIfInBounds_toArray, List.set]
          refine wpG_takeT (i := 5) (v := .int .i64 v) rfl (fun L hc h => (hc.waits (n := 12) (i := 5) (by kernel_rfl) h)) (by kernel_rfl) (fun _ _ _ h => h) hA (.inl ⟨rfl, fun w5 q1 => ?_⟩) ?_
          · go_simp
          simp only [Act.put, List.setIfInBounds_toArray, List.set]
          refine wpG_do2 (i := 6) (j := 11) rfl rfl (by kernel_rfl) rfl rfl (fun K hK => ?_) (fun K hK => ?_)
          · have HKK := Lib.hid hK
            clear hK
            go_step
            refine (step_any o c v we ((hA.block _ (lt_of_heap HFB.out) (fun e => e)).trans HFB.out) hcc.1 hcl ha).mono ?_
            rintro e weN ⟨rfl, g2⟩
            rw [← HSR.out]
            have hA := hA.trans g2
            have HU := Lib.hid hA
            clear g2
            simp only []
            refine HKK.out _ _ hA ?_
            clear HKK
            simp only [Act.put, List.setIfInBounds_toArray, List.set]
            refine wpG_takeT (i := 7) (v := .tuple #[.agg #[.int .i64 c'.count, .int .i64 c'.sum], .int .i64 out, .bool comes]) rfl (fun L hc h => (hc.waits (n := 12) (i := 7) (by kernel_rfl) h)) (by kernel_rfl) (fun _ _ _ h => h) hA (.inl ⟨rfl, fun w5 q1 => ?_⟩) ?_
            · go_simp
            simp only [Act.put, List.setIfInBounds_toArray, List.set]
            refine wpG_takeT (i := 8) (v := .agg #[.int .i64 c'.count, .int .i64 c'.sum]) rfl (fun L hc h => (hc.waits (n := 12) (i := 8) (by kernel_rfl) h)) (by kernel_rfl) (fun _ _ _ h => h) hA (.inl ⟨rfl, fun w5 q1 => ?_⟩) ?_
            · go_simp
            simp only [Act.put, List.setIfInBounds_toArray, List.set]
            refine wpG_takeP (i := 9) (v := .int .i64 out) rfl (by kernel_rfl) (fun _ _ _ h => h) hA (.inl ⟨rfl, fun w5 q1 => ?_⟩) ?_
            · go_simp
            simp only [Act.put, List.setIfInBounds_toArray, List.set]
            refine wpG_takeP (i := 10) (v := .bool comes) rfl (by kernel_rfl) (fun _ _ _ h => h) hA (.inl ⟨rfl, fun w5 q1 => ?_⟩) ?_
            · go_simp
            simp only [Act.put, List.setIfInBounds_toArray, List.set]
            refine wpG_do (i := 11) rfl (by kernel_rfl) rfl (fun K hK => ?_)
            have HKK := Lib.hid hK
            clear hK
            go_step
            have ua : Upd (fun _ => False) weN (weN.alloc (.cells #[.int .i64 0, .int .i64 0] 61)) := (Upd.refl _ _).alloc _
            have HB6 := Lib.hid HU.out.size
            have HX := Lib.hid (alloc_at (w := weN) (o := .cells #[.int .i64 0, .int .i64 0] 61) rfl)
            have hA := hA.trans ua
            have HU := Lib.hid (HU.out.trans ua)
            clear ua
            refine HKK.out _ _ hA ?_
            clear HKK
            simp only [Act.put, List.setIfInBounds_toArray, List.set]
            generalize weN.alloc (.cells #[.int .i64 0, .int .i64 0] 61) = weNX at HX hA HU ⊢
            generalize weN.heap.size = bo at HX HB6 ⊢
            refine wpG_tail_lit (k := 12) rfl rfl (by kernel_rfl) ?_
            simp only [List.drop]
            have f0 : weNX.frozen? ⟨bo, 0, none⟩ = false := frozen_of_heap HX.out
            have f1 : weNX.frozen? ⟨bo, 1, none⟩ = false := frozen_of_heap HX.out
            obtain ⟨d0, d1⟩ := cells2_of HX.out
            go_wp2
            go_meet
            case rel =>
              obtain ⟨p1, p2⟩ := put2 (u := .int .i64 c'.count) (v := .int .i64 c'.sum) HX.out
              exact ⟨bo, rfl, rfl, rfl, p1, hA.step p2 (fun k hk e => by have := HB6.out; omega), HB6.out⟩
          · have HKK := Lib.hid hK
            clear hK
            go_step
            have ua : Upd (fun _ => False) we (we.alloc (.cells #[.int .i64 0, .int .i64 0] 61)) := (Upd.refl _ _).alloc _
            have HB6 := Lib.hid HU.out.size
            have HX := Lib.hid (alloc_at (w := we) (o := .cells #[.int .i64 0, .int .i64 0] 61) rfl)
            have hA := hA.trans ua
            have HU := Lib.hid (HU.out.trans ua)
            clear ua
            refine HKK.out _ _ hA ?_
            clear HKK
            simp only [Act.put, List.setIfInBounds_toArray, List.set]
            generalize we.alloc (.cells #[.int .i64 0, .int .i64 0] 61) = weX at HX hA HU ⊢
            generalize we.heap.size = bo at HX HB6 ⊢
            refine wpG_do (i := 6) rfl (by kernel_rfl) rfl (fun K hK => ?_)
            have HKK := Lib.hid hK
            clear hK
            go_step
            refine (step_any o c v weX ((hA.block _ (lt_of_heap HFB.out) (fun e => e)).trans HFB.out) hcc.1 hcl ha).mono ?_
            rintro e weXN ⟨rfl, g2⟩
            rw [← HSR.out]
            have hA := hA.trans g2
            have HU := Lib.hid hA
            have HX := Lib.hid ((g2.block _ (lt_of_heap HX.out) (fun e => e)).trans HX.out)
            clear g2
            simp only []
            refine HKK.out _ _ hA ?_
            clear HKK
            simp only [Act.put, List.setIfInBounds_toArray, List.set]
            refine wpG_takeT (i := 7) (v := .tuple #[.agg #[.int .i64 c'.count, .int .i64 c'.sum], .int .i64 out, .bool comes]) rfl (fun L hc h => (hc.waits (n := 12) (i := 7) (by kernel_rfl) h)) (by kernel_rfl) (fun _ _ _ h => h) hA (.inl ⟨rfl, fun w5 q1 => ?_⟩) ?_
            · go_simp
            simp only [Act.put, List.setIfInBounds_toArray, List.set]
            refine wpG_takeT (i := 8) (v := .agg #[.int .i64 c'.count, .int .i64 c'.sum]) rfl (fun L hc h => (hc.waits (n := 12) (i := 8) (by kernel_rfl) h)) (by kernel_rfl) (fun _ _ _ h => h) hA (.inl ⟨rfl, fun w5 q1 => ?_⟩) ?_
            · go_simp
            simp only [Act.put, List.setIfInBounds_toArray, List.set]
            refine wpG_takeP (i := 9) (v := .int .i64 out) rfl (by kernel_rfl) (fun _ _ _ h => h) hA (.inl ⟨rfl, fun w5 q1 => ?_⟩) ?_
            · go_simp
            simp only [Act.put, List.setIfInBounds_toArray, List.set]
            refine wpG_takeP (i := 10) (v := .bool comes) rfl (by kernel_rfl) (fun _ _ _ h => h) hA (.inl ⟨rfl, fun w5 q1 => ?_⟩) ?_
            · go_simp
            simp only [Act.put, List.setIfInBounds_toArray, List.set]
            refine wpG_tail_lit (k := 12) rfl rfl (by kernel_rfl) ?_
            simp only [List.drop]
            have f0 : weXN.frozen? ⟨bo, 0, none⟩ = false := frozen_of_heap HX.out
            have f1 : weXN.frozen? ⟨bo, 1, none⟩ = false := frozen_of_heap HX.out
            obtain ⟨d0, d1⟩ := cells2_of HX.out
            go_wp2
            go_meet
            case rel =>
              obtain ⟨p1, p2⟩ := put2 (u := .int .i64 c'.count) (v := .int .i64 c'.sum) HX.out
              exact ⟨bo, rfl, rfl, rfl, p1, hA.step p2 (fun k hk e => by have := HB6.out; omega), HB6.out⟩
        case rest =>
          obtain ⟨bo, rfl, rfl, rfl, hx, hu, hbo⟩ := hcut
          have HF2 := Lib.hid (HFL.out.kept hu (fun _ e => e.elim))
          have HFB2 := Lib.hid ((hu.block _ (lt_of_heap HFB.out) (fun e => e)).trans HFB.out)
          have HJ2 := Lib.hid (HJ.out _ _ _ HBW.out HJW.out (UpdT.of0 hu))
          have HBW2 := Lib.hid (show B < wc.heap.size by have := HBW.out; have := hu.size; omega)
          have e0 := cells1_of HF2.out.pc
          obtain ⟨e2, e3⟩ := cells2_of HF2.out.cell
          obtain ⟨x0, x1⟩ := cells2_of hx
          have f0 : wc.frozen? ⟨cb, 0, none⟩ = false := frozen_of_heap HF2.out.cell
          have f1 : wc.frozen? ⟨cb, 1, none⟩ = false := frozen_of_heap HF2.out.cell
          clear hx hu hbo HFL HFB HJW HBW
          go_upto_region 8 with fail
          obtain ⟨w7, hw7⟩ : ∃ w7, w7 = (wc.setCell ⟨cb, 0, none⟩ (.int .i64 c'.count)).setCell ⟨cb, 1, none⟩ (.int .i64 c'.sum) := ⟨_, rfl⟩
          rw [← hw7]
          have hu7 : Upd (fun j => j = cb) wc w7 := by rw [hw7]; exact (upd_own _ _ _ _).trans (upd_own _ _ _ _)
          have HF7 := Lib.hid (show FlAt B ob vb pcb peb cb eb (some ⟨b1, o1, none⟩) vc o vals c' w7 by rw [hw7]; exact HF2.out.put)
          have HFB7 := Lib.hid ((hu7.block _ (lt_of_heap HFB2.out) (fun e => by subst e; have h1 := HF2.out.cell; rw [HFB2.out] at h1; injection h1 with h1; injection h1 with _ h1; exact absurd h1 (by decide))).trans HFB2.out)
          have HJ7 := Lib.hid (HJ.out _ _ _ HBW2.out HJ2.out (hu7.mono (fun j hj e => by subst e; exact ⟨_, _, _, HF2.out.cell, .inl ⟨rfl, rfl⟩⟩)))
          have HBW7 := Lib.hid (show B < w7.heap.size by have := HBW2.out; have := hu7.size; omega)
          have HFL3 : Hid (flowR o c (v :: vals.drop (k + 1)) = ((if comes then [out] else []) ++ (flowR o c' (vals.drop (k + 1))).1, (flowR o c' (vals.drop (k + 1))).2)) := Lib.hid (by rw [flowR, if_neg HFU.out, ← HSR.out])
          clear hw7 hu7 HF2 HFB2 HJ2 HBW2 e0 e2 e3 x0 x1 f0 f1
          cases comes
          · go_wp2
            go_roundw
            case rel =>
              refine ⟨k + 1, c', pre, by omega, by go_num, HF7, HFB7, HJ7, HCC.out, Lib.hid ⟨by have := HPR2.out.1; omega, ?_⟩, HBW7⟩
              rw [HPR2.out.2, HFL3.out]
              rfl
            case measure => simp [intOf]; omega
          · have hJy := HY.out pre out w7 HBW7.out HJ7.out (by have := HPR2.out.1; omega)
            obtain ⟨fn, tmps, assign, body, hy, hR⟩ := hJy
            skip
            have HRR := Lib.hid hR
            clear hR
            refine (wpIn_wide (n := 4)).1 ?_
            gi_wp2_with (fail)
            refine HRR.out.mono ?_
            rintro e w8 (⟨rfl, hJ8, hu8⟩ | ⟨rfl, hx8⟩)
            · have HF8 := Lib.hid (HF7.out.kept hu8 (fun j ⟨cs, t, fr, _, p⟩ => (HB.out j t p).1))
              have HFB8 := Lib.hid (hu8.keep HFB7.out (fun cs t fr e p => by injection e with _ e; subst e; exact (HB.out _ _ p).2 rfl))
              have HJ8 := Lib.hid hJ8
              have HBW8 := Lib.hid (show B < w8.heap.size by have := HBW7.out; have := hu8.size; omega)
              clear hJ8 hu8 HF7 HFB7 HJ7 hy HRR
              simp only []
              gi_wp2
              go_wp2
              go_roundw
              case rel =>
                refine ⟨k + 1, c', pre ++ [out], by omega, by go_num, HF8, HFB8, HJ8, HCC.out, Lib.hid ⟨by have := HPR2.out.1; simp; omega, ?_⟩, HBW8⟩
                rw [HPR2.out.2, HFL3.out]
                simp
              case measure => simp [intOf]; omega
            · have HX8 := Lib.hid hx8
              clear hx8 HF7 HFB7 HJ7 hy HRR
              simp only []
              gi_wp2
              go_wp2
              exact noPanic_ret (bodyPost_ret (results_none rfl _ _ _) rfl (And.intro ⟨_, rfl⟩ (.inr HX8.out)))
    · obtain rfl : k = vals.length := by omega
      have HPR2 := HPR
      rw [List.drop_of_length_le (Nat.le_refl _)] at HPR2
      go_wp2
      refine noPanic_end (bodyPost_end (results_none rfl _ _ _) rfl (And.intro ⟨_, rfl⟩ (.inl ⟨pre, ⟨c, 0, ?_, HFL.out.cell, HFL.out.err⟩, HJW.out⟩)))
      rw [HPR2.out.2, flowR, List.append_nil]
end Go.Proofs.YtbonfdkgkcbkmaaGreat
end

section
namespace Go.Proofs.YtbonfdkgkcbkmaaGreat
set_option maxRecDepth 100000
set_option maxRecDepth 100000
open Go.RowKit Go.Shelf

theorem run_store_ptr {P : Program} {w : World} {a : Addr} {p : Option Addr} : (store a (.pointer p)).run P w = stored P w a (.pointer p) .plain := run_store P w a _ _ rfl
theorem flow_any (o : OpM) {cb eb : Nat} {va : Option Addr} {n vc : Nat} (w : World) : Calls Tryz.prog 184 #[.agg #[.int .i64 o.tag, .int .i64 o.width, .slice o.ia o.ins.length o.ic, .int .i64 o.a, .int .i64 o.b], .pointer (some ⟨cb, 0, none⟩), .pointer (some ⟨eb, 0, none⟩), .slice va n vc] w fun e w' =>
    e = .returned (.func (.func 254) #[] #[.pointer (some ⟨w.heap.size, 0, none⟩), .pointer (some ⟨w.heap.size + 3, 0, none⟩), .pointer (some ⟨w.heap.size + 1, 0, none⟩), .pointer (some ⟨w.heap.size + 2, 0, none⟩)]) ∧
    w' = (((w.alloc (.cells #[.int .i64 o.tag, .int .i64 o.width, .slice o.ia o.ins.length o.ic, .int .i64 o.a, .int .i64 o.b] 89)).alloc (.cells #[.pointer (some ⟨cb, 0, none⟩)] 286)).alloc (.cells #[.pointer (some ⟨eb, 0, none⟩)] 287)).alloc (.cells #[.slice va n vc] 55) := by
  go_enter Tryz.func184, Tryz.ntmps184
  go_wp2
  go_ret
  exact ⟨rfl, rfl⟩

/-- A cell behind values, and what comes of them. -/
def runR (o : OpM) (c : CellV) (vals : List Int) : CellV × List Int × Int :=
  if rightI o c ≠ 0 then (⟨0, 0⟩, [], rightI o c)
  else if (flowR o c vals).2.2 ≠ 0 then (⟨0, 0⟩, [], (flowR o c vals).2.2)
  else ((flowR o c vals).2.1, (flowR o c vals).1, 0)
theorem rightI_zero {o : OpM} {c : CellV} (h : rightI o c = 0) : (1 ≤ o.tag ∧ o.tag ≤ 7) ∧ 0 ≤ c.count := by
  unfold rightI at h
  split at h
  · rename_i h1
    split at h
    · rename_i h2
      constructor
      · simp only [OpM.alone, Bool.and_eq_true] at h1
        have hk := h1.2
        unfold kindB at hk
        (repeat' split at hk) <;> first | omega | (simp at hk)
      · unfold fitsB CellV.none at h2
        split at h2 <;> simp at h2 <;> omega
    · omega
  · omega

set_option maxHeartbeats 1000000 in
theorem run_any (o : OpM) (c : CellV) {vals : List Int} {va : Option Addr} {vc : Nat} (w : World) (h : IntsIn w o.ia o.ins) (hl : o.ins.length ≤ 140737488351232) (hv : IntsIn w va vals) (hvl : vals.length < 1000) (ha : o.a ≤ 9223372036854775807) (hc : c.count ≤ 9223372036854775807) (hvw : ∀ b f, va = some ⟨b, f, none⟩ → b < w.heap.size) :
    Calls Tryz.prog 103 #[.agg #[.int .i64 o.tag, .int .i64 o.width, .slice o.ia o.ins.length o.ic, .int .i64 o.a, .int .i64 o.b], .agg #[.int .i64 c.count, .int .i64 c.sum], .slice va vals.length vc] w fun e w' => ∃ a k, e = .returned (.tuple #[.agg #[.int .i64 (runR o c vals).1.count, .int .i64 (runR o c vals).1.sum], .slice a (runR o c vals).2.1.length k, .int .i64 (runR o c vals).2.2]) ∧ OwnI w' w.heap.size 2 (.slice a (runR o c vals).2.1.length k) (runR o c vals).2.1 ∧ Upd0 w w' := by
  have HRR := Lib.hid (runR.eq_1 o c vals)
  obtain ⟨rr, hrr⟩ : ∃ rr, rr = rightI o c := ⟨_, rfl⟩
  obtain ⟨wb, hwb⟩ : ∃ wb, wb = ((w.alloc (.cells #[.int .i64 o.tag, .int .i64 o.width, .slice o.ia o.ins.length o.ic, .int .i64 o.a, .int .i64 o.b] 89)).alloc (.cells #[.int .i64 c.count, .int .i64 c.sum] 61)).alloc (.cells #[.int .i64 0, .int .i64 0] 61) := ⟨_, rfl⟩
  have HU := Lib.hid (show Upd0 w wb by rw [hwb]; exact (((Upd.refl _ w).alloc _).alloc _).alloc _)
  have HX1 := Lib.hid (show wb.heap[w.heap.size]? = some (.cells #[.int .i64 o.tag, .int .i64 o.width, .slice o.ia o.ins.length o.ic, .int .i64 o.a, .int .i64 o.b] 89 (0, 0)) by rw [hwb]; exact (alloc_lt (by simp <;> omega)).trans ((alloc_lt (by simp)).trans (alloc_at rfl)))
  have HX2 := Lib.hid (show wb.heap[w.heap.size + 1]? = some (.cells #[.int .i64 c.count, .int .i64 c.sum] 61 (0, 0)) by rw [hwb]; exact (alloc_lt (by simp <;> omega)).trans (alloc_at (by simp)))
  have HX3 := Lib.hid (show wb.heap[w.heap.size + 1 + 1]? = some (.cells #[.int .i64 0, .int .i64 0] 61 (0, 0)) by rw [hwb]; exact alloc_at (by simp))
  have HRI := Lib.hid (right_any o c wb (h.kept HU.out) hl)
  have HV := Lib.hid hv; have HVW := Lib.hid hvw
  rw [← hrr] at HRI HRR
  have HRZ := Lib.hid hrr
  obtain ⟨a0, a1, a2, a3, a4⟩ := cells5_of HX1.out
  obtain ⟨c0, c1⟩ := cells2_of HX2.out
  clear h hv hvw hrr
  go_enter Tryz.func103, Tryz.ntmps103
  go_upto_region 1 with fail
  rw [← hwb]
  clear hwb
  go_wp2_with (go_at_call 182; fail)
  refine HRI.out.mono ?_
  rintro e w2 ⟨rfl, hu2⟩
  have HY1 := Lib.hid ((hu2.block _ (lt_of_heap HX1.out) (fun e => e)).trans HX1.out)
  have HY2 := Lib.hid ((hu2.block _ (lt_of_heap HX2.out) (fun e => e)).trans HX2.out)
  have HY3 := Lib.hid ((hu2.block _ (lt_of_heap HX3.out) (fun e => e)).trans HX3.out)
  have HU2 := Lib.hid (HU.out.trans hu2)
  clear hu2 a0 a1 a2 a3 a4 c0 c1 HX1 HX2 HX3 HU
  simp only []
  go_upto_region 2 with fail
  obtain ⟨w3, hw3⟩ : ∃ w3, w3 = w2.alloc (.cells #[.int .i64 rr] 33) := ⟨_, rfl⟩
  obtain ⟨eb, heb⟩ : ∃ eb, eb = w2.heap.size := ⟨_, rfl⟩
  rw [← hw3, ← heb]
  have hu3 : Upd0 w2 w3 := by rw [hw3]; exact (Upd.refl _ w2).alloc _
  have HE3 := Lib.hid (show w3.heap[eb]? = some (.cells #[.int .i64 rr] 33 (0, 0)) by rw [hw3]; exact alloc_at heb)
  have HZ1 := Lib.hid ((hu3.block _ (lt_of_heap HY1.out) (fun e => e)).trans HY1.out)
  have HZ2 := Lib.hid ((hu3.block _ (lt_of_heap HY2.out) (fun e => e)).trans HY2.out)
  have HZ3 := Lib.hid ((hu3.block _ (lt_of_heap HY3.out) (fun e => e)).trans HY3.out)
  have HU3 := Lib.hid (HU2.out.trans hu3)
  have HEB := Lib.hid (show w.heap.size + 1 + 1 < eb by have := lt_of_heap HY3.out; omega)
  clear hw3 heb hu3 HY1 HY2 HY3 HU2
  have e0 := cells1_of HE3.out
  by_cases hz : rr = 0
  · subst hz
    rw [if_neg (by omega)] at HRR
    have hrz := rightI_zero HRZ.out.symm
    have HT := Lib.hid hrz
    clear hrz
    obtain ⟨a0, a1, a2, a3, a4⟩ := cells5_of HZ1.out
    go_wp2_with (go_at_call 184; fail)
    refine (flow_any o w3).mono ?_
    rintro e w4 ⟨rfl, hw4⟩
    obtain ⟨ob, hob⟩ : ∃ ob, ob = w3.heap.size := ⟨_, rfl⟩
    have hu4 : Upd0 w3 w4 := by rw [hw4]; exact ((((Upd.refl _ w3).alloc _).alloc _).alloc _).alloc _
    have hb1 : w4.heap[ob]? = some (.cells #[.int .i64 o.tag, .int .i64 o.width, .slice o.ia o.ins.length o.ic, .int .i64 o.a, .int .i64 o.b] 89 (0, 0)) := by rw [hw4, hob]; exact (alloc_lt (by simp <;> omega)).trans ((alloc_lt (by simp <;> omega)).trans ((alloc_lt (by simp)).trans (alloc_at rfl)))
    have hb2 : w4.heap[ob + 1]? = some (.cells #[.pointer (some ⟨w.heap.size + 1, 0, none⟩)] 286 (0, 0)) := by rw [hw4, hob]; exact (alloc_lt (by simp <;> omega)).trans ((alloc_lt (by simp <;> omega)).trans (alloc_at (by simp)))
    have hb3 : w4.heap[ob + 2]? = some (.cells #[.pointer (some ⟨eb, 0, none⟩)] 287 (0, 0)) := by rw [hw4, hob]; exact (alloc_lt (by simp <;> omega)).trans (alloc_at (by simp))
    have hb4 : w4.heap[ob + 3]? = some (.cells #[.slice va vals.length vc] 55 (0, 0)) := by rw [hw4, hob]; exact alloc_at (by simp)
    have hc4 := (hu4.block _ (lt_of_heap HZ2.out) (fun e => e)).trans HZ2.out
    have he4 := (hu4.block _ (lt_of_heap HE3.out) (fun e => e)).trans HE3.out
    have HFL := Lib.hid (show FlAt w4.heap.size ob (ob + 3) (ob + 1) (ob + 2) (w.heap.size + 1) eb va vc o vals c w4 from
      ⟨hb1, hb4, hb2, hb3, hc4, he4, HV.out.kept (HU3.out.trans hu4), ⟨lt_of_heap hb1, lt_of_heap hb4, lt_of_heap hb2, lt_of_heap hb3, lt_of_heap hc4, lt_of_heap he4⟩, fun b f e => by
        have h1 := HVW.out b f e
        have h2 := HU3.out.size
        have h3 := hu4.size
        have h4 := HEB.out
        exact ⟨by omega, by omega, by omega⟩⟩)
    have HZ34 := Lib.hid ((hu4.block _ (lt_of_heap HZ3.out) (fun e => e)).trans HZ3.out)
    have HU4 := Lib.hid (HU3.out.trans hu4)
    rw [← hob]
    clear hw4 hu4 hb1 hb2 hb3 hb4 hc4 he4 hob a0 a1 a2 a3 a4 e0 HZ1 HZ2 HE3 HZ3
    simp only []
    go_wp2_with (go_at_call 183; fail)
    refine (collected_any (gf := 254) (lb := #[.pointer (some ⟨ob, 0, none⟩), .pointer (some ⟨ob + 3, 0, none⟩), .pointer (some ⟨ob + 1, 0, none⟩), .pointer (some ⟨ob + 2, 0, none⟩)]) w4 (flowT (w.heap.size + 1) eb) (fun xs W' => ∃ cf ef, flowR o c vals = (xs, cf, ef) ∧ W'.heap[w.heap.size + 1]? = some (.cells #[.int .i64 cf.count, .int .i64 cf.sum] 61 (0, 0)) ∧ W'.heap[eb]? = some (.cells #[.int .i64 ef] 33 (0, 0))) (enters_of Tryz.func254 (by kernel_rfl) rfl)
      (fun k t h _ => by rcases h with ⟨_, h⟩ | ⟨_, h⟩ <;> subst h <;> decide) (fun xs W' l o o' ⟨cf, ef, h1, h2, h3⟩ _ ho hcl => ⟨cf, ef, h1, cells_put o' h2 rfl ho hcl, cells_put o' h3 rfl ho hcl⟩)
      (fun l J Jx W h0 hu hlt hJ hJx hY => flow1_any (Φb := colB w4) (fun k t h => by rcases h with ⟨h, h'⟩ | ⟨h, h'⟩ <;> subst h' <;> exact ⟨by omega, by decide⟩) HT.out.1 ha hvl ⟨HT.out.2, hc⟩ l J Jx W (HFL.out.kept hu (fun _ e => e.elim)) hlt h0 hJ hJx hY)).mono ?_
    rintro e w5 ⟨xs, a5, k5, rfl, ho5, ⟨cf, ef, hfr, hc5, he5⟩, hu5⟩
    have HZ5 := Lib.hid (hu5.keep HZ34.out (fun cs t fr e p => by
      have := HEB.out
      rcases p with ⟨p, _⟩ | ⟨p, _⟩ <;> omega))
    have HU5 := Lib.hid (HU4.out.cut hu5 (fun b ⟨_, _, _, _, p⟩ => by
      have := HEB.out
      rcases p with ⟨p, _⟩ | ⟨p, _⟩ <;> omega))
    have HO5 := Lib.hid (ownsRow_low ho5 HU4.out.size); have HC5 := Lib.hid hc5; have HE5 := Lib.hid he5
    rw [hfr] at HRR
    have e0 := cells1_of he5
    obtain ⟨c0, c1⟩ := cells2_of hc5
    obtain ⟨z0, z1⟩ := cells2_of HZ5.out
    have f0 : w5.frozen? ⟨w.heap.size + 1 + 1, 0, none⟩ = false := frozen_of_heap HZ5.out
    have f1 : w5.frozen? ⟨w.heap.size + 1 + 1, 1, none⟩ = false := frozen_of_heap HZ5.out
    clear ho5 hu5 hc5 he5 hfr HZ34 HU4 HFL
    simp only []
    by_cases hef : ef = 0
    · rw [if_neg (by simpa using hef)] at HRR
      subst hef
      go_wp2
      obtain ⟨p1, p2⟩ := put2 (u := .int .i64 cf.count) (v := .int .i64 cf.sum) HZ5.out
      refine bodyPost_ret (results_ctt (fn := Tryz.f103) rfl rfl (load44 p1)) rfl ⟨a5, k5, ?_, ?_, HU5.out.cut p2 (fun b hb => by omega)⟩
      · rw [HRR.out]; rfl
      · rw [HRR.out]
        refine ownsRow_any HO5.out p2 (fun k hk e => ?_)
        obtain ⟨cur, hcur⟩ := ownsRow_at HO5.out hk
        rw [e, HZ5.out] at hcur
        injection hcur with hcur
        injection hcur with _ hcur
        exact absurd hcur (by decide)
    · rw [if_pos (by simpa using hef)] at HRR
      have hef' : (ef != 0) = true := by simpa using hef
      clear hef
      have hne : eb ≠ w.heap.size + 1 + 1 := by have := HEB.out; omega
      go_wp2
      go_region
      go_wp2
      obtain ⟨p1, p2⟩ := put2 (u := .int .i64 0) (v := .int .i64 0) HZ5.out
      refine bodyPost_ret (results_ctt (fn := Tryz.f103) rfl rfl (load44 p1)) rfl ⟨none, 0, ?_, ?_, HU5.out.cut p2.drew (fun b hb => by omega)⟩
      · rw [HRR.out]; rfl
      · rw [HRR.out]; exact World.ownsRow_nil _ _ _ _
  · have hrr : (rr != 0) = true := by simpa using hz
    rw [if_pos hz] at HRR
    clear hz
    obtain ⟨z0, z1⟩ := cells2_of HZ3.out
    have f0 : w3.frozen? ⟨w.heap.size + 1 + 1, 0, none⟩ = false := frozen_of_heap HZ3.out
    have f1 : w3.frozen? ⟨w.heap.size + 1 + 1, 1, none⟩ = false := frozen_of_heap HZ3.out
    have hne : eb ≠ w.heap.size + 1 + 1 := by have := HEB.out; omega
    go_wp2
    go_region
    go_wp2
    obtain ⟨p1, p2⟩ := put2 (u := .int .i64 0) (v := .int .i64 0) HZ3.out
    refine bodyPost_ret (results_ctt (fn := Tryz.f103) rfl rfl (load44 p1)) rfl ⟨none, 0, ?_, ?_, HU3.out.cut p2.drew (fun b hb => by omega)⟩
    · rw [HRR.out]; rfl
    · rw [HRR.out]; exact World.ownsRow_nil _ _ _ _

/-- As run, if there are not too many values. -/
def RunR (o : OpM) (c : CellV) (vals : List Int) : CellV × List Int × Int := if 40 < vals.length then (⟨0, 0⟩, [], 3) else runR o c vals
set_option maxHeartbeats 1000000 in
theorem runx_any (o : OpM) (c : CellV) {vals : List Int} {va : Option Addr} {vc : Nat} (w : World) (h : IntsIn w o.ia o.ins) (hl : o.ins.length ≤ 140737488351232) (hv : IntsIn w va vals) (hvl : vals.length ≤ 140737488351232) (ha : o.a ≤ 9223372036854775807) (hc : c.count ≤ 9223372036854775807) (hvw : ∀ b f, va = some ⟨b, f, none⟩ → b < w.heap.size) :
    Calls Tryz.prog 38 #[.agg #[.int .i64 o.tag, .int .i64 o.width, .slice o.ia o.ins.length o.ic, .int .i64 o.a, .int .i64 o.b], .agg #[.int .i64 c.count, .int .i64 c.sum], .slice va vals.length vc] w fun e w' => ∃ a k, e = .returned (.tuple #[.agg #[.int .i64 (RunR o c vals).1.count, .int .i64 (RunR o c vals).1.sum], .slice a (RunR o c vals).2.1.length k, .int .i64 (RunR o c vals).2.2]) ∧ OwnI w' w.heap.size 2 (.slice a (RunR o c vals).2.1.length k) (RunR o c vals).2.1 ∧ Upd0 w w' := by
  have HRR := Lib.hid (RunR.eq_1 o c vals)
  obtain ⟨wb, hwb⟩ : ∃ wb, wb = ((w.alloc (.cells #[.int .i64 o.tag, .int .i64 o.width, .slice o.ia o.ins.length o.ic, .int .i64 o.a, .int .i64 o.b] 89)).alloc (.cells #[.int .i64 c.count, .int .i64 c.sum] 61)).alloc (.cells #[.int .i64 0, .int .i64 0] 61) := ⟨_, rfl⟩
  have HU := Lib.hid (show Upd0 w wb by rw [hwb]; exact (((Upd.refl _ w).alloc _).alloc _).alloc _)
  have HX1 := Lib.hid (show wb.heap[w.heap.size]? = some (.cells #[.int .i64 o.tag, .int .i64 o.width, .slice o.ia o.ins.length o.ic, .int .i64 o.a, .int .i64 o.b] 89 (0, 0)) by rw [hwb]; exact (alloc_lt (by simp <;> omega)).trans ((alloc_lt (by simp)).trans (alloc_at rfl)))
  have HX2 := Lib.hid (show wb.heap[w.heap.size + 1]? = some (.cells #[.int .i64 c.count, .int .i64 c.sum] 61 (0, 0)) by rw [hwb]; exact (alloc_lt (by simp <;> omega)).trans (alloc_at (by simp)))
  have HX3 := Lib.hid (show wb.heap[w.heap.size + 1 + 1]? = some (.cells #[.int .i64 0, .int .i64 0] 61 (0, 0)) by rw [hwb]; exact alloc_at (by simp))
  by_cases hn : 40 < vals.length
  · rw [if_pos hn] at HRR
    have hn' : (40 : Int) < vals.length := by omega
    obtain ⟨z0, z1⟩ := cells2_of HX3.out
    have f0 : wb.frozen? ⟨w.heap.size + 1 + 1, 0, none⟩ = false := frozen_of_heap HX3.out
    have f1 : wb.frozen? ⟨w.heap.size + 1 + 1, 1, none⟩ = false := frozen_of_heap HX3.out
    clear h hv hvw
    go_enter Tryz.func38, Tryz.ntmps38
    go_upto_region 1 with fail
    rw [← hwb]
    clear hwb
    go_wp2
    obtain ⟨p1, p2⟩ := put2 (u := .int .i64 0) (v := .int .i64 0) HX3.out
    refine bodyPost_ret (results_ctt (fn := Tryz.f38) rfl rfl (load44 p1)) rfl ⟨none, 0, ?_, ?_, HU.out.cut p2 (fun b hb => by omega)⟩
    · rw [HRR.out]; rfl
    · rw [HRR.out]; exact World.ownsRow_nil _ _ _ _
  · rw [if_neg hn] at HRR
    have hn' : ¬ (40 : Int) < vals.length := by omega
    have HC := Lib.hid (run_any o c (vc := vc) wb (h.kept HU.out) hl (hv.kept HU.out) (by omega) ha hc (fun b f e => by have := hvw b f e; have := HU.out.size; omega))
    obtain ⟨a0, a1, a2, a3, a4⟩ := cells5_of HX1.out
    obtain ⟨c0, c1⟩ := cells2_of HX2.out
    obtain ⟨rr, hrr⟩ : ∃ rr, rr = runR o c vals := ⟨_, rfl⟩
    obtain ⟨cf, xs, ef⟩ := rr
    rw [← hrr] at HRR HC
    clear h hv hvw hrr
    go_enter Tryz.func38, Tryz.ntmps38
    go_upto_region 1 with fail
    rw [← hwb]
    clear hwb
    go_wp2_with (go_at_call 103; fail)
    refine HC.out.mono ?_
    rintro e w2 ⟨a5, k5, rfl, ho, hu2⟩
    have HZ3 := Lib.hid ((hu2.block _ (lt_of_heap HX3.out) (fun e => e)).trans HX3.out)
    have HU2 := Lib.hid (HU.out.trans hu2); have HO := Lib.hid (ownsRow_low ho HU.out.size)
    obtain ⟨z0, z1⟩ := cells2_of HZ3.out
    have f0 : w2.frozen? ⟨w.heap.size + 1 + 1, 0, none⟩ = false := frozen_of_heap HZ3.out
    have f1 : w2.frozen? ⟨w.heap.size + 1 + 1, 1, none⟩ = false := frozen_of_heap HZ3.out
    clear hu2 ho a0 a1 a2 a3 a4 c0 c1
    simp only []
    go_wp2
    obtain ⟨p1, p2⟩ := put2 (u := .int .i64 cf.count) (v := .int .i64 cf.sum) HZ3.out
    refine bodyPost_ret (results_ctt (fn := Tryz.f38) rfl rfl (load44 p1)) rfl ⟨a5, k5, ?_, ?_, HU2.out.cut p2 (fun b hb => by omega)⟩
    · rw [HRR.out]; rfl
    · rw [HRR.out]
      refine ownsRow_any HO.out p2 (fun k hk e => ?_)
      obtain ⟨cur, hcur⟩ := ownsRow_at HO.out hk
      rw [e, HZ3.out] at hcur
      injection hcur with hcur
      injection hcur with _ hcur
      exact absurd hcur (by decide)
end Go.Proofs.YtbonfdkgkcbkmaaGreat
end

