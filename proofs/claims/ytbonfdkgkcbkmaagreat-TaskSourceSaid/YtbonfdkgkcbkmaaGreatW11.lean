/- Walks: the order of names (txlog.Compare); sink.name. -/
import Derived.Test.YtbonfdkgkcbkmaaGreatW4
import Derived.Test.YtbonfdkgkcbkmaaGreatW8
import Derived.Test.YtbonfdkgkcbkmaaGreatW10
import Derived.ChangeAlike
import Derived.RegionTactic
set_option linter.unusedVariables false
set_option linter.unusedSimpArgs false

section
namespace Go.Proofs.YtbonfdkgkcbkmaaGreat
set_option maxRecDepth 100000
open Go.RowKit Go.Shelf

attribute [local go_sem] Oper.semAt_some run_store_func
def cmpNm (x y : NmV) : Int := orI [cmpI x.sink y.sink, cmpI x.att y.att, cmpI x.ser y.ser]
set_option maxHeartbeats 2000000 in
theorem cmpname_any (x y : NmV) (w : World) : Calls Tryz.prog 236 #[.agg #[.int .i64 x.sink, .int .i64 x.att, .int .i64 x.ser], .agg #[.int .i64 y.sink, .int .i64 y.att, .int .i64 y.ser]] w fun e w' => e = .returned (.int .i64 (cmpNm x y)) ∧ Upd0 w w' := by
  obtain ⟨a0, a1, a2⟩ := x
  obtain ⟨b0, b1, b2⟩ := y
  simp only [cmpNm]
  obtain ⟨bb, hbb⟩ : ∃ bb, bb = w.heap.size := ⟨_, rfl⟩
  obtain ⟨wb, hwb⟩ : ∃ wb, wb = (w.alloc (.cells #[.int .i64 a0, .int .i64 a1, .int .i64 a2] 215)).alloc (.cells #[.int .i64 b0, .int .i64 b1, .int .i64 b2] 215) := ⟨_, rfl⟩
  have HU := Lib.hid (show Upd0 w wb by rw [hwb]; exact ((Upd.refl _ w).alloc _).alloc _)
  have HX1 := Lib.hid (show wb.heap[bb]? = some (.cells #[.int .i64 a0, .int .i64 a1, .int .i64 a2] 215 (0, 0)) by rw [hwb, hbb]; exact (alloc_lt (by simp)).trans (alloc_at rfl))
  have HX2 := Lib.hid (show wb.heap[bb + 1]? = some (.cells #[.int .i64 b0, .int .i64 b1, .int .i64 b2] 215 (0, 0)) by rw [hwb, hbb]; exact alloc_at (by simp))
  go_enter Tryz.func236, Tryz.ntmps236
  go_upto_region 1 with fail
  rw [← hwb, ← hbb]
  clear hwb hbb
  have hA : Upd0 wb wb.drew := (Upd.refl _ _).drew
  refine wp_region_G 15 (fun W => Upd0 wb W) [false, false, false, false, false, false, false, false, false, false, false, false, false, false, false, false, false, false] rfl (by kernel_rfl) ?_
  generalize wb.drew = wd at hA ⊢
  refine wpG_takeT (i := 0) (v := .pointer (some ⟨bb, 0, none⟩)) rfl (fun L hc h => (hc.waits (n := 15) (i := 4) (by kernel_rfl) (hc.waits (n := 4) (i := 1) (by kernel_rfl) (hc.waits (n := 1) (i := 0) (by kernel_rfl) h)))) (by kernel_rfl) (fun _ _ _ h => h) hA (.inl ⟨rfl, fun w5 q1 => ?_⟩) ?_
  · go_simp
  simp only [Act.put, List.setIfInBounds_toArray, List.set]
  refine wpG_takeT (i := 1) (v := .int .i64 a0) rfl (fun L hc h => (hc.waits (n := 15) (i := 4) (by kernel_rfl) (hc.waits (n := 4) (i := 1) (by kernel_rfl) h))) (by kernel_rfl) (fun _ _ _ h => h) hA (.inl ⟨rfl, fun w5 q1 => ?_⟩) ?_
  · obtain ⟨c0, c1, c2⟩ := cells3_of ((q1.block _ (lt_of_heap HX1.out) (fun e => e)).trans HX1.out)
    go_simp
  simp only [Act.put, List.setIfInBounds_toArray, List.set]
  refine wpG_takeT (i := 2) (v := .pointer (some ⟨bb + 1, 0, none⟩)) rfl (fun L hc h => (hc.waits (n := 15) (i := 4) (by kernel_rfl) (hc.waits (n := 4) (i := 3) (by kernel_rfl) (hc.waits (n := 3) (i := 2) (by kernel_rfl) h)))) (by kernel_rfl) (fun _ _ _ h => h) hA (.inl ⟨rfl, fun w5 q1 => ?_⟩) ?_
  · go_simp
  simp only [Act.put, List.setIfInBounds_toArray, List.set]
  refine wpG_takeT (i := 3) (v := .int .i64 b0) rfl (fun L hc h => (hc.waits (n := 15) (i := 4) (by kernel_rfl) (hc.waits (n := 4) (i := 3) (by kernel_rfl) h))) (by kernel_rfl) (fun _ _ _ h => h) hA (.inl ⟨rfl, fun w5 q1 => ?_⟩) ?_
  · obtain ⟨c0, c1, c2⟩ := cells3_of ((q1.block _ (lt_of_heap HX2.out) (fun e => e)).trans HX2.out)
    go_simp
  simp only [Act.put, List.setIfInBounds_toArray, List.set]
  refine wpG_takeT (i := 5) (v := .pointer (some ⟨bb, 1, none⟩)) rfl (fun L hc h => (hc.waits (n := 15) (i := 9) (by kernel_rfl) (hc.waits (n := 9) (i := 6) (by kernel_rfl) (hc.waits (n := 6) (i := 5) (by kernel_rfl) h)))) (by kernel_rfl) (fun _ _ _ h => h) hA (.inl ⟨rfl, fun w5 q1 => ?_⟩) ?_
  · go_simp
  simp only [Act.put, List.setIfInBounds_toArray, List.set]
  refine wpG_takeT (i := 6) (v := .int .i64 a1) rfl (fun L hc h => (hc.waits (n := 15) (i := 9) (by kernel_rfl) (hc.waits (n := 9) (i := 6) (by kernel_rfl) h))) (by kernel_rfl) (fun _ _ _ h => h) hA (.inl ⟨rfl, fun w5 q1 => ?_⟩) ?_
  · obtain ⟨c0, c1, c2⟩ := cells3_of ((q1.block _ (lt_of_heap HX1.out) (fun e => e)).trans HX1.out)
    go_simp
  simp only [Act.put, List.setIfInBounds_toArray, List.set]
  refine wpG_takeT (i := 7) (v := .pointer (some ⟨bb + 1, 1, none⟩)) rfl (fun L hc h => (hc.waits (n := 15) (i := 9) (by kernel_rfl) (hc.waits (n := 9) (i := 8) (by kernel_rfl) (hc.waits (n := 8) (i := 7) (by kernel_rfl) h)))) (by kernel_rfl) (fun _ _ _ h => h) hA (.inl ⟨rfl, fun w5 q1 => ?_⟩) ?_
  · go_simp
  simp only [Act.put, List.setIfInBounds_toArray, List.set]
  refine wpG_takeT (i := 8) (v := .int .i64 b1) rfl (fun L hc h => (hc.waits (n := 15) (i := 9) (by kernel_rfl) (hc.waits (n := 9) (i := 8) (by kernel_rfl) h))) (by kernel_rfl) (fun _ _ _ h => h) hA (.inl ⟨rfl, fun w5 q1 => ?_⟩) ?_
  · obtain ⟨c0, c1, c2⟩ := cells3_of ((q1.block _ (lt_of_heap HX2.out) (fun e => e)).trans HX2.out)
    go_simp
  simp only [Act.put, List.setIfInBounds_toArray, List.set]
  refine wpG_takeT (i := 10) (v := .pointer (some ⟨bb, 2, none⟩)) rfl (fun L hc h => (hc.waits (n := 15) (i := 14) (by kernel_rfl) (hc.waits (n := 14) (i := 11) (by kernel_rfl) (hc.waits (n := 11) (i := 10) (by kernel_rfl) h)))) (by kernel_rfl) (fun _ _ _ h => h) hA (.inl ⟨rfl, fun w5 q1 => ?_⟩) ?_
  · go_simp
  simp only [Act.put, List.setIfInBounds_toArray, List.set]
  refine wpG_takeT (i := 11) (v := .int .i64 a2) rfl (fun L hc h => (hc.waits (n := 15) (i := 14) (by kernel_rfl) (hc.waits (n := 14) (i := 11) (by kernel_rfl) h))) (by kernel_rfl) (fun _ _ _ h => h) hA (.inl ⟨rfl, fun w5 q1 => ?_⟩) ?_
  · obtain ⟨c0, c1, c2⟩ := cells3_of ((q1.block _ (lt_of_heap HX1.out) (fun e => e)).trans HX1.out)
    go_simp
  simp only [Act.put, List.setIfInBounds_toArray, List.set]
  refine wpG_takeT (i := 12) (v := .pointer (some ⟨bb + 1, 2, none⟩)) rfl (fun L hc h => (hc.waits (n := 15) (i := 14) (by kernel_rfl) (hc.waits (n := 14) (i := 13) (by kernel_rfl) (hc.waits (n := 13) (i := 12) (by kernel_rfl) h)))) (by kernel_rfl) (fun _ _ _ h => h) hA (.inl ⟨rfl, fun w5 q1 => ?_⟩) ?_
  · go_simp
  simp only [Act.put, List.setIfInBounds_toArray, List.set]
  refine wpG_takeT (i := 13) (v := .int .i64 b2) rfl (fun L hc h => (hc.waits (n := 15) (i := 14) (by kernel_rfl) (hc.waits (n := 14) (i := 13) (by kernel_rfl) h))) (by kernel_rfl) (fun _ _ _ h => h) hA (.inl ⟨rfl, fun w5 q1 => ?_⟩) ?_
  · obtain ⟨c0, c1, c2⟩ := cells3_of ((q1.block _ (lt_of_heap HX2.out) (fun e => e)).trans HX2.out)
    go_simp
  simp only [Act.put, List.setIfInBounds_toArray, List.set]
  refine wpG_doIf (i := 4) rfl (by kernel_rfl) rfl (fun K hK => ?_)
  have HKK := Lib.hid hK
  clear hK
  go_step
  refine (cmp_any a0 b0 _).mono ?_
  rintro e w6 ⟨rfl, rfl⟩
  simp only []
  refine HKK.out _ _ hA ?_
  clear HKK
  simp only [Act.put, List.setIfInBounds_toArray, List.set]
  refine wpG_doIf (i := 9) rfl (by kernel_rfl) rfl (fun K hK => ?_)
  have HKK := Lib.hid hK
  clear hK
  go_step
  refine (cmp_any a1 b1 _).mono ?_
  rintro e w6 ⟨rfl, rfl⟩
  simp only []
  refine HKK.out _ _ hA ?_
  clear HKK
  simp only [Act.put, List.setIfInBounds_toArray, List.set]
  refine wpG_doIf (i := 14) rfl (by kernel_rfl) rfl (fun K hK => ?_)
  have HKK := Lib.hid hK
  clear hK
  go_step
  refine (cmp_any a2 b2 _).mono ?_
  rintro e w6 ⟨rfl, rfl⟩
  simp only []
  refine HKK.out _ _ hA ?_
  clear HKK
  simp only [Act.put, List.setIfInBounds_toArray, List.set]
  refine wpG_tail_lit (k := 15) rfl rfl (by kernel_rfl) ?_
  simp only [List.drop]
  go_wp2_with (go_at_call 212; fail)
  refine (or_any (a := some ⟨wd.heap.size, 0, none⟩) (l := [cmpI a0 b0, cmpI a1 b1, cmpI a2 b2]) (c := 3) _ (IntsIn.of_block (t := 3) (alloc_at rfl)) (by simp)).mono ?_
  rintro e w6 ⟨rfl, rfl⟩
  go_wp2
  go_ret
  exact ⟨rfl, HU.out.trans (hA.alloc _)⟩
end Go.Proofs.YtbonfdkgkcbkmaaGreat
end

section
namespace Go.Proofs.YtbonfdkgkcbkmaaGreat
set_option maxRecDepth 100000
open Go.RowKit Go.Shelf

attribute [local go_sem] Oper.semAt_some run_store_func
/-- An element. -/
structure ElV where
  kind : Int
  rec' : RecV
  num : Nat
def ElV.cells (x : ElV) : List Value := [.int .i64 x.kind, .int .i64 x.rec'.src, .int .i64 x.rec'.key, .int .i64 x.rec'.val, .int .u64 x.num]
/-- A queue. -/
structure QuV where
  qa : Option Addr
  qc : Nat
  els : List ElV
  last : Nat
  isHeld : Bool
  isEnd : Bool
def QuV.cells (q : QuV) : List Value := [.slice q.qa q.els.length q.qc, .int .u64 q.last, .bool q.isHeld, .bool q.isEnd]
end Go.Proofs.YtbonfdkgkcbkmaaGreat
end

section
namespace Go.Proofs.YtbonfdkgkcbkmaaGreat
set_option maxRecDepth 100000
open Go.RowKit Go.Shelf

attribute [local go_sem] Oper.semAt_some
/-- A row of queues, their heads alone. -/
def QusIn (w : World) (a : Option Addr) (l : List QuV) : Prop := Row 4 w a (l.map QuV.cells)
theorem QusIn.kept {w w' : World} {a : Option Addr} {l : List QuV} (h : QusIn w a l) (hu : Upd0 w w') : QusIn w' a l := Row.kept h hu
theorem QusIn.at {w : World} {a : Option Addr} {l : List QuV} (h : QusIn w a l) {i : Nat} {q : QuV} (hi : l[i]? = some q) : ∃ b f, a = some ⟨b, f, none⟩ ∧ w.cell? ⟨b, f + i * 4, none⟩ = some (.slice q.qa q.els.length q.qc) ∧ w.cell? ⟨b, f + i * 4 + 1, none⟩ = some (.int .u64 q.last) ∧ w.cell? ⟨b, f + i * 4 + 2, none⟩ = some (.bool q.isHeld) ∧ w.cell? ⟨b, f + i * 4 + 3, none⟩ = some (.bool q.isEnd) := by
  obtain ⟨_, b, f, e, hc⟩ := h i q.cells (by rw [List.getElem?_map, hi]; rfl)
  have h0 := hc 0 _ rfl
  have h1 := hc 1 _ rfl
  have h2 := hc 2 _ rfl
  have h3 := hc 3 _ rfl
  simp only [Nat.add_zero, ← Nat.add_assoc] at h0 h1 h2 h3
  exact ⟨b, f, e, h0, h1, h2, h3⟩
end Go.Proofs.YtbonfdkgkcbkmaaGreat
end

section
namespace Go.Proofs.YtbonfdkgkcbkmaaGreat
set_option maxRecDepth 100000
open Go.RowKit Go.Shelf

attribute [local go_sem] Oper.semAt_some
/-- A record, if there is one. -/
def optR : Option RecV → RecV
  | none => ⟨0, 0, 0⟩
  | some r => r
theorem find_app {l m : List (RecV × Bool)} {p : RecV × Bool → Bool} (h : ∀ z ∈ l, p z = false) : (l ++ m).find? p = m.find? p := by
  rw [List.find?_append]
  have : l.find? p = none := by
    rw [List.find?_eq_none]
    intro z hz
    simp [h z hz]
  rw [this]; simp
theorem put3 {W : World} {t : Nat} {x0 x1 x2 u v x : Value} {ty : TypeId} (h : W.heap[t]? = some (.cells #[x0, x1, x2] ty (0, 0))) :
    (((W.setCell ⟨t, 0, none⟩ u).setCell ⟨t, 1, none⟩ v).setCell ⟨t, 2, none⟩ x).heap[t]? = some (.cells #[u, v, x] ty (0, 0)) ∧ Upd (fun k => k = t) W (((W.setCell ⟨t, 0, none⟩ u).setCell ⟨t, 1, none⟩ v).setCell ⟨t, 2, none⟩ x) := by
  refine ⟨?_, ((upd_own W t 0 _).trans (upd_own _ t 1 _)).trans (upd_own _ t 2 _)⟩
  have := blk_set (i := 2) (v := x) (blk_set (i := 1) (v := v) (blk_set (i := 0) (v := u) h))
  simpa using this
theorem results_cc {P : Program} {fn : Func} {ts : Array Value} {w : World} {a u : Nat} {t t2 : TypeId} {p q : Addr} {v v2 : Value} (hr : fn.results = #[.cell a t, .cell u t2]) (ha : ts.getD a undef = .pointer (some p)) (hl : (loadVar t p).run P w = .ok v w) (hb : ts.getD u undef = .pointer (some q)) (hl2 : (loadVar t2 q).run P w = .ok v2 w) :
    (Go.results fn ts).run P w = .ok (.tuple #[v, v2]) w := by
  unfold Go.results
  rw [hr]
  have ha' : ts[a]?.getD undef = .pointer (some p) := by simpa using ha
  have hb' : ts[u]?.getD undef = .pointer (some q) := by simpa using hb
  simp [asAddr, ha', hl, hb', hl2]
theorem sizeRec : (Tryz.prog.info? 36).map (·.size) = some 3 := by kernel_rfl
theorem load36 {W : World} {t : Nat} {u v x : Value} (h : W.heap[t]? = some (.cells #[u, v, x] 36 (0, 0))) : (loadVar 36 ⟨t, 0, none⟩).run Tryz.prog W = .ok (.agg #[u, v, x]) W :=
  run_loadVar_mid (P := Tryz.prog) W t 0 36 [u, v, x] _ (rangeAt_block h) Tryz.underlying36 rfl sizeRec
theorem load4 {W : World} {t : Nat} {x : Bool} (h : W.heap[t]? = some (.cells #[.bool x] 4 (0, 0))) : (loadVar 4 ⟨t, 0, none⟩).run Tryz.prog W = .ok (.bool x) W := by
  have c := cells1_of h
  simp [loadVar, go_sem, c, Tryz.isAgg4]
/-- What the body of next may write. -/
def nxB (b : Nat) : Nat → TypeId → Prop := fun k t => (k = b + 4 ∧ t = 36) ∨ (k = b + 5 ∧ t = 4)
/-- Between the rounds of next. -/
structure NxAt (w w3 : World) (b : Nat) (idx n : Int) (pre : List (RecV × Bool)) (W : World) : Prop where
  nof : ∀ z ∈ pre, freeB idx n z = false
  b2 : W.heap[b + 2]? = some (.cells #[.int .i64 idx] 3 (0, 0))
  b3 : W.heap[b + 3]? = some (.cells #[.int .i64 n] 3 (0, 0))
  b4 : W.heap[b + 4]? = some (.cells #[.int .i64 0, .int .i64 0, .int .i64 0] 36 (0, 0))
  b5 : W.heap[b + 5]? = some (.cells #[.bool false] 4 (0, 0))
  upd : Upd0 w W
  up : w3.heap.size ≤ W.heap.size
/-- Where it has found one. -/
structure NxEnd (w w3 : World) (b : Nat) (r? : Option RecV) (W : World) : Prop where
  got : ∃ r, r? = some r ∧ W.heap[b + 4]? = some (.cells #[.int .i64 r.src, .int .i64 r.key, .int .i64 r.val] 36 (0, 0))
  b5 : W.heap[b + 5]? = some (.cells #[.bool true] 4 (0, 0))
  upd : Upd0 w W
  up : w3.heap.size ≤ W.heap.size
theorem NxAt.keptT {w w3 : World} {b : Nat} {idx n : Int} {pre : List (RecV × Bool)} {W W' : World} {Φ : Nat → TypeId → Prop} (h : NxAt w w3 b idx n pre W) (hb : b = w.heap.size) (hu : UpdT Φ W W') (hp : ∀ k t, Φ k t → b + 8 ≤ k ∧ t ≠ 3 ∧ t ≠ 36 ∧ t ≠ 4) : NxAt w w3 b idx n pre W' := by
  have k : ∀ {j : Nat} {cs : Array Value} {t : TypeId}, W.heap[j]? = some (Obj.cells cs t (0, 0)) → (t = 3 ∨ t = 36 ∨ t = 4) → W'.heap[j]? = some (Obj.cells cs t (0, 0)) := fun hj ht => hu.keep hj (fun cs t fr e p => by
    injection e with _ e _
    subst e
    have := hp _ _ p
    rcases ht with ht | ht | ht
    · exact this.2.1 ht
    · exact this.2.2.1 ht
    · exact this.2.2.2 ht)
  exact ⟨h.nof, k h.b2 (.inl rfl), k h.b3 (.inl rfl), k h.b4 (.inr (.inl rfl)), k h.b5 (.inr (.inr rfl)), Upd.step h.upd hu (fun j hj ⟨_, _, _, _, p⟩ => by have := (hp _ _ p).1; omega), Nat.le_trans h.up hu.size⟩
theorem NxAt.kept0 {w w3 : World} {b : Nat} {idx n : Int} {pre : List (RecV × Bool)} {W W' : World} (h : NxAt w w3 b idx n pre W) (hu : Upd0 W W') : NxAt w w3 b idx n pre W' := by
  have k : ∀ {j o}, W.heap[j]? = some o → W'.heap[j]? = some o := fun hj => (hu.block _ (lt_of_heap hj) (fun e => e)).trans hj
  exact ⟨h.nof, k h.b2, k h.b3, k h.b4, k h.b5, h.upd.trans hu, Nat.le_trans h.up hu.size⟩
theorem NxAt.put {w w3 : World} {b : Nat} {idx n : Int} {pre : List (RecV × Bool)} {W : World} {l : Nat} {o : Loop} {o' : Obj} (h : NxAt w w3 b idx n pre W) (hl : w.heap.size ≤ l) (ho : W.heap[l]? = some (.loop o)) : NxAt w w3 b idx n pre (W.putObj l o') :=
  ⟨h.nof, cells_put _ h.b2 rfl ho rfl, cells_put _ h.b3 rfl ho rfl, cells_put _ h.b4 rfl ho rfl, cells_put _ h.b5 rfl ho rfl, h.upd.step (upd_put _) (fun k hk e => by omega), Nat.le_trans h.up (upd_put _).size⟩
theorem NxAt.more {w w3 : World} {b : Nat} {idx n : Int} {pre : List (RecV × Bool)} {W : World} {z : RecV × Bool} (h : NxAt w w3 b idx n pre W) (hz : freeB idx n z = false) : NxAt w w3 b idx n (pre ++ [z]) W :=
  ⟨fun y hy => by
    rcases List.mem_append.1 hy with hy | hy
    · exact h.nof y hy
    · simp only [List.mem_singleton] at hy
      rw [hy]; exact hz, h.b2, h.b3, h.b4, h.b5, h.upd, h.up⟩
theorem NxAt.found {w w3 : World} {b : Nat} {idx n : Int} {pre : List (RecV × Bool)} {r? : Option RecV} {r : RecV} {W : World} (h : NxAt w w3 b idx n pre W) (hb : b = w.heap.size) (hr : r? = some r) :
    NxEnd w w3 b r? ((((W.setCell ⟨b + 4, 0, none⟩ (.int .i64 r.src)).setCell ⟨b + 4, 1, none⟩ (.int .i64 r.key)).setCell ⟨b + 4, 2, none⟩ (.int .i64 r.val)).setCell ⟨b + 5, 0, none⟩ (.bool true)) ∧
    UpdT (nxB b) W ((((W.setCell ⟨b + 4, 0, none⟩ (.int .i64 r.src)).setCell ⟨b + 4, 1, none⟩ (.int .i64 r.key)).setCell ⟨b + 4, 2, none⟩ (.int .i64 r.val)).setCell ⟨b + 5, 0, none⟩ (.bool true)) := by
  obtain ⟨p4, q4⟩ := put3 (u := .int .i64 r.src) (v := .int .i64 r.key) (x := .int .i64 r.val) h.b4
  obtain ⟨W1, hW1⟩ : ∃ W1, W1 = ((W.setCell ⟨b + 4, 0, none⟩ (.int .i64 r.src)).setCell ⟨b + 4, 1, none⟩ (.int .i64 r.key)).setCell ⟨b + 4, 2, none⟩ (.int .i64 r.val) := ⟨_, rfl⟩
  rw [← hW1] at p4 q4 ⊢
  have h5 := (q4.block (b + 5) (lt_of_heap h.b5) (by omega)).trans h.b5
  have p5 := blk_set (i := 0) (v := .bool true) h5
  have q5 := q4.mono (G := fun k => k = b + 4 ∨ k = b + 5) (fun _ _ e => .inl e) |>.trans ((upd_own W1 (b + 5) 0 (.bool true)).mono (fun _ _ e => .inr e))
  refine ⟨⟨⟨r, hr, (set_ne (by show b + 4 ≠ b + 5; omega)).trans p4⟩, by simpa using p5, h.upd.step q5 (fun k hk e => by omega), Nat.le_trans h.up q5.size⟩, q5.mono (fun k hk e => ?_)⟩
  rcases e with e | e
  · subst e; exact ⟨_, _, _, h.b4, .inl ⟨rfl, rfl⟩⟩
  · subst e; exact ⟨_, _, _, h.b5, .inr ⟨rfl, rfl⟩⟩
theorem NxAt.done {w w3 : World} {b : Nat} {idx n : Int} {pre : List (RecV × Bool)} {W : World} (h : NxAt w w3 b idx n pre W) (hb : b = w.heap.size) :
    let W' := (((W.setCell ⟨b + 4, 0, none⟩ (.int .i64 0)).setCell ⟨b + 4, 1, none⟩ (.int .i64 0)).setCell ⟨b + 4, 2, none⟩ (.int .i64 0)).setCell ⟨b + 5, 0, none⟩ (.bool false)
    W'.heap[b + 4]? = some (.cells #[.int .i64 0, .int .i64 0, .int .i64 0] 36 (0, 0)) ∧ W'.heap[b + 5]? = some (.cells #[.bool false] 4 (0, 0)) ∧ Upd0 w W' := by
  obtain ⟨p4, q4⟩ := put3 (u := .int .i64 0) (v := .int .i64 0) (x := .int .i64 0) h.b4
  obtain ⟨W1, hW1⟩ : ∃ W1, W1 = ((W.setCell ⟨b + 4, 0, none⟩ (.int .i64 0)).setCell ⟨b + 4, 1, none⟩ (.int .i64 0)).setCell ⟨b + 4, 2, none⟩ (.int .i64 0) := ⟨_, rfl⟩
  rw [← hW1] at p4 q4
  simp only
  rw [← hW1]
  have h5 := (q4.block (b + 5) (lt_of_heap h.b5) (by omega)).trans h.b5
  have p5 := blk_set (i := 0) (v := .bool false) h5
  have q5 := q4.mono (G := fun k => k = b + 4 ∨ k = b + 5) (fun _ _ e => .inl e) |>.trans ((upd_own W1 (b + 5) 0 (.bool false)).mono (fun _ _ e => .inr e))
  exact ⟨(set_ne (by show b + 4 ≠ b + 5; omega)).trans p4, by simpa using p5, h.upd.step q5 (fun k hk e => by omega)⟩
theorem NxEnd.keptT {w w3 : World} {b : Nat} {r? : Option RecV} {W W' : World} {Φ : Nat → TypeId → Prop} (h : NxEnd w w3 b r? W) (hb : b = w.heap.size) (hu : UpdT Φ W W') (hp : ∀ k t, Φ k t → b + 8 ≤ k ∧ t ≠ 36 ∧ t ≠ 4) : NxEnd w w3 b r? W' := by
  have k : ∀ {j : Nat} {cs : Array Value} {t : TypeId}, W.heap[j]? = some (Obj.cells cs t (0, 0)) → (t = 36 ∨ t = 4) → W'.heap[j]? = some (Obj.cells cs t (0, 0)) := fun hj ht => hu.keep hj (fun cs t fr e p => by
    injection e with _ e _
    subst e
    have := hp _ _ p
    rcases ht with ht | ht
    · exact this.2.1 ht
    · exact this.2.2 ht)
  obtain ⟨r, h1, h2⟩ := h.got
  exact ⟨⟨r, h1, k h2 (.inl rfl)⟩, k h.b5 (.inr rfl), Upd.step h.upd hu (fun j hj ⟨_, _, _, _, p⟩ => by have := (hp _ _ p).1; omega), Nat.le_trans h.up hu.size⟩
theorem NxEnd.put {w w3 : World} {b : Nat} {r? : Option RecV} {W : World} {l : Nat} {o : Loop} {o' : Obj} (h : NxEnd w w3 b r? W) (hl : w.heap.size ≤ l) (ho : W.heap[l]? = some (.loop o)) : NxEnd w w3 b r? (W.putObj l o') := by
  obtain ⟨r, h1, h2⟩ := h.got
  exact ⟨⟨r, h1, cells_put _ h2 rfl ho rfl⟩, cells_put _ h.b5 rfl ho rfl, h.upd.step (upd_put _) (fun k hk e => by omega), Nat.le_trans h.up (upd_put _).size⟩
set_option maxHeartbeats 8000000 in
theorem next0_any (x : InM) (o : List Int) (idx n : Int) (w : World) (h : RecsIn w x.ra x.recs) (hc : chkOff x o = 0) (ho : o.length = 8) :
    Calls Tryz.prog 55 #[.agg #[.int .i64 x.src, .slice x.ra x.recs.length x.rc], .agg (o.map I).toArray, .int .i64 idx, .int .i64 n] w fun e w' => e = .returned (.tuple #[.agg #[.int .i64 (optR (nextL o x.recs idx n)).src, .int .i64 (optR (nextL o x.recs idx n)).key, .int .i64 (optR (nextL o x.recs idx n)).val], .bool (nextL o x.recs idx n).isSome]) ∧ Upd0 w w' := by
  obtain ⟨b, hb⟩ : ∃ b, b = w.heap.size := ⟨_, rfl⟩
  obtain ⟨w3, hw3⟩ : ∃ w3, w3 = (((((w.alloc (.cells #[.int .i64 x.src, .slice x.ra x.recs.length x.rc] 41)).alloc (.cells (o.map I).toArray 43)).alloc (.cells #[.int .i64 idx] 3)).alloc (.cells #[.int .i64 n] 3)).alloc (.cells #[.int .i64 0, .int .i64 0, .int .i64 0] 36)).alloc (.cells #[.bool false] 4) := ⟨_, rfl⟩
  have hu3 : Upd0 w w3 := by rw [hw3]; exact ((((((Upd.refl _ w).alloc _).alloc _).alloc _).alloc _).alloc _).alloc _
  have HX1 := Lib.hid (show w3.heap[b]? = some (.cells #[.int .i64 x.src, .slice x.ra x.recs.length x.rc] 41 (0, 0)) by rw [hw3, hb]; exact (alloc_lt (by simp <;> omega)).trans ((alloc_lt (by simp <;> omega)).trans ((alloc_lt (by simp <;> omega)).trans ((alloc_lt (by simp <;> omega)).trans ((alloc_lt (by simp)).trans (alloc_at rfl))))))
  have HX2 := Lib.hid (show w3.heap[b + 1]? = some (.cells (o.map I).toArray 43 (0, 0)) by rw [hw3, hb]; exact (alloc_lt (by simp <;> omega)).trans ((alloc_lt (by simp <;> omega)).trans ((alloc_lt (by simp <;> omega)).trans ((alloc_lt (by simp)).trans (alloc_at (by simp))))))
  have HX3 := Lib.hid (show w3.heap[b + 2]? = some (.cells #[.int .i64 idx] 3 (0, 0)) by rw [hw3, hb]; exact (alloc_lt (by simp <;> omega)).trans ((alloc_lt (by simp <;> omega)).trans ((alloc_lt (by simp)).trans (alloc_at (by simp)))))
  have HX4 := Lib.hid (show w3.heap[b + 3]? = some (.cells #[.int .i64 n] 3 (0, 0)) by rw [hw3, hb]; exact (alloc_lt (by simp <;> omega)).trans ((alloc_lt (by simp)).trans (alloc_at (by simp))))
  have HX5 := Lib.hid (show w3.heap[b + 4]? = some (.cells #[.int .i64 0, .int .i64 0, .int .i64 0] 36 (0, 0)) by rw [hw3, hb]; exact (alloc_lt (by simp)).trans (alloc_at (by simp)))
  have HX6 := Lib.hid (show w3.heap[b + 5]? = some (.cells #[.bool false] 4 (0, 0)) by rw [hw3, hb]; exact alloc_at (by simp))
  have HU3 := Lib.hid hu3; have H := Lib.hid h; have HOL := Lib.hid ho; have HLOW := Lib.hid h.low
  have HCI := Lib.hid (chkOff_zero hc)
  have HP := Lib.hid (parts_any x o w3)
  obtain ⟨r?, hr?⟩ : ∃ r?, r? = nextL o x.recs idx n := ⟨_, rfl⟩
  have HR := Lib.hid hr?
  rw [← hr?]
  obtain ⟨o0, o1, o2, o3, o4, o5, o6, o7, hmap⟩ := eight ho
  rw [hmap] at hw3 HX2 HP ⊢
  have HMAP := Lib.hid hmap
  have HZ3 := Lib.hid (show w3.heap.size = b + 6 by rw [hw3, hb]; simp)
  have HBB := Lib.hid hb
  obtain ⟨c0, c1⟩ := cells2_of HX1.out
  obtain ⟨e0, e1, e2, e3, e4, e5, e6, e7⟩ := cells8_of HX2.out
  clear h ho hc hr? hmap hu3
  refine (callsIn_wide (n := 5)).1 ?_
  refine callsIn_of_wp_marks Tryz.func55 rfl trivial ?_ rfl
  simp only [Tryz.ntmps55, List.size_toArray, List.length_cons, List.length_nil, Nat.reduceAdd, Nat.reduceSub, Array.replicate_succ, Array.replicate_zero, List.push_toArray, List.append_toArray, List.nil_append, List.cons_append]
  gi_wp2_with (gi_at_call 128; fail)
  rw [← hw3, ← hb]
  clear hw3 hb
  simp only [Nat.add_assoc, Nat.reduceAdd]
  refine ⟨trivial, callsIn_wide.2 (HP.out.mono ?_)⟩
  rintro e w5 ⟨rfl, hw5⟩
  clear HP c0 c1 e0 e1 e2 e3 e4 e5 e6 e7
  simp only []
  gi_wp2
  have hu5 : Upd0 w3 w5 := by rw [hw5]; exact ((Upd.refl _ w3).alloc _).alloc _
  have k3 : ∀ {j p}, w3.heap[j]? = some p → w5.heap[j]? = some p := fun hp => (hu5.block _ (lt_of_heap hp) (fun e => e)).trans hp
  have hz5 : w5.heap.size = b + 8 := by rw [hw5]; simp; have := HZ3.out; omega
  have HPT := Lib.hid (show PtAt (b + 8) w3.heap.size (w3.heap.size + 1) x.src x.ra x.rc x.recs o w5 from
    ⟨by rw [hw5]; exact (alloc_lt (by simp)).trans (alloc_at rfl), by rw [hw5, HMAP.out]; exact alloc_at (by simp), H.out.kept (HU3.out.trans hu5), ⟨by have := HZ3.out; omega, by have := HZ3.out; omega⟩, fun e3 b' f e => by have := HLOW.out e3 b' f e; have := HBB.out; omega⟩)
  have HAT := Lib.hid (show NxAt w w3 b idx n [] w5 from ⟨fun z hz => by simp at hz, k3 HX3.out, k3 HX4.out, k3 HX5.out, k3 HX6.out, HU3.out.trans hu5, hu5.size⟩)
  have HZ5 := Lib.hid hz5
  clear hw5 hu5 hz5 k3 HX1 HX2 HX3 HX4 HX5 HX6
  refine wpIn_rangeFunc_T (α := RecV × Bool) (encs := fun z => #[.agg #[.int .i64 z.1.src, .int .i64 z.1.key, .int .i64 z.1.val], .bool z.2]) rfl (by omega) (gf := 208) (lb := #[.pointer (some ⟨w3.heap.size, 0, none⟩), .pointer (some ⟨w3.heap.size + 1, 0, none⟩)]) rfl trivial (fun _ _ => rfl) (fun _ => rfl) (partT (b + 8)) (nxB b) (fun pre x' => ∃ rest, partL o x.recs = (pre ++ [x']) ++ rest) (fun xs _ => xs = partL o x.recs) (NxAt w w3 b idx n) (fun c W => c = .ret ∧ NxEnd w w3 b r? W)
    ?hIU ?hIP ?hXU ?hXP HAT.out (fun _ _ _ _ _ e _ _ => e) ?hseq (fun z a' W => ∃ rb, W.heap[rb]? = some (.cells #[.int .i64 z.1.src, .int .i64 z.1.key, .int .i64 z.1.val] 36 (0, 0)) ∧ a' = { tmps := #[.agg #[.int .i64 x.src, .slice x.ra x.recs.length x.rc], .agg #[.int .i64 o0, .int .i64 o1, .int .i64 o2, .int .i64 o3, .int .i64 o4, .int .i64 o5, .int .i64 o6, .int .i64 o7], .int .i64 idx, .int .i64 n, .pointer (some ⟨b, 0, none⟩), .pointer (some ⟨b + 1, 0, none⟩), .pointer (some ⟨b + 2, 0, none⟩), .pointer (some ⟨b + 3, 0, none⟩), .pointer (some ⟨b + 4, 0, none⟩), .pointer (some ⟨b + 5, 0, none⟩), .pointer (some ⟨rb, 0, none⟩), .bool z.2, .agg #[.int .i64 x.src, .slice x.ra x.recs.length x.rc], .agg #[.int .i64 o0, .int .i64 o1, .int .i64 o2, .int .i64 o3, .int .i64 o4, .int .i64 o5, .int .i64 o6, .int .i64 o7], .func (.func 208) #[] #[.pointer (some ⟨w3.heap.size, 0, none⟩), .pointer (some ⟨w3.heap.size + 1, 0, none⟩)], .agg #[.int .i64 z.1.src, .int .i64 z.1.key, .int .i64 z.1.val], .bool z.2, undef, undef, undef, undef, undef, undef, undef, undef, undef, undef], defers := [] }) ?hAP ?hassign ?hbody ?hdone ?hstop
  case hIU =>
    rintro pre W W' hs h hu
    exact h.keptT HBB.out hu (fun k t p => ⟨p.2, by rw [p.1]; decide, by rw [p.1]; decide, by rw [p.1]; decide⟩)
  case hIP =>
    rintro pre W l o o' h hl ho
    exact h.put (by have := HZ5.out; have := HBB.out; omega) ho
  case hXU =>
    rintro c W W' hs ⟨hc, h⟩ hu
    exact ⟨hc, h.keptT HBB.out hu (fun k t p => ⟨p.2, by rw [p.1]; decide, by rw [p.1]; decide⟩)⟩
  case hXP =>
    rintro c W l o o' ⟨hc, h⟩ hl ho
    exact ⟨hc, h.put (by have := HZ5.out; have := HBB.out; omega) ho⟩
  case hseq =>
    intro l J Jx W h0 hu hJ hJx hY
    have hz := HZ5.out
    have hz3 := HZ3.out
    have hbb := HBB.out
    exact parts1_any (B := b + 8) (Φb := nxB b) (fun k t p => ⟨by rcases p with ⟨_, p⟩ | ⟨_, p⟩ <;> subst p <;> decide, by rcases p with ⟨p, _⟩ | ⟨p, _⟩ <;> omega, by rcases p with ⟨p, _⟩ | ⟨p, _⟩ <;> omega, fun e3 b' f e => by have := HLOW.out e3 b' f e; rcases p with ⟨p, _⟩ | ⟨p, _⟩ <;> omega⟩) (by have := HCI.out.1; omega) (fun r hr => (HCI.out.2.2.2 r hr).1) HOL.out l J Jx W (HPT.out.kept hu (fun _ e => e.elim)) (by have := hu.size; omega) h0 (fun pre W W' hs => hJ pre W W' (by omega)) (fun W W' hs => hJx W W' (by omega)) (fun pre x W1 hs h _ hp => hY pre x W1 (by omega) h hp)
  case hAP =>
    rintro z a' W l o o' ⟨rb, h1, h2⟩ hl ho
    exact ⟨rb, cells_put o' h1 rfl ho rfl, h2⟩
  case hassign =>
    intro l z W K _ hK
    have HK := Lib.hid hK
    clear hK
    gi_wp2
    exact HK.out _ _ ((Upd.refl _ W).alloc _) ⟨W.heap.size, alloc_at rfl, rfl⟩
  case hbody =>
    rintro l pre z a' W r hl hs hi ⟨rest, hpl⟩ ⟨rb, h5, rfl⟩ hlr
    have HI := Lib.hid hi; have HPL := Lib.hid hpl; have H5 := Lib.hid h5
    obtain ⟨r0, r1, r2⟩ := cells3_of h5
    have i2 := cells1_of hi.b2
    have i3 := cells1_of hi.b3
    have HM := Lib.hid (mine_any z.1 idx n W)
    clear hi hpl h5 hlr
    obtain ⟨z1, z2⟩ := z
    obtain ⟨mb, hmb⟩ : ∃ mb, mb = mineB z1 idx n := ⟨_, rfl⟩
    simp only at HM HPL H5 r0 r1 r2 ⊢
    rw [← hmb] at HM
    have HMB := Lib.hid hmb
    clear hmb
    cases z2 with
    | true =>
      gi_wp2
      refine ⟨trivial, ?_⟩
      gi_wp2
      exact ⟨HI.out.more (by simp [freeB]), Upd.refl _ _⟩
    | false =>
      gi_wp2_with (gi_at_call 129; fail)
      refine ⟨trivial, ?_⟩
      refine (CallsIn.inRound l (callsIn_wide.2 HM.out)).mono ?_
      rintro e W3 ⟨rfl, hu3⟩
      have HI3 := Lib.hid (HI.out.kept0 hu3); have HU3' := Lib.hid hu3
      have H53 := Lib.hid ((hu3.block _ (lt_of_heap H5.out) (fun e => e)).trans H5.out)
      clear hu3 r0 r1 r2 i2 i3
      obtain ⟨r0, r1, r2⟩ := cells3_of H53.out
      obtain ⟨s0, s1, s2⟩ := cells3_of HI3.out.b4
      have f0 : W3.frozen? ⟨b + 4, 0, none⟩ = false := frozen_of_heap HI3.out.b4
      have f1 : W3.frozen? ⟨b + 4, 1, none⟩ = false := frozen_of_heap HI3.out.b4
      have f2 : W3.frozen? ⟨b + 4, 2, none⟩ = false := frozen_of_heap HI3.out.b4
      have s5 := cells1_of HI3.out.b5
      have f5 : W3.frozen? ⟨b + 5, 0, none⟩ = false := frozen_of_heap HI3.out.b5
      simp only []
      cases mb with
      | false =>
        gi_wp2
        exact ⟨HI3.out.more (by simp [freeB, ← HMB.out]), UpdT.of0 HU3'.out⟩
      | true =>
        gi_wp2
        have hfind : r? = some z1 := by
          rw [HR.out, nextL, HPL.out, List.append_assoc, find_app (fun z hz => HI3.out.nof z hz)]
          simp [freeB, ← HMB.out]
        obtain ⟨g1, g2⟩ := HI3.out.found HBB.out hfind
        exact ⟨⟨rfl, g1⟩, (UpdT.of0 HU3'.out).trans g2⟩
  case hdone =>
    rintro xs W hS h hD
    subst hS
    have hn : r? = none := by
      rw [HR.out, nextL, Option.map_eq_none_iff, List.find?_eq_none]
      intro z hz
      simp [h.nof z hz]
    subst hn
    have HI := Lib.hid h; have HD := Lib.hid hD
    obtain ⟨s0, s1, s2⟩ := cells3_of h.b4
    have f0 : W.frozen? ⟨b + 4, 0, none⟩ = false := frozen_of_heap h.b4
    have f1 : W.frozen? ⟨b + 4, 1, none⟩ = false := frozen_of_heap h.b4
    have f2 : W.frozen? ⟨b + 4, 2, none⟩ = false := frozen_of_heap h.b4
    have s5 := cells1_of h.b5
    have f5 : W.frozen? ⟨b + 5, 0, none⟩ = false := frozen_of_heap h.b5
    clear h hD
    gi_wp2
    obtain ⟨g1, g2, g3⟩ := HI.out.done HBB.out
    have hz := HZ5.out; have hbb := HBB.out
    have hd2 : ((((W.setCell ⟨b + 4, 0, none⟩ (.int .i64 0)).setCell ⟨b + 4, 1, none⟩ (.int .i64 0)).setCell ⟨b + 4, 2, none⟩ (.int .i64 0)).setCell ⟨b + 5, 0, none⟩ (.bool false)).heap[w5.heap.size]? = some (.deferred (some [])) := by
      rw [set_ne (by show w5.heap.size ≠ b + 5; omega), set_ne (by show w5.heap.size ≠ b + 4; omega), set_ne (by show w5.heap.size ≠ b + 4; omega), set_ne (by show w5.heap.size ≠ b + 4; omega)]
      exact HD.out
    refine ⟨by simp, .inl ⟨_, _, rfl, run_takeDeferred hd2, ?_⟩⟩
    refine ⟨_, results_cc (fn := Tryz.f55) rfl rfl (load36 (cells_put _ g1 rfl hd2 rfl)) rfl (load4 (cells_put _ g2 rfl hd2 rfl)), rfl, ?_⟩
    exact g3.step (upd_put _) (fun k hk e => by omega)
  case hstop =>
    rintro c W ⟨rfl, h⟩ hD
    obtain ⟨r, hr, g1⟩ := h.got
    subst hr
    have g2 := h.b5
    have g3 := h.upd
    have HD := Lib.hid hD
    have HG1 := Lib.hid g1; have HG2 := Lib.hid g2; have HG3 := Lib.hid g3
    clear h hD g1 g2 g3
    gi_wp2
    refine ⟨by simp, .inl ⟨_, _, rfl, run_takeDeferred HD.out, ?_⟩⟩
    have hz := HZ5.out; have hbb := HBB.out
    refine ⟨_, results_cc (fn := Tryz.f55) rfl rfl (load36 (cells_put _ HG1.out rfl HD.out rfl)) rfl (load4 (cells_put _ HG2.out rfl HD.out rfl)), rfl, ?_⟩
    exact HG3.out.step (upd_put _) (fun k hk e => by omega)
end Go.Proofs.YtbonfdkgkcbkmaaGreat
end

section
namespace Go.Proofs.YtbonfdkgkcbkmaaGreat
set_option maxRecDepth 100000
open Go.RowKit Go.Shelf

/-- A channel: from, to, and its groups, a bit each. -/
structure LkV where
  frm : Nat
  dst : Nat
  set : Nat
def mkAt (os : List OpM) (x : Int × Int) : Nat := maskN (wdAt os x.1) x.2 8
def insAt (os : List OpM) (i : Int) : List Int := match os[i.toNat]? with
  | some o => o.ins
  | none => []
/-- Is there a channel between two subtasks? -/
def lkB (os : List OpM) (a b : Int × Int) : Bool := decide (mkAt os a &&& mkAt os b ≠ 0) && (insAt os b.1).contains a.1
def lk1 (os : List OpM) (i : Nat) (a : Int × Int) (j : Nat) (b : Int × Int) : List LkV := if lkB os a b then [⟨i, j, mkAt os a &&& mkAt os b⟩] else []
def lkRow (os : List OpM) (i : Nat) (a : Int × Int) : Nat → List (Int × Int) → List LkV
  | _, [] => []
  | j, b :: l => lk1 os i a j b ++ lkRow os i a (j + 1) l
def lkF (os : List OpM) (L : List (Int × Int)) : Nat → List (Int × Int) → List LkV
  | _, [] => []
  | i, a :: l => lkRow os i a 0 L ++ lkF os L (i + 1) l
def linksL (os : List OpM) : List LkV := lkF os (subsL os) 0 (subsL os)
theorem lkRow_app (os : List OpM) (i : Nat) (a : Int × Int) : ∀ (l m : List (Int × Int)) (j : Nat), lkRow os i a j (l ++ m) = lkRow os i a j l ++ lkRow os i a (j + l.length) m
  | [], m, j => by simp [lkRow]
  | b :: l, m, j => by
    rw [List.cons_append, lkRow, lkRow, lkRow_app os i a l m (j + 1), List.append_assoc, List.length_cons]
    congr 3
    omega
theorem lkF_app (os : List OpM) (L : List (Int × Int)) : ∀ (l m : List (Int × Int)) (i : Nat), lkF os L i (l ++ m) = lkF os L i l ++ lkF os L (i + l.length) m
  | [], m, i => by simp [lkF]
  | a :: l, m, i => by
    rw [List.cons_append, lkF, lkF, lkF_app os L l m (i + 1), List.append_assoc, List.length_cons]
    congr 3
    omega
theorem lkRow_take {os : List OpM} {i : Nat} {a : Int × Int} {L : List (Int × Int)} {j : Nat} {b : Int × Int} (h : L[j]? = some b) : lkRow os i a 0 (L.take (j + 1)) = lkRow os i a 0 (L.take j) ++ lk1 os i a j b := by
  have hj := (List.getElem?_eq_some_iff.1 h).1
  rw [take_cons' h, lkRow_app]
  simp only [lkRow, List.append_nil, Nat.zero_add]
  rw [List.length_take, Nat.min_eq_left (by omega)]
theorem lkF_take {os : List OpM} {L M : List (Int × Int)} {i : Nat} {a : Int × Int} (h : M[i]? = some a) : lkF os L 0 (M.take (i + 1)) = lkF os L 0 (M.take i) ++ lkRow os i a 0 L := by
  have hi := (List.getElem?_eq_some_iff.1 h).1
  rw [take_cons' h, lkF_app]
  simp only [lkF, List.append_nil, Nat.zero_add]
  rw [List.length_take, Nat.min_eq_left (by omega)]
theorem lkRow_len (os : List OpM) (i : Nat) (a : Int × Int) : ∀ (l : List (Int × Int)) (j : Nat), (lkRow os i a j l).length ≤ l.length
  | [], j => by simp [lkRow]
  | b :: l, j => by
    have := lkRow_len os i a l (j + 1)
    have h1 : (lk1 os i a j b).length ≤ 1 := by unfold lk1; split <;> simp
    rw [lkRow, List.length_append, List.length_cons]
    omega
theorem lkF_len (os : List OpM) (L : List (Int × Int)) : ∀ (l : List (Int × Int)) (i : Nat), (lkF os L i l).length ≤ l.length * L.length
  | [], i => by simp [lkF]
  | a :: l, i => by
    have := lkF_len os L l (i + 1)
    have h1 := lkRow_len os i a L 0
    rw [lkF, List.length_append, List.length_cons, Nat.succ_mul]
    omega
/-- Where a channel is told: those ahead of it, itself, and the rest. -/
theorem links_split {os : List OpM} {i j : Nat} {a b : Int × Int} (hi : (subsL os)[i]? = some a) (hj : (subsL os)[j]? = some b) : ∃ rest, linksL os = (lkF os (subsL os) 0 ((subsL os).take i) ++ lkRow os i a 0 ((subsL os).take j)) ++ (lk1 os i a j b ++ rest) := by
  have h1 : ∃ r, linksL os = lkF os (subsL os) 0 ((subsL os).take (i + 1)) ++ r := by
    refine ⟨lkF os (subsL os) (0 + ((subsL os).take (i + 1)).length) ((subsL os).drop (i + 1)), ?_⟩
    rw [← lkF_app, List.take_append_drop]; rfl
  have h2 : ∃ r, lkRow os i a 0 (subsL os) = lkRow os i a 0 ((subsL os).take (j + 1)) ++ r := by
    refine ⟨lkRow os i a (0 + ((subsL os).take (j + 1)).length) ((subsL os).drop (j + 1)), ?_⟩
    rw [← lkRow_app, List.take_append_drop]
  obtain ⟨r1, e1⟩ := h1
  obtain ⟨r2, e2⟩ := h2
  rw [lkF_take hi, e2, lkRow_take hj] at e1
  exact ⟨r2 ++ r1, by rw [e1]; simp⟩
theorem mask_mem {wd idx : Int} (h : 1 ≤ wd ∧ wd ≤ 3) : maskN wd idx 8 ∈ [0, 255, 15, 240, 7, 56, 192] := by
  have hw : wd = 1 ∨ wd = 2 ∨ wd = 3 := by omega
  by_cases h0 : idx = 0
  · subst h0
    rcases hw with rfl | rfl | rfl <;> decide
  · by_cases h1 : idx = 1
    · subst h1
      rcases hw with rfl | rfl | rfl <;> decide
    · by_cases h2 : idx = 2
      · subst h2
        rcases hw with rfl | rfl | rfl <;> decide
      · have k0 : ¬ (0 : Int) = idx := fun e => h0 e.symm
        have k1 : ¬ (1 : Int) = idx := fun e => h1 e.symm
        have k2 : ¬ (2 : Int) = idx := fun e => h2 e.symm
        have : maskN wd idx 8 = 0 := by rcases hw with rfl | rfl | rfl <;> simp [maskN, k0, k1, k2]
        rw [this]; decide
theorem and_bits : ∀ a ∈ [0, 255, 15, 240, 7, 56, 192], ∀ b ∈ [0, 255, 15, 240, 7, 56, 192], bits BinOp.and IntKind.u64 ((a : Nat) : Int) ((b : Nat) : Int) = ((a &&& b : Nat) : Int) := by decide +kernel
end Go.Proofs.YtbonfdkgkcbkmaaGreat
end

section
namespace Go.Proofs.YtbonfdkgkcbkmaaGreat
set_option maxRecDepth 100000
open Go.RowKit Go.Shelf

attribute [local go_sem] Oper.semAt_some
def askI (x : InM) (o : List Int) (idx n : Int) : Int := if chkOff x o ≠ 0 then chkOff x o else if shareB idx n then 0 else 2
theorem askI_zero {x : InM} {o : List Int} {idx n : Int} (h : askI x o idx n = 0) : chkOff x o = 0 ∧ shareB idx n = true := by
  unfold askI at h
  split at h
  · rename_i h1; exact absurd h h1
  · rename_i h1
    split at h
    · rename_i h2; exact ⟨by omega, h2⟩
    · omega
set_option maxHeartbeats 2000000 in
theorem kasked_any (x : InM) (o : List Int) (idx n : Int) (w : World) (h : RecsIn w x.ra x.recs) (hl : x.recs.length ≤ 140737488351232) (ho : o.length = 8) :
    Calls Tryz.prog 54 #[.agg #[.int .i64 x.src, .slice x.ra x.recs.length x.rc], .agg (o.map I).toArray, .int .i64 idx, .int .i64 n] w fun e w' => e = .returned (.int .i64 (askI x o idx n)) ∧ Upd0 w w' := by
  obtain ⟨wb, hwb⟩ : ∃ wb, wb = (w.alloc (.cells #[.int .i64 x.src, .slice x.ra x.recs.length x.rc] 41)).alloc (.cells (o.map I).toArray 43) := ⟨_, rfl⟩
  have HU := Lib.hid (show Upd0 w wb by rw [hwb]; exact ((Upd.refl _ w).alloc _).alloc _)
  have HX1 := Lib.hid (show wb.heap[w.heap.size]? = some (.cells #[.int .i64 x.src, .slice x.ra x.recs.length x.rc] 41 (0, 0)) by rw [hwb]; exact (alloc_lt (by simp)).trans (alloc_at rfl))
  have HX2 := Lib.hid (show wb.heap[w.heap.size + 1]? = some (.cells (o.map I).toArray 43 (0, 0)) by rw [hwb]; exact alloc_at (by simp))
  have HC := Lib.hid (checkoffsets_any x o wb (h.kept HU.out) hl ho)
  have HS := Lib.hid (fun W => share_any idx n W)
  obtain ⟨a, ha⟩ : ∃ a, a = askI x o idx n := ⟨_, rfl⟩
  have HA := Lib.hid (show a = if chkOff x o ≠ 0 then chkOff x o else if shareB idx n then 0 else 2 from ha)
  rw [← ha]
  obtain ⟨c, hcc⟩ : ∃ c, c = chkOff x o := ⟨_, rfl⟩
  obtain ⟨sb, hsb⟩ : ∃ sb, sb = shareB idx n := ⟨_, rfl⟩
  rw [← hcc, ← hsb] at HA
  rw [← hcc] at HC
  rw [← hsb] at HS
  obtain ⟨c0, c1⟩ := cells2_of HX1.out
  obtain ⟨o0, o1, o2, o3, o4, o5, o6, o7, hmap⟩ := eight ho
  rw [hmap] at hwb HX2 HC ⊢
  obtain ⟨e0, e1, e2, e3, e4, e5, e6, e7⟩ := cells8_of HX2.out
  clear h ho ha hcc hsb hmap
  go_enter Tryz.func54, Tryz.ntmps54
  go_wp2_with (go_at_call 53; fail)
  rw [← hwb]
  clear hwb
  refine HC.out.mono ?_
  rintro e w2 ⟨rfl, hu2⟩
  have HU2 := Lib.hid (HU.out.trans hu2)
  clear c0 c1 e0 e1 e2 e3 e4 e5 e6 e7 hu2
  simp only []
  by_cases hz : c = 0
  · subst hz
    rw [if_neg (by simp)] at HA
    cases sb with
    | false =>
      go_wp2_with (go_at_call 127; refine (HS.out _).mono ?_; rintro e w' ⟨rfl, rfl⟩)
      go_ret
      exact ⟨ret_int (by rw [HA.out]; rfl), HU2.out⟩
    | true =>
      go_wp2_with (go_at_call 127; refine (HS.out _).mono ?_; rintro e w' ⟨rfl, rfl⟩)
      go_ret
      exact ⟨ret_int (by rw [HA.out]; rfl), HU2.out⟩
  · have hz' : (c != 0) = true := by simpa using hz
    rw [if_pos hz] at HA
    clear hz
    go_wp2
    go_ret
    exact ⟨ret_int HA.out.symm, HU2.out⟩
theorem results_cttt {P : Program} {fn : Func} {ts : Array Value} {w : World} {a u x y : Nat} {t : TypeId} {p : Addr} {v : Value} (hr : fn.results = #[.cell a t, .tmp u, .tmp x, .tmp y]) (ha : ts.getD a undef = .pointer (some p)) (hl : (loadVar t p).run P w = .ok v w) :
    (Go.results fn ts).run P w = .ok (.tuple #[v, ts.getD u undef, ts.getD x undef, ts.getD y undef]) w := by
  unfold Go.results
  rw [hr]
  have ha' : ts[a]?.getD undef = .pointer (some p) := by simpa using ha
  simp [asAddr, ha', hl]
/-- What Next answers. -/
def NextR (x : InM) (o : List Int) (idx n : Int) : RecV × Int × Bool × Int :=
  if askI x o idx n ≠ 0 then (⟨0, 0, 0⟩, 0, false, askI x o idx n) else
    match nextL o x.recs idx n with
    | none => (⟨0, 0, 0⟩, 0, false, 0)
    | some r => (r, grpN r, true, 0)
theorem nextL_mem {o : List Int} {recs : List RecV} {idx n : Int} {r : RecV} (h : nextL o recs idx n = some r) : r ∈ recs := by
  unfold nextL at h
  rw [Option.map_eq_some_iff] at h
  obtain ⟨z, hz, rfl⟩ := h
  exact partFrom_mem (List.mem_of_find?_eq_some hz)
theorem nextL_grp {x : InM} {o : List Int} {idx n : Int} {r : RecV} (hc : chkOff x o = 0) (h : nextL o x.recs idx n = some r) : r.key.tmod 8 = (grpN r : Int) := by
  obtain ⟨h1, h2⟩ := (chkOff_zero hc).2.2.2 r (nextL_mem h) |>.1
  rw [Int.tmod_eq_emod_of_nonneg (by omega), grpN]; omega
set_option maxHeartbeats 4000000 in
theorem knext_any (x : InM) (o : List Int) (idx n : Int) (w : World) (h : RecsIn w x.ra x.recs) (hl : x.recs.length ≤ 140737488351232) (ho : o.length = 8) :
    Calls Tryz.prog 12 #[.agg #[.int .i64 x.src, .slice x.ra x.recs.length x.rc], .agg (o.map I).toArray, .int .i64 idx, .int .i64 n] w fun e w' => e = .returned (.tuple #[.agg #[.int .i64 (NextR x o idx n).1.src, .int .i64 (NextR x o idx n).1.key, .int .i64 (NextR x o idx n).1.val], .int .i64 (NextR x o idx n).2.1, .bool (NextR x o idx n).2.2.1, .int .i64 (NextR x o idx n).2.2.2]) ∧ Upd0 w w' := by
  obtain ⟨b, hb⟩ : ∃ b, b = w.heap.size := ⟨_, rfl⟩
  obtain ⟨wb, hwb⟩ : ∃ wb, wb = ((w.alloc (.cells #[.int .i64 x.src, .slice x.ra x.recs.length x.rc] 41)).alloc (.cells (o.map I).toArray 43)).alloc (.cells #[.int .i64 0, .int .i64 0, .int .i64 0] 36) := ⟨_, rfl⟩
  have HU := Lib.hid (show Upd0 w wb by rw [hwb]; exact (((Upd.refl _ w).alloc _).alloc _).alloc _)
  have HX1 := Lib.hid (show wb.heap[b]? = some (.cells #[.int .i64 x.src, .slice x.ra x.recs.length x.rc] 41 (0, 0)) by rw [hwb, hb]; exact (alloc_lt (by simp <;> omega)).trans ((alloc_lt (by simp)).trans (alloc_at rfl)))
  have HX2 := Lib.hid (show wb.heap[b + 1]? = some (.cells (o.map I).toArray 43 (0, 0)) by rw [hwb, hb]; exact (alloc_lt (by simp)).trans (alloc_at (by simp)))
  have HX3 := Lib.hid (show wb.heap[b + 2]? = some (.cells #[.int .i64 0, .int .i64 0, .int .i64 0] 36 (0, 0)) by rw [hwb, hb]; exact alloc_at (by simp))
  have HC := Lib.hid (kasked_any x o idx n wb (h.kept HU.out) hl ho)
  have H := Lib.hid h; have HOL := Lib.hid ho
  have HBB := Lib.hid hb
  obtain ⟨nr, hnr⟩ : ∃ nr, nr = NextR x o idx n := ⟨_, rfl⟩
  have HN := Lib.hid (show nr = if askI x o idx n ≠ 0 then (⟨0, 0, 0⟩, 0, false, askI x o idx n) else
    match nextL o x.recs idx n with
    | none => (⟨0, 0, 0⟩, 0, false, 0)
    | some r => (r, (grpN r : Int), true, 0) from hnr)
  rw [← hnr]
  have HND := Lib.hid (fun (W : World) (hW : Upd0 w W) (hz : chkOff x o = 0) => next0_any x o idx n W (h.kept hW) hz ho)
  obtain ⟨a, ha⟩ : ∃ a, a = askI x o idx n := ⟨_, rfl⟩
  rw [← ha] at HC HN
  have HA := Lib.hid ha
  obtain ⟨c0, c1⟩ := cells2_of HX1.out
  obtain ⟨o0, o1, o2, o3, o4, o5, o6, o7, hmap⟩ := eight ho
  rw [hmap] at hwb HX2 HC HND ⊢
  obtain ⟨e0, e1, e2, e3, e4, e5, e6, e7⟩ := cells8_of HX2.out
  clear h ho hnr ha hmap
  go_enter Tryz.func12, Tryz.ntmps12
  go_wp2_with (go_at_call 54; fail)
  rw [← hwb, ← hb]
  clear hwb hb
  simp only [Nat.add_assoc, Nat.reduceAdd]
  refine HC.out.mono ?_
  rintro e w2 ⟨rfl, hu2⟩
  have HU2 := Lib.hid (HU.out.trans hu2)
  have HY1 := Lib.hid ((hu2.block _ (lt_of_heap HX1.out) (fun e => e)).trans HX1.out)
  have HY2 := Lib.hid ((hu2.block _ (lt_of_heap HX2.out) (fun e => e)).trans HX2.out)
  have HY3 := Lib.hid ((hu2.block _ (lt_of_heap HX3.out) (fun e => e)).trans HX3.out)
  clear c0 c1 e0 e1 e2 e3 e4 e5 e6 e7 hu2 HX1 HX2 HX3
  obtain ⟨s0, s1, s2⟩ := cells3_of HY3.out
  have f0 : w2.frozen? ⟨b + 2, 0, none⟩ = false := frozen_of_heap HY3.out
  have f1 : w2.frozen? ⟨b + 2, 1, none⟩ = false := frozen_of_heap HY3.out
  have f2 : w2.frozen? ⟨b + 2, 2, none⟩ = false := frozen_of_heap HY3.out
  simp only []
  by_cases hz : a = 0
  · subst hz
    rw [if_neg (by simp)] at HN
    obtain ⟨hco, hsh⟩ := askI_zero HA.out.symm
    have HCI := Lib.hid (fun (r : RecV) (e : nextL o x.recs idx n = some r) => And.intro (nextL_grp hco e) (grpN_lt r))
    have HNX := Lib.hid (HND.out w2 HU2.out hco)
    obtain ⟨r?, hr?⟩ : ∃ r?, r? = nextL o x.recs idx n := ⟨_, rfl⟩
    rw [← hr?] at HN HNX HCI
    obtain ⟨c0, c1⟩ := cells2_of HY1.out
    obtain ⟨e0, e1, e2, e3, e4, e5, e6, e7⟩ := cells8_of HY2.out
    clear hco hsh hr?
    go_wp2_with (go_at_call 55; fail)
    refine HNX.out.mono ?_
    rintro e w3 ⟨rfl, hu3⟩
    have HU3 := Lib.hid (HU2.out.trans hu3)
    have HZ3 := Lib.hid ((hu3.block _ (lt_of_heap HY3.out) (fun e => e)).trans HY3.out)
    clear c0 c1 e0 e1 e2 e3 e4 e5 e6 e7 s0 s1 s2 f0 f1 f2 hu3
    obtain ⟨s0, s1, s2⟩ := cells3_of HZ3.out
    have f0 : w3.frozen? ⟨b + 2, 0, none⟩ = false := frozen_of_heap HZ3.out
    have f1 : w3.frozen? ⟨b + 2, 1, none⟩ = false := frozen_of_heap HZ3.out
    have f2 : w3.frozen? ⟨b + 2, 2, none⟩ = false := frozen_of_heap HZ3.out
    have hl2 := lt_of_heap HZ3.out
    simp only []
    cases r? with
    | none =>
      simp only [optR, Option.isSome]
      go_wp2
      obtain ⟨p1, p2⟩ := put3 (u := .int .i64 0) (v := .int .i64 0) (x := .int .i64 0) HZ3.out
      refine bodyPost_ret (results_cttt (fn := Tryz.f12) rfl rfl (load36 ((alloc_lt (Nat.lt_of_lt_of_le hl2 p2.size)).trans p1))) rfl ⟨?_, (HU3.out.cut p2 (fun b hb => by have := HBB.out; omega)).alloc _⟩
      rw [HN.out]; rfl
    | some r =>
      obtain ⟨hg, hg8⟩ := HCI.out r rfl
      simp only [optR, Option.isSome]
      obtain ⟨w4, hw4⟩ : ∃ w4, w4 = w3.alloc (.cells #[.int .i64 r.src, .int .i64 r.key, .int .i64 r.val] 36) := ⟨_, rfl⟩
      have hu4 : Upd0 w3 w4 := by rw [hw4]; exact (Upd.refl _ w3).alloc _
      have HZ4 := Lib.hid ((hu4.block _ (lt_of_heap HZ3.out) (fun e => e)).trans HZ3.out)
      have HR4 := Lib.hid (show w4.heap[w3.heap.size]? = some (.cells #[.int .i64 r.src, .int .i64 r.key, .int .i64 r.val] 36 (0, 0)) by rw [hw4]; exact alloc_at rfl)
      have HU4 := Lib.hid (HU3.out.trans hu4)
      have HG := Lib.hid hg
      obtain ⟨g, hgg⟩ : ∃ g : Int, g = grpN r := ⟨_, rfl⟩
      have HN2 : Hid (nr = (r, (grpN r : Int), true, 0)) := HN
      rw [← hgg] at HG HN2 hg
      clear HN
      clear hu4 hg8 hgg HCI
      go_upto_region 7 with fail
      rw [← hw4]
      clear hw4 s0 s1 s2 f0 f1 f2
      obtain ⟨s0, s1, s2⟩ := cells3_of HZ4.out
      have f0 : w4.frozen? ⟨b + 2, 0, none⟩ = false := frozen_of_heap HZ4.out
      have f1 : w4.frozen? ⟨b + 2, 1, none⟩ = false := frozen_of_heap HZ4.out
      have f2 : w4.frozen? ⟨b + 2, 2, none⟩ = false := frozen_of_heap HZ4.out
      obtain ⟨r0, r1, r2⟩ := cells3_of HR4.out
      have hne : ¬ (b + 2 = w3.heap.size) := by omega
      have hne' : ¬ (w3.heap.size = b + 2) := by omega
      go_region
      go_wp2
      obtain ⟨p1, p2⟩ := put3 (u := .int .i64 r.src) (v := .int .i64 r.key) (x := .int .i64 r.val) HZ4.out
      have p3 := p2.drew
      refine bodyPost_ret (results_cttt (fn := Tryz.f12) rfl rfl (load36 (W := World.drew _) p1)) rfl ⟨?_, HU4.out.cut p3 (fun b hb => by have := HBB.out; omega)⟩
      rw [HN2.out]; rfl
  · have hz' : (a != 0) = true := by simpa using hz
    rw [if_pos hz] at HN
    clear hz
    go_wp2
    obtain ⟨p1, p2⟩ := put3 (u := .int .i64 0) (v := .int .i64 0) (x := .int .i64 0) HY3.out
    refine bodyPost_ret (results_cttt (fn := Tryz.f12) rfl rfl (load36 p1)) rfl ⟨?_, HU2.out.cut p2 (fun b hb => by have := HBB.out; omega)⟩
    rw [HN.out]; rfl
/-- What Read answers. -/
def ReadR (x : InM) (o : List Int) (idx n : Int) : List Int × Int :=
  if askI x o idx n ≠ 0 then (zer8, askI x o idx n) else (readO o (nextL o x.recs idx n), 0)
theorem readO_len {o : List Int} (ho : o.length = 8) (r : Option RecV) : (readO o r).length = 8 := by
  cases r <;> simp [readO, ho]
theorem ReadR_len {x : InM} {o : List Int} (ho : o.length = 8) (idx n : Int) : (ReadR x o idx n).1.length = 8 := by
  unfold ReadR
  split
  · rfl
  · exact readO_len ho _
theorem load43 {W : World} {t : Nat} {o : List Int} (h : W.heap[t]? = some (.cells (o.map I).toArray 43 (0, 0))) (h8 : o.length = 8) : (loadVar 43 ⟨t, 0, none⟩).run Tryz.prog W = .ok (.agg (o.map I).toArray) W :=
  run_loadVar_mid (P := Tryz.prog) W t 0 43 (o.map I) _ (rangeAt_block h) Tryz.underlying43 rfl (by rw [Tryz.size43]; simp [h8])
theorem put_off {W : World} {t : Nat} {o : List Int} {g : Nat} {v : Int} (h : W.heap[t]? = some (.cells (o.map I).toArray 43 (0, 0))) : (W.setCell ⟨t, g, none⟩ (.int .i64 v)).heap[t]? = some (.cells ((o.set g v).map I).toArray 43 (0, 0)) := by
  have := blk_set (i := g) (v := .int .i64 v) h
  rw [this]
  simp [List.map_set]
theorem off_ends {x : InM} {o : List Int} (h : chkOff x o = 0) (g : Nat) (hg : g < 8) : 0 ≤ o.getD g 0 ∧ o.getD g 0 ≤ 40 := by
  obtain ⟨h1, h2⟩ := chkOff_in h
  have := offB_all h2 g hg
  rw [totT_get _ hg] at this
  have h3 := cnt_le x.recs g
  have h4 := (chkIn_zero h1).1
  omega
set_option maxHeartbeats 4000000 in
theorem kread_any (x : InM) (o : List Int) (idx n : Int) (w : World) (h : RecsIn w x.ra x.recs) (hl : x.recs.length ≤ 140737488351232) (ho : o.length = 8) :
    Calls Tryz.prog 13 #[.agg #[.int .i64 x.src, .slice x.ra x.recs.length x.rc], .agg (o.map I).toArray, .int .i64 idx, .int .i64 n] w fun e w' => e = .returned (.tuple #[.agg ((ReadR x o idx n).1.map I).toArray, .int .i64 (ReadR x o idx n).2]) ∧ Upd0 w w' := by
  obtain ⟨b, hb⟩ : ∃ b, b = w.heap.size := ⟨_, rfl⟩
  obtain ⟨wb, hwb⟩ : ∃ wb, wb = ((w.alloc (.cells #[.int .i64 x.src, .slice x.ra x.recs.length x.rc] 41)).alloc (.cells (o.map I).toArray 43)).alloc (.cells #[.int .i64 0, .int .i64 0, .int .i64 0, .int .i64 0, .int .i64 0, .int .i64 0, .int .i64 0, .int .i64 0] 43) := ⟨_, rfl⟩
  have HU := Lib.hid (show Upd0 w wb by rw [hwb]; exact (((Upd.refl _ w).alloc _).alloc _).alloc _)
  have HX1 := Lib.hid (show wb.heap[b]? = some (.cells #[.int .i64 x.src, .slice x.ra x.recs.length x.rc] 41 (0, 0)) by rw [hwb, hb]; exact (alloc_lt (by simp <;> omega)).trans ((alloc_lt (by simp)).trans (alloc_at rfl)))
  have HX2 := Lib.hid (show wb.heap[b + 1]? = some (.cells (o.map I).toArray 43 (0, 0)) by rw [hwb, hb]; exact (alloc_lt (by simp)).trans (alloc_at (by simp)))
  have HX3 := Lib.hid (show wb.heap[b + 2]? = some (.cells #[.int .i64 0, .int .i64 0, .int .i64 0, .int .i64 0, .int .i64 0, .int .i64 0, .int .i64 0, .int .i64 0] 43 (0, 0)) by rw [hwb, hb]; exact alloc_at (by simp))
  have HC := Lib.hid (kasked_any x o idx n wb (h.kept HU.out) hl ho)
  have H := Lib.hid h; have HOL := Lib.hid ho
  have HBB := Lib.hid hb
  obtain ⟨nr, hnr⟩ : ∃ nr, nr = ReadR x o idx n := ⟨_, rfl⟩
  have HN := Lib.hid (show nr = if askI x o idx n ≠ 0 then (zer8, askI x o idx n) else (readO o (nextL o x.recs idx n), 0) from hnr)
  rw [← hnr]
  have HND := Lib.hid (fun (W : World) (hW : Upd0 w W) (hz : chkOff x o = 0) => next0_any x o idx n W (h.kept hW) hz ho)
  obtain ⟨a, ha⟩ : ∃ a, a = askI x o idx n := ⟨_, rfl⟩
  rw [← ha] at HC HN
  have HA := Lib.hid ha
  obtain ⟨c0, c1⟩ := cells2_of HX1.out
  have HO2 := HX2
  obtain ⟨o0, o1, o2, o3, o4, o5, o6, o7, hmap⟩ := eight ho
  rw [hmap] at hwb HX2 HC HND ⊢
  have HMAP := Lib.hid hmap
  obtain ⟨e0, e1, e2, e3, e4, e5, e6, e7⟩ := cells8_of HX2.out
  clear h ho hnr ha hmap
  go_enter Tryz.func13, Tryz.ntmps13
  go_wp2_with (go_at_call 54; fail)
  rw [← hwb, ← hb]
  clear hwb hb
  simp only [Nat.add_assoc, Nat.reduceAdd]
  refine HC.out.mono ?_
  rintro e w2 ⟨rfl, hu2⟩
  have HU2 := Lib.hid (HU.out.trans hu2)
  have HY1 := Lib.hid ((hu2.block _ (lt_of_heap HX1.out) (fun e => e)).trans HX1.out)
  have HY2 := Lib.hid ((hu2.block _ (lt_of_heap HX2.out) (fun e => e)).trans HX2.out)
  have HY2' := Lib.hid ((hu2.block _ (lt_of_heap HO2.out) (fun e => e)).trans HO2.out)
  have HY3 := Lib.hid ((hu2.block _ (lt_of_heap HX3.out) (fun e => e)).trans HX3.out)
  clear c0 c1 e0 e1 e2 e3 e4 e5 e6 e7 hu2 HX1 HX2 HX3 HO2
  simp only []
  by_cases hz : a = 0
  · subst hz
    rw [if_neg (by simp)] at HN
    obtain ⟨hco, hsh⟩ := askI_zero HA.out.symm
    have HCI := Lib.hid (fun (r : RecV) (e : nextL o x.recs idx n = some r) => And.intro (nextL_grp hco e) (And.intro (grpN_lt r) (off_ends hco _ (grpN_lt r))))
    have HNX := Lib.hid (HND.out w2 HU2.out hco)
    obtain ⟨r?, hr?⟩ : ∃ r?, r? = nextL o x.recs idx n := ⟨_, rfl⟩
    rw [← hr?] at HN HNX HCI
    obtain ⟨c0, c1⟩ := cells2_of HY1.out
    obtain ⟨e0, e1, e2, e3, e4, e5, e6, e7⟩ := cells8_of HY2.out
    clear hco hsh hr?
    go_wp2_with (go_at_call 55; fail)
    refine HNX.out.mono ?_
    rintro e w3 ⟨rfl, hu3⟩
    have HU3 := Lib.hid (HU2.out.trans hu3)
    have HZ2 := Lib.hid ((hu3.block _ (lt_of_heap HY2.out) (fun e => e)).trans HY2.out)
    have HZ2' := Lib.hid ((hu3.block _ (lt_of_heap HY2'.out) (fun e => e)).trans HY2'.out)
    have HZ3 := Lib.hid ((hu3.block _ (lt_of_heap HY3.out) (fun e => e)).trans HY3.out)
    clear c0 c1 e0 e1 e2 e3 e4 e5 e6 e7 hu3
    have hl2 := lt_of_heap HZ3.out
    have hl1 := lt_of_heap HZ2.out
    simp only []
    cases r? with
    | none =>
      simp only [optR, Option.isSome]
      obtain ⟨w4, hw4⟩ : ∃ w4, w4 = w3.alloc (.cells #[.int .i64 0, .int .i64 0, .int .i64 0] 36) := ⟨_, rfl⟩
      have hu4 : Upd0 w3 w4 := by rw [hw4]; exact (Upd.refl _ w3).alloc _
      have HV2 := Lib.hid ((hu4.block _ (lt_of_heap HZ2.out) (fun e => e)).trans HZ2.out)
      have HV3 := Lib.hid ((hu4.block _ (lt_of_heap HZ3.out) (fun e => e)).trans HZ3.out)
      have HU4 := Lib.hid (HU3.out.trans hu4)
      clear hu4
      go_upto_region 7 with fail
      rw [← hw4]
      clear hw4 hl1 hl2
      obtain ⟨e0, e1, e2, e3, e4, e5, e6, e7⟩ := cells8_of HV2.out
      obtain ⟨s0, s1, s2, s3, s4, s5, s6, s7⟩ := cells8_of HV3.out
      have ff : ∀ j, w4.frozen? ⟨b + 2, j, none⟩ = false := fun j => frozen_of_heap HV3.out
      have f0 := ff 0; have f1 := ff 1; have f2 := ff 2; have f3 := ff 3; have f4 := ff 4; have f5 := ff 5; have f6 := ff 6; have f7 := ff 7
      clear ff
      go_wp2
      obtain ⟨p1, p2⟩ := put8 (v0 := .int .i64 o0) (v1 := .int .i64 o1) (v2 := .int .i64 o2) (v3 := .int .i64 o3) (v4 := .int .i64 o4) (v5 := .int .i64 o5) (v6 := .int .i64 o6) (v7 := .int .i64 o7) HV3.out
      rw [← HMAP.out] at p1
      refine bodyPost_ret (results_ct (fn := Tryz.f13) rfl rfl (load43 p1 HOL.out)) rfl ⟨?_, HU4.out.cut p2 (fun b hb => by have := HBB.out; omega)⟩
      rw [HN.out]; rfl
    | some r =>
      obtain ⟨hg, hg8, hg0, hg40⟩ := HCI.out r rfl
      simp only [optR, Option.isSome]
      obtain ⟨w4, hw4⟩ : ∃ w4, w4 = w3.alloc (.cells #[.int .i64 r.src, .int .i64 r.key, .int .i64 r.val] 36) := ⟨_, rfl⟩
      have hu4 : Upd0 w3 w4 := by rw [hw4]; exact (Upd.refl _ w3).alloc _
      have HV2 := Lib.hid ((hu4.block _ (lt_of_heap HZ2'.out) (fun e => e)).trans HZ2'.out)
      have HV3 := Lib.hid ((hu4.block _ (lt_of_heap HZ3.out) (fun e => e)).trans HZ3.out)
      have HR4 := Lib.hid (show w4.heap[w3.heap.size]? = some (.cells #[.int .i64 r.src, .int .i64 r.key, .int .i64 r.val] 36 (0, 0)) by rw [hw4]; exact alloc_at rfl)
      have HU4 := Lib.hid (HU3.out.trans hu4)
      obtain ⟨g, hgg⟩ : ∃ g, g = grpN r := ⟨_, rfl⟩
      have HN2 := Lib.hid (show nr = (o.set (grpN r) (o.getD (grpN r) 0 + 1), 0) from HN.out)
      rw [← hgg] at HN2 hg hg8 hg0 hg40
      obtain ⟨og, hog⟩ : ∃ og, og = o.getD g 0 := ⟨_, rfl⟩
      rw [← hog] at HN2 hg0 hg40
      have HC4 := Lib.hid (show w4.cell? ⟨b + 1, g, none⟩ = some (.int .i64 og) by
        rw [cell_of_heap HV2.out, hog]
        have := HOL.out
        simp [List.getD, show g < o.length by omega])
      clear hu4 hgg HCI HN hog
      go_upto_region 6 with fail
      rw [← hw4]
      clear hw4
      obtain ⟨r0, r1, r2⟩ := cells3_of HR4.out
      have cg := HC4.out
      have fg : w4.frozen? ⟨b + 1, g, none⟩ = false := frozen_of_heap HV2.out
      have hww : IntKind.i64.wrap (og + 1) = og + 1 := by rw [IntKind.wrap_i64]; omega
      have hg8i : (g : Int) < 8 := by omega
      go_upto_region 7 with fail
      obtain ⟨w6, hw6⟩ : ∃ w6, w6 = w4.setCell ⟨b + 1, g, none⟩ (.int .i64 (og + 1)) := ⟨_, rfl⟩
      rw [← hw6]
      have hu6 : Upd (fun k => k = b + 1) w4 w6 := by rw [hw6]; exact upd_own _ _ _ _
      have hv6 := put_off (g := g) (v := og + 1) HV2.out
      rw [← hw6] at hv6
      have HV6 := Lib.hid hv6
      have HW6 := Lib.hid ((hu6.block (b + 2) (lt_of_heap HV3.out) (by omega)).trans HV3.out)
      have HU6 := Lib.hid (HU4.out.cut hu6 (fun b hb => by have := HBB.out; omega))
      have h8 : (o.set g (og + 1)).length = 8 := by simp [HOL.out]
      have H8 := Lib.hid h8
      obtain ⟨p0, p1, p2, p3, p4, p5, p6, p7, hmp⟩ := eight h8
      have HMP := Lib.hid hmp
      rw [hmp] at hv6
      obtain ⟨e0, e1, e2, e3, e4, e5, e6, e7⟩ := cells8_of hv6
      clear hw6 hu6 hv6 h8 hmp cg fg r0 r1 r2 hl1 hl2
      obtain ⟨s0, s1, s2, s3, s4, s5, s6, s7⟩ := cells8_of HW6.out
      have ff : ∀ j, w6.frozen? ⟨b + 2, j, none⟩ = false := fun j => frozen_of_heap HW6.out
      have f0 := ff 0; have f1 := ff 1; have f2 := ff 2; have f3 := ff 3; have f4 := ff 4; have f5 := ff 5; have f6 := ff 6; have f7 := ff 7
      clear ff
      go_wp2
      obtain ⟨q1, q2⟩ := put8 (v0 := .int .i64 p0) (v1 := .int .i64 p1) (v2 := .int .i64 p2) (v3 := .int .i64 p3) (v4 := .int .i64 p4) (v5 := .int .i64 p5) (v6 := .int .i64 p6) (v7 := .int .i64 p7) HW6.out
      rw [← HMP.out] at q1
      refine bodyPost_ret (results_ct (fn := Tryz.f13) rfl rfl (load43 q1 H8.out)) rfl ⟨?_, HU6.out.cut q2 (fun b hb => by have := HBB.out; omega)⟩
      rw [HN2.out]; rfl
  · have hz' : (a != 0) = true := by simpa using hz
    rw [if_pos hz] at HN
    clear hz
    obtain ⟨s0, s1, s2, s3, s4, s5, s6, s7⟩ := cells8_of HY3.out
    have ff : ∀ j, w2.frozen? ⟨b + 2, j, none⟩ = false := fun j => frozen_of_heap HY3.out
    have f0 := ff 0; have f1 := ff 1; have f2 := ff 2; have f3 := ff 3; have f4 := ff 4; have f5 := ff 5; have f6 := ff 6; have f7 := ff 7
    clear ff
    go_wp2
    obtain ⟨p1, p2⟩ := put8 (v0 := .int .i64 0) (v1 := .int .i64 0) (v2 := .int .i64 0) (v3 := .int .i64 0) (v4 := .int .i64 0) (v5 := .int .i64 0) (v6 := .int .i64 0) (v7 := .int .i64 0) HY3.out
    refine bodyPost_ret (results_ct (fn := Tryz.f13) rfl rfl (load43 (o := zer8) p1 rfl)) rfl ⟨?_, HU2.out.cut p2 (fun b hb => by have := HBB.out; omega)⟩
    rw [HN.out]; rfl
end Go.Proofs.YtbonfdkgkcbkmaaGreat
end

section
namespace Go.Proofs.YtbonfdkgkcbkmaaGreat
set_option maxRecDepth 100000
open Go.RowKit

/-- Whose a group is. -/
def ownG (idx w : Int) (g : Nat) : Bool := decide ((g : Int) * w / 8 = idx)
/-- The offsets of a share that has gone through the first k records. -/
def offG (recs : List RecV) (idx w : Int) (k g : Nat) : Int := if ownG idx w g then cnt (recs.take k) g else 0
def offAt (recs : List RecV) (idx w : Int) (k : Nat) : List Int := (List.range 8).map (offG recs idx w k)
/-- The records of a share. -/
def mineL (recs : List RecV) (idx w : Int) : List RecV := recs.filter fun r => mineB r idx w
theorem offAt_len (recs : List RecV) (idx w : Int) (k : Nat) : (offAt recs idx w k).length = 8 := by simp [offAt]
theorem offAt_get {recs : List RecV} {idx w : Int} {k g : Nat} (h : g < 8) : (offAt recs idx w k).getD g 0 = offG recs idx w k g := by
  simp [offAt, List.getD_eq_getElem?_getD, h]
theorem offAt_zero (recs : List RecV) (idx w : Int) : offAt recs idx w 0 = zer8 := by
  have : ∀ g, offG recs idx w 0 g = 0 := fun g => by simp [offG, cnt]
  simp [offAt, this, zer8, List.range, List.range.loop]
theorem mineB_own {r : RecV} {idx w : Int} (h : chkRec r = 0) (hs : shareB idx w = true) : mineB r idx w = ownG idx w (grpN r) := by
  rw [mineB_eq, h, hs]; simp [ownG]
theorem find_part {recs : List RecV} {idx w : Int} {k : Nat} (hr : ∀ r ∈ recs, chkRec r = 0) (hs : shareB idx w = true) : ∀ (l pre : List RecV), recs = pre ++ l →
    ((partFrom (offAt recs idx w k) pre l).find? (freeB idx w)).map (·.1) = (l.drop (k - pre.length)).find? fun r => mineB r idx w
  | [], pre, _ => by simp [partFrom]
  | r :: l, pre, h => by
    have ih := find_part (k := k) hr hs l (pre ++ [r]) (by rw [h]; simp)
    have hm := mineB_own (hr r (by rw [h]; simp)) hs
    have hg := grpN_lt r
    rw [partFrom, List.find?_cons]
    by_cases hk : pre.length < k
    · have e1 : (r :: l).drop (k - pre.length) = l.drop (k - (pre ++ [r]).length) := by
        rw [show k - pre.length = (k - (pre ++ [r]).length) + 1 by simp; omega, List.drop_succ_cons]
      have e2 : freeB idx w (r, emitB (offAt recs idx w k) pre r) = false := by
        unfold freeB
        cases hx : mineB r idx w with
        | false => simp
        | true =>
          have : emitB (offAt recs idx w k) pre r = true := by
            unfold emitB
            rw [decide_eq_true_eq, offAt_get hg, offG, if_pos (by rw [← hm]; exact hx)]
            have e3 : recs.take k = (pre ++ [r]) ++ l.take (k - (pre ++ [r]).length) := by
              rw [h, show pre ++ r :: l = (pre ++ [r]) ++ l by simp, List.take_append, List.take_of_length_le (by simp; omega)]
            rw [e3]
            exact cnt_app _ _ _
          simp [this]
      rw [e1, ← ih]
      simp only [e2]
    · have e0 : k - pre.length = 0 := by omega
      have e0' : k - (pre ++ [r]).length = 0 := by simp; omega
      rw [e0, List.drop_zero, List.find?_cons]
      rw [e0', List.drop_zero] at ih
      cases hx : mineB r idx w with
      | false =>
        have : freeB idx w (r, emitB (offAt recs idx w k) pre r) = false := by simp [freeB, hx]
        simp only [this]
        exact ih
      | true =>
        have : emitB (offAt recs idx w k) pre r = false := by
          unfold emitB
          rw [decide_eq_false_iff_not, offAt_get hg, offG, if_pos (by rw [← hm]; exact hx), cnt_snoc, if_pos (show r.key.toNat % 8 = grpN r from rfl)]
          have e3 : pre = recs.take k ++ pre.drop k := by
            have e4 : recs.take k = pre.take k := by rw [h, List.take_append_of_le_length (by omega)]
            rw [e4, List.take_append_drop]
          have := cnt_app (recs.take k) (pre.drop k) (grpN r)
          rw [← e3] at this
          omega
        simp [freeB, hx, this]
theorem next_at {recs : List RecV} {idx w : Int} (hr : ∀ r ∈ recs, chkRec r = 0) (hs : shareB idx w = true) (k : Nat) : nextL (offAt recs idx w k) recs idx w = (recs.drop k).find? fun r => mineB r idx w := by
  have := find_part (k := k) hr hs recs [] rfl
  simpa [nextL, partL] using this
theorem next_none {recs : List RecV} {idx w : Int} (hr : ∀ r ∈ recs, chkRec r = 0) (hs : shareB idx w = true) {k : Nat} (h : nextL (offAt recs idx w k) recs idx w = none) : mineL (recs.take k) idx w = mineL recs idx w := by
  rw [next_at hr hs, List.find?_eq_none] at h
  have e : mineL recs idx w = mineL (recs.take k) idx w ++ mineL (recs.drop k) idx w := by
    unfold mineL
    rw [← List.filter_append, List.take_append_drop]
  have e2 : mineL (recs.drop k) idx w = [] := by
    unfold mineL
    rw [List.filter_eq_nil_iff]
    exact h
  rw [e, e2, List.append_nil]
theorem next_some {recs : List RecV} {idx w : Int} (hr : ∀ r ∈ recs, chkRec r = 0) (hs : shareB idx w = true) {k : Nat} {r : RecV} (h : nextL (offAt recs idx w k) recs idx w = some r) :
    ∃ k', k < k' ∧ k' ≤ recs.length ∧ mineL (recs.take k') idx w = mineL (recs.take k) idx w ++ [r] ∧ readO (offAt recs idx w k) (some r) = offAt recs idx w k' ∧ mineB r idx w = true ∧ r ∈ recs := by
  rw [next_at hr hs, List.find?_eq_some_iff_append] at h
  obtain ⟨hm, pa, bs, e, hn⟩ := h
  have hn' : ∀ a ∈ pa, mineB a idx w = false := fun a ha => by simpa using hn a ha
  have hrm : r ∈ recs := by
    have : r ∈ recs.drop k := by rw [e]; simp
    exact List.mem_of_mem_drop this
  have hlen : k + pa.length + 1 ≤ recs.length := by
    have := congrArg List.length e
    simp at this
    omega
  have et : recs.take (k + pa.length + 1) = recs.take k ++ (pa ++ [r]) := by
    rw [show k + pa.length + 1 = k + (pa.length + 1) by omega, List.take_add, e]
    congr 1
    rw [show pa ++ r :: bs = (pa ++ [r]) ++ bs by simp, List.take_append_of_le_length (by simp), List.take_of_length_le (by simp)]
  refine ⟨k + pa.length + 1, by omega, hlen, ?_, ?_, hm, hrm⟩
  · rw [et]
    unfold mineL
    rw [List.filter_append, List.filter_append]
    have : pa.filter (fun r => mineB r idx w) = [] := by rw [List.filter_eq_nil_iff]; intro a ha; simp [hn' a ha]
    rw [this]
    simp [hm]
  · have hgr := grpN_lt r
    have hmo : ownG idx w (grpN r) = true := by rw [← mineB_own (hr r hrm) hs]; exact hm
    have cas : ∀ (l : List RecV) (g : Nat), ownG idx w g = true → (∀ a ∈ l, chkRec a = 0 ∧ mineB a idx w = false) → ∀ p, cnt (p ++ l) g = cnt p g := by
      intro l g hg
      induction l with
      | nil => intro _ p; simp
      | cons a l ih =>
        intro ha p
        have h1 := ha a (by simp)
        have h2 := ih (fun b hb => ha b (by simp [hb])) (p ++ [a])
        rw [show p ++ a :: l = (p ++ [a]) ++ l by simp, h2, cnt_snoc, if_neg, Int.add_zero]
        intro hga
        have := mineB_own h1.1 hs
        rw [h1.2] at this
        rw [show grpN a = g from hga, hg] at this
        cases this
    have key : ∀ g, g < 8 → offG recs idx w (k + pa.length + 1) g = if g = grpN r then offG recs idx w k g + 1 else offG recs idx w k g := by
      intro g hg
      unfold offG
      by_cases ho : ownG idx w g = true
      · rw [if_pos ho, if_pos ho, et, ← List.append_assoc, cnt_snoc, cas pa g ho (fun a ha => ⟨hr a (List.mem_of_mem_drop (by rw [e]; simp [ha])), hn' a ha⟩)]
        by_cases e4 : g = grpN r
        · rw [if_pos (show r.key.toNat % 8 = g from e4.symm), if_pos e4]
        · rw [if_neg (show ¬ r.key.toNat % 8 = g from fun x => e4 x.symm), if_neg e4, Int.add_zero]
      · rw [if_neg ho, if_neg ho, if_neg]
        rintro rfl
        exact ho hmo
    unfold readO
    apply List.ext_getElem?
    intro i
    by_cases hi : i < 8
    · rw [List.getElem?_set, offAt_get hgr]
      simp only [offAt, List.getElem?_map, List.length_map, List.length_range, List.getElem?_range hi, Option.map_some]
      rw [key i hi]
      by_cases e5 : grpN r = i
      · subst e5; simp [hi]
      · rw [if_neg e5, if_neg (fun x => e5 x.symm)]
    · rw [List.getElem?_eq_none (by simp [offAt]; omega), List.getElem?_eq_none (by simp [offAt]; omega)]
theorem sum_add (f : Nat → Int) (a : Nat) (c : Nat → Int) (hc : ∀ g, c g = f g + if g = a then 1 else 0) : ∀ n, ((List.range n).map c).sum = ((List.range n).map f).sum + if a < n then 1 else 0
  | 0 => by simp
  | n + 1 => by
    rw [List.range_succ, List.map_append, List.map_append, List.sum_append, List.sum_append, sum_add f a c hc n]
    simp only [List.map_cons, List.map_nil, List.sum_cons, List.sum_nil]
    rw [hc n]
    by_cases e : n = a
    · subst e; rw [if_neg (Nat.lt_irrefl _), if_pos rfl, if_pos (by omega)]; omega
    · by_cases e2 : a < n
      · rw [if_pos e2, if_neg e, if_pos (by omega)]; omega
      · have e3 : ¬ a < n + 1 := by omega
        simp [e, e2, e3]
theorem cnt_cons (r : RecV) (l : List RecV) (g : Nat) : cnt (r :: l) g = cnt l g + if g = grpN r then 1 else 0 := by
  simp only [cnt, List.filter_cons]
  by_cases e : g = grpN r
  · rw [if_pos (by simp [e, grpN]), if_pos e]; simp
  · rw [if_neg (by simp only [beq_iff_eq]; intro x; exact e x.symm), if_neg e]; simp
theorem sum_own (idx w : Int) (hs : shareB idx w = true) : ∀ (l : List RecV), (∀ r ∈ l, chkRec r = 0) → ((List.range 8).map fun g => if ownG idx w g then cnt l g else 0).sum = ((mineL l idx w).length : Int)
  | [], _ => by simp [cnt, mineL, List.range, List.range.loop]
  | r :: l, h => by
    have ih := sum_own idx w hs l (fun a ha => h a (by simp [ha]))
    have hm := mineB_own (h r (by simp)) hs
    have em : mineL (r :: l) idx w = (if mineB r idx w then [r] else []) ++ mineL l idx w := by
      unfold mineL
      rw [List.filter_cons]
      split <;> simp
    rw [em, List.length_append]
    by_cases ho : ownG idx w (grpN r) = true
    · rw [sum_add (fun g => if ownG idx w g then cnt l g else 0) (grpN r) (fun g => if ownG idx w g then cnt (r :: l) g else 0) (fun g => by
        rw [cnt_cons]
        by_cases e : g = grpN r
        · subst e
          rw [if_pos ho, if_pos ho, if_pos rfl]
        · rw [if_neg e, Int.add_zero, Int.add_zero]), ih, if_pos (grpN_lt r), hm, ho]
      simp only [if_true, List.length_singleton]
      omega
    · have e3 : ((List.range 8).map fun g => if ownG idx w g then cnt (r :: l) g else 0) = ((List.range 8).map fun g => if ownG idx w g then cnt l g else 0) := by
        apply List.map_congr_left
        intro g _
        split
        · rename_i hg
          rw [cnt_cons, if_neg, Int.add_zero]
          intro x
          exact ho (by rw [← x]; exact hg)
        · rfl
      rw [e3, ih, hm]
      simp [ho]
theorem sum_off {recs : List RecV} {idx w : Int} (hr : ∀ r ∈ recs, chkRec r = 0) (hs : shareB idx w = true) (k : Nat) : (offAt recs idx w k).sum = ((mineL (recs.take k) idx w).length : Int) :=
  sum_own idx w hs (recs.take k) (fun r h => hr r (List.mem_of_mem_take h))
theorem chk_at {x : InM} {idx w : Int} (h : chkIn x = 0) (k : Nat) : chkOff x (offAt x.recs idx w k) = 0 := by
  refine chkOff_mk h (offB_yes fun g hg => ?_)
  rw [offAt_get hg, totT_get _ hg]
  have h1 := cnt_le x.recs g
  unfold offG
  split
  · have h2 := cnt_le (x.recs.take k) g
    have h3 := cnt_app (x.recs.take k) (x.recs.drop k) g
    rw [List.take_append_drop] at h3
    omega
  · omega
theorem mineL_take (recs : List RecV) (idx w : Int) (k : Nat) : ∃ t, mineL recs idx w = mineL (recs.take k) idx w ++ t := by
  refine ⟨mineL (recs.drop k) idx w, ?_⟩
  unfold mineL
  rw [← List.filter_append, List.take_append_drop]
end Go.Proofs.YtbonfdkgkcbkmaaGreat
end

section
namespace Go.Proofs.YtbonfdkgkcbkmaaGreat
set_option maxRecDepth 100000
open Go.RowKit

/-- A source and a sink. -/
def srcG (ia : Option Addr) (ic : Nat) (w a : Int) : List OpM := [⟨1, w, none, 0, [], a, 0⟩, ⟨7, 1, ia, ic, [0], 0, 0⟩]
theorem srcG_chk (ia : Option Addr) (ic : Nat) {w a : Int} (hw : 1 ≤ w ∧ w ≤ 3) (ha : 0 ≤ a ∧ a < 4) : (chkG (srcG ia ic w a)).2 = 0 := by
  have h1 : w = 1 ∨ w = 2 ∨ w = 3 := by omega
  have h2 : a = 0 ∨ a = 1 ∨ a = 2 ∨ a = 3 := by omega
  rcases h1 with rfl | rfl | rfl <;> rcases h2 with rfl | rfl | rfl | rfl <;> rfl
theorem srcG_subs (ia : Option Addr) (ic : Nat) {w a : Int} (hw : 1 ≤ w ∧ w ≤ 3) : subsL (srcG ia ic w a) = (List.range w.toNat).map (fun k : Nat => ((0 : Int), (k : Int))) ++ [(1, 0)] := by
  have h1 : w = 1 ∨ w = 2 ∨ w = 3 := by omega
  rcases h1 with rfl | rfl | rfl <;> rfl
theorem srcG_sub (ia : Option Addr) (ic : Nat) {w a : Int} {k : Nat} (hw : 1 ≤ w ∧ w ≤ 3) (hk : (k : Int) < w) : (subsL (srcG ia ic w a))[k]? = some (0, (k : Int)) := by
  rw [srcG_subs ia ic hw, List.getElem?_append_left (by simp; omega), List.getElem?_map, List.getElem?_range (by omega)]
  rfl
theorem srcG_l1 (ia : Option Addr) (ic : Nat) (a : Int) : linksL (srcG ia ic 1 a) = [⟨0, 1, 255⟩] := by kernel_rfl
theorem srcG_l2 (ia : Option Addr) (ic : Nat) (a : Int) : linksL (srcG ia ic 2 a) = [⟨0, 2, 15⟩, ⟨1, 2, 240⟩] := by kernel_rfl
theorem srcG_l3 (ia : Option Addr) (ic : Nat) (a : Int) : linksL (srcG ia ic 3 a) = [⟨0, 3, 7⟩, ⟨1, 3, 56⟩, ⟨2, 3, 192⟩] := by kernel_rfl
end Go.Proofs.YtbonfdkgkcbkmaaGreat
end

section
namespace Go.Proofs.YtbonfdkgkcbkmaaGreat
set_option maxRecDepth 100000
open Go.RowKit Go.Shelf

attribute [local go_sem] Oper.semAt_some
set_option maxHeartbeats 8000000 in
theorem of_any {a : Option Addr} {l : List RecV} {c : Nat} (key : RecV) (w : World) (h : RecsIn w a l) (hl : l.length ≤ 1000000) :
    Calls Tryz.prog 95 #[.slice a l.length c, .agg #[.int .i64 key.src, .int .i64 key.key, .int .i64 key.val]] w fun e w' => ∃ a2 c2, e = .returned (.slice a2 (valsK l key).length c2) ∧ OwnI w' w.heap.size 2 (.slice a2 (valsK l key).length c2) (valsK l key) ∧ Upd0 w w' := by
  obtain ⟨wb, hwb⟩ : ∃ wb, wb = w.alloc (.cells #[.int .i64 key.src, .int .i64 key.key, .int .i64 key.val] 36) := ⟨_, rfl⟩
  have HU := Lib.hid (show Upd0 w wb by rw [hwb]; exact (Upd.refl _ w).alloc _)
  have HX2 := Lib.hid (show wb.heap[w.heap.size]? = some (.cells #[.int .i64 key.src, .int .i64 key.key, .int .i64 key.val] 36 (0, 0)) by rw [hwb]; exact alloc_at rfl)
  have H := Lib.hid (h.kept HU.out)
  obtain ⟨vk, hvk⟩ : ∃ vk, vk = valsK l key := ⟨_, rfl⟩
  have HV0 := Lib.hid (show [] ++ valsK (l.drop 0) key = vk by rw [hvk]; rfl)
  rw [← hvk]
  obtain ⟨kb, hkb⟩ : ∃ kb, kb = w.heap.size := ⟨_, rfl⟩
  have HKB := Lib.hid (show w.heap.size ≤ wb.heap.size from HU.out.size)
  rw [← hkb] at HX2
  clear h hvk
  go_enter Tryz.func95, Tryz.ntmps95
  go_wp2_with (fail)
  rw [← hwb, ← hkb]
  clear hwb hkb
  go_loopw [5, 10] (fun t i wr => ∃ (k : Nat) (e : List Int) (qa : Option Addr) (qc : Nat), k ≤ l.length ∧ i = .int .i64 k ∧ t = .slice qa e.length qc ∧ e.length ≤ k ∧ Hid (RowE 2 wb wb.heap.size e qa qc wr) ∧ Hid (e ++ valsK (l.drop k) key = vk)) (fun _ i _ => l.length - (intOf i).toNat)
  case atStart => exact ⟨0, [], none, 0, Nat.zero_le _, rfl, rfl, by simp, Lib.hid ⟨World.ownsRow_nil _ _ _ _, Upd.refl _ _, Nat.le_refl _⟩, HV0⟩
  case round =>
    obtain ⟨k, e, qa, qc, hk, rfl, rfl, hel, HR, HE⟩ := hrel
    by_cases hlt : k < l.length
    · obtain ⟨x, hx⟩ : ∃ x, l[k]? = some x := ⟨_, List.getElem?_eq_getElem hlt⟩
      obtain ⟨b, f, hra, c0, c1, c2⟩ := (H.out.kept HR.out.upd).at hx
      have hbl := lt_of_cell c0
      have HE2 : Hid (e ++ valsK (x :: l.drop (k + 1)) key = vk) := by rw [← drop_cons' hx]; exact HE
      obtain ⟨w4, hw4⟩ : ∃ w4, w4 = wr.alloc (.cells #[.int .i64 x.src, .int .i64 x.key, .int .i64 x.val] 36) := ⟨_, rfl⟩
      have hu4 : Upd0 wr w4 := by rw [hw4]; exact (Upd.refl _ wr).alloc _
      have HX4 := Lib.hid (show w4.heap[wr.heap.size]? = some (.cells #[.int .i64 x.src, .int .i64 x.key, .int .i64 x.val] 36 (0, 0)) by rw [hw4]; exact alloc_at rfl)
      have HR4 := Lib.hid (HR.out.upd0 hu4)
      have HK4 := Lib.hid ((HR4.out.upd.block _ (lt_of_heap HX2.out) (fun e => e)).trans HX2.out)
      obtain ⟨bx, hbx⟩ : ∃ bx, bx = wr.heap.size := ⟨_, rfl⟩
      rw [← hbx] at HX4
      subst hra
      clear hx HE hu4
      go_upto_region 5 with fail
      rw [← hw4, ← hbx]
      clear hw4 hbx c0 c1 c2 hbl
      obtain ⟨c0, c1, c2⟩ := cells3_of HX4.out
      obtain ⟨k0, k1, k2⟩ := cells3_of HK4.out
      have hb4 := lt_of_heap HX4.out
      have hk4 := lt_of_heap HK4.out
      by_cases h1 : x.src = key.src
      · by_cases h2 : x.key = key.key
        · have HE3 := Lib.hid (show (e ++ [x.val]) ++ valsK (l.drop (k + 1)) key = vk by
            rw [← HE2.out, valsK, valsK, List.filter_cons, if_pos (by simp [sameK, h1, h2])]
            simp)
          obtain ⟨n, hn⟩ : ∃ n, n = e.length := ⟨_, rfl⟩
          have HOW := Lib.hid (show w4.ownsRow wb.heap.size 2 1 (.slice qa n qc) n (e.map I) by rw [hn]; exact HR4.out.own)
          rw [← hn] at hel ⊢
          go_wp2_with (at_builtin; obtain ⟨i0, hi, hz0, hs, hb⟩ := info_parts Tryz.info2p; refine wpList_app1 w4 rfl (.tmp 26) (.tmp 29) 55 rfl wb.heap.size 2 i0 (.int .i64 0) 1 8 Tryz.underlying55 hi hz0 hs hb rfl (by decide) (.slice qa n qc) n _ rfl HOW.out [.int .i64 x.val] 2 rfl rfl (by simp [Value.oneCell']) (by unfold maxLen; omega) (by omega) HR4.out.upd.size ?_; clear hi hz0 hs hb; intro g cap w9 hown hu9 _ _)
          have HR9 := Lib.hid (HR4.out.snoc hown hn hu9)
          clear hown hu9
          go_wp2
          go_roundw
          case rel => exact ⟨k + 1, e ++ [x.val], some ⟨g, 0, none⟩, cap, by omega, by go_num, by rw [List.length_append, ← hn]; rfl, by rw [List.length_append, ← hn]; simp; omega, HR9, HE3⟩
          case measure => simp [intOf]; omega
        · have HE3 := Lib.hid (show e ++ valsK (l.drop (k + 1)) key = vk by
            rw [← HE2.out, valsK, valsK, List.filter_cons, if_neg (by simp [sameK, h2])])
          go_wp2
          go_roundw
          case rel => exact ⟨k + 1, e, qa, qc, by omega, by go_num, rfl, by omega, HR4, HE3⟩
          case measure => simp [intOf]; omega
      · have HE3 := Lib.hid (show e ++ valsK (l.drop (k + 1)) key = vk by
          rw [← HE2.out, valsK, valsK, List.filter_cons, if_neg (by simp [sameK, h1])])
        go_wp2
        go_roundw
        case rel => exact ⟨k + 1, e, qa, qc, by omega, by go_num, rfl, by omega, HR4, HE3⟩
        case measure => simp [intOf]; omega
    · obtain rfl : k = l.length := by omega
      have HE2 := HE.out
      rw [List.drop_length, show valsK [] key = [] from rfl, List.append_nil] at HE2
      subst HE2
      go_wp2
      go_ret
      exact ⟨qa, qc, rfl, ownsRow_low HR.out.own HKB.out, HU.out.trans HR.out.upd⟩
set_option maxHeartbeats 16000000 in
theorem begins19_any {la ha : Option Addr} {l hd : List RecV} {lc hc : Nat} (w : World) (hl : RecsIn w la l) (hh : RecsIn w ha hd) (bl : l.length ≤ 1000000) (bh : hd.length ≤ 1000000) (hv : ∀ key : RecV, ∃ u, valsK l key = valsK hd key ++ u) :
    Calls Tryz.prog 30 #[.slice la l.length lc, .slice ha hd.length hc] w fun e w' => e = .returned (.bool true) ∧ Upd0 w w' := by
  have HOL := Lib.hid (fun (key : RecV) (W : World) (hW : Upd0 w W) => of_any (c := lc) key W (hl.kept hW) bl)
  have HOH := Lib.hid (fun (key : RecV) (W : World) (hW : Upd0 w W) => of_any (c := hc) key W (hh.kept hW) bh)
  have HH := Lib.hid hh; have HV := Lib.hid hv
  clear hl hh hv
  go_enter Tryz.func30, Tryz.ntmps30
  go_wp2_with (fail)
  go_loopw [13] (fun i wr => ∃ k : Nat, k ≤ hd.length ∧ i = .int .i64 k ∧ Hid (Upd0 w wr)) (fun i _ => hd.length - (intOf i).toNat)
  case atStart => exact ⟨0, Nat.zero_le _, rfl, Lib.hid (Upd.refl _ _)⟩
  case round =>
    obtain ⟨k, hk, rfl, HR⟩ := hrel
    by_cases hlt : k < hd.length
    · obtain ⟨x, hx⟩ : ∃ x, hd[k]? = some x := ⟨_, List.getElem?_eq_getElem hlt⟩
      obtain ⟨b, f, hra, c0, c1, c2⟩ := (HH.out.kept HR.out).at hx
      have hbl := lt_of_cell c0
      obtain ⟨w4, hw4⟩ : ∃ w4, w4 = wr.alloc (.cells #[.int .i64 x.src, .int .i64 x.key, .int .i64 x.val] 36) := ⟨_, rfl⟩
      have hu4 : Upd0 wr w4 := by rw [hw4]; exact (Upd.refl _ wr).alloc _
      have HX4 := Lib.hid (show w4.heap[wr.heap.size]? = some (.cells #[.int .i64 x.src, .int .i64 x.key, .int .i64 x.val] 36 (0, 0)) by rw [hw4]; exact alloc_at rfl)
      have HU4 := Lib.hid (HR.out.trans hu4)
      obtain ⟨bx, hbx⟩ : ∃ bx, bx = wr.heap.size := ⟨_, rfl⟩
      rw [← hbx] at HX4
      have HCL := Lib.hid (fun (W : World) (hW : Upd0 w4 W) => HOL.out x W (HU4.out.trans hW))
      have HCH := Lib.hid (fun (W : World) (hW : Upd0 w4 W) => HOH.out x W (HU4.out.trans hW))
      obtain ⟨u, hvu⟩ := HV.out x
      obtain ⟨va, hva⟩ : ∃ va, va = valsK l x := ⟨_, rfl⟩
      obtain ⟨vb, hvb⟩ : ∃ vb, vb = valsK hd x := ⟨_, rfl⟩
      have hbb : vb.length ≤ hd.length := by rw [hvb]; exact valsK_len _ _
      rw [← hva, ← hvb] at hvu
      rw [← hva] at HCL
      rw [← hvb] at HCH
      have HVU := Lib.hid hvu
      have hle : ¬ (va.length : Int) < vb.length := by rw [hvu, List.length_append]; omega
      subst hra
      clear hx hu4 hva hvb hvu
      go_upto_region 5 with fail
      rw [← hw4, ← hbx]
      clear hw4 hbx c0 c1 c2 hbl
      have hA : Upd0 w4 w4.drew := (Upd.refl _ w4).drew
      refine wp_region_G 9 (fun W => Upd0 w4 W) [false, false, false, false, false, false, false, false, false, false] rfl (by kernel_rfl) ?_
      generalize w4.drew = wd at hA ⊢
      refine wpG_takeT (i := 0) (v := .func (.func 95) #[] #[]) rfl (fun L hc h => (hc.waits (n := 9) (i := 0) (by kernel_rfl) h)) (by kernel_rfl) (fun _ _ _ h => h) hA (.inl ⟨rfl, fun w5 q1 => ?_⟩) ?_
      · go_simp
      simp only [Act.put, List.setIfInBounds_toArray, List.set]
      refine wpG_takeT (i := 1) (v := .slice la l.length lc) rfl (fun L hc h => (hc.waits (n := 9) (i := 1) (by kernel_rfl) h)) (by kernel_rfl) (fun _ _ _ h => h) hA (.inl ⟨rfl, fun w5 q1 => ?_⟩) ?_
      · go_simp
      simp only [Act.put, List.setIfInBounds_toArray, List.set]
      refine wpG_takeT (i := 2) (v := .agg #[.int .i64 x.src, .int .i64 x.key, .int .i64 x.val]) rfl (fun L hc h => (hc.waits (n := 9) (i := 2) (by kernel_rfl) h)) (by kernel_rfl) (fun _ _ _ h => h) hA (.inl ⟨rfl, fun w5 q1 => ?_⟩) ?_
      · obtain ⟨c0, c1, c2⟩ := cells3_of ((q1.block _ (lt_of_heap HX4.out) (fun e => e)).trans HX4.out)
        go_simp
      simp only [Act.put, List.setIfInBounds_toArray, List.set]
      refine wpG_takeT (i := 4) (v := .func (.func 95) #[] #[]) rfl (fun L hc h => (hc.waits (n := 9) (i := 4) (by kernel_rfl) h)) (by kernel_rfl) (fun _ _ _ h => h) hA (.inl ⟨rfl, fun w5 q1 => ?_⟩) ?_
      · go_simp
      simp only [Act.put, List.setIfInBounds_toArray, List.set]
      refine wpG_takeT (i := 5) (v := .slice (some ⟨b, f, none⟩) hd.length hc) rfl (fun L hc h => (hc.waits (n := 9) (i := 5) (by kernel_rfl) h)) (by kernel_rfl) (fun _ _ _ h => h) hA (.inl ⟨rfl, fun w5 q1 => ?_⟩) ?_
      · go_simp
      simp only [Act.put, List.setIfInBounds_toArray, List.set]
      refine wpG_takeT (i := 6) (v := .agg #[.int .i64 x.src, .int .i64 x.key, .int .i64 x.val]) rfl (fun L hc h => (hc.waits (n := 9) (i := 6) (by kernel_rfl) h)) (by kernel_rfl) (fun _ _ _ h => h) hA (.inl ⟨rfl, fun w5 q1 => ?_⟩) ?_
      · obtain ⟨c0, c1, c2⟩ := cells3_of ((q1.block _ (lt_of_heap HX4.out) (fun e => e)).trans HX4.out)
        go_simp
      simp only [Act.put, List.setIfInBounds_toArray, List.set]
      refine wpG_doIf (i := 3) rfl (by kernel_rfl) rfl (fun K hK => ?_)
      have HKK := Lib.hid hK
      clear hK
      go_step
      refine (HCL.out wd hA).mono ?_
      rintro _ w5 ⟨a4, c4, rfl, ho4, hu4⟩
      have HO4 := Lib.hid (ownsRow_low ho4 hA.size)
      have hA2 := hA.trans hu4
      clear ho4 hu4
      simp only []
      refine HKK.out _ _ hA2 ?_
      clear HKK
      simp only [Act.put, List.setIfInBounds_toArray, List.set]
      refine wpG_doIf (i := 7) rfl (by kernel_rfl) rfl (fun K hK => ?_)
      have HKK := Lib.hid hK
      clear hK
      go_step
      refine (HCH.out w5 hA2).mono ?_
      rintro _ w6 ⟨a5, c5, rfl, ho5, hu5⟩
      have HO5 := Lib.hid (ownsRow_low ho5 hA2.size)
      have HO4b := Lib.hid (ownsRow_any HO4.out hu5 (fun _ _ e => e))
      have hA3 := hA2.trans hu5
      have HA3 := Lib.hid hA3
      clear ho5 hu5 HO4
      simp only []
      refine HKK.out _ _ hA3 ?_
      clear HKK
      simp only [Act.put, List.setIfInBounds_toArray, List.set]
      refine wpG_takeT (i := 8) (v := .slice a4 va.length c4) rfl (fun L hc h => (hc.waits (n := 9) (i := 8) (by kernel_rfl) h)) (by kernel_rfl) (fun _ _ _ h => h) hA3 (.inl ⟨rfl, fun w5 q1 => ?_⟩) ?_
      · go_simp
      simp only [Act.put, List.setIfInBounds_toArray, List.set]
      refine wpG_tail_lit (k := 9) rfl rfl (by kernel_rfl) ?_
      simp only [List.drop]
      go_wp2_with (fail)
      have HIA := Lib.hid (OwnI.in' HO4b.out); have HIB := Lib.hid (OwnI.in' HO5.out)
      clear hle HO4b HO5
      go_loopw [32] (fun i wq => ∃ j : Nat, j ≤ vb.length ∧ i = .int .i64 j ∧ Hid (Upd0 w6 wq)) (fun i _ => vb.length - (intOf i).toNat)
      case atStart => exact ⟨0, Nat.zero_le _, rfl, Lib.hid (Upd.refl _ _)⟩
      case round =>
        obtain ⟨j, hj, rfl, HQ⟩ := hrel
        by_cases hlt2 : j < vb.length
        · have hla : j < va.length := by rw [HVU.out, List.length_append]; omega
          have hlai : (j : Int) < va.length := by omega
          obtain ⟨y, hy⟩ : ∃ y, vb[j]? = some y := ⟨_, List.getElem?_eq_getElem hlt2⟩
          have hx : va[j]? = some y := by rw [HVU.out, List.getElem?_append_left hlt2]; exact hy
          obtain ⟨ab, af, haa, hcx⟩ := (HIA.out.kept HQ.out).cell hx
          obtain ⟨bb, bf, hbb2, hcy⟩ := (HIB.out.kept HQ.out).cell hy
          have HX := Lib.hid hcx; have HY := Lib.hid hcy
          have HQD := Lib.hid HQ.out.drew
          subst haa hbb2
          clear hx hy hcx hcy
          go_upto_region 11 with fail
          have hA : wr.drew = wr.drew := rfl
          refine wp_region_G 8 (fun W => W = wr.drew) [false, false, false, false, false, false, false, false, false] rfl (by kernel_rfl) ?_
          refine wpG_takeT (i := 0) (v := .slice (some ⟨ab, af, none⟩) va.length c4) rfl (fun L hc h => (hc.waits (n := 8) (i := 3) (by kernel_rfl) (hc.waits (n := 3) (i := 2) (by kernel_rfl) (hc.waits (n := 2) (i := 0) (by kernel_rfl) h)))) (by kernel_rfl) (fun _ _ _ h => h) hA (.inl ⟨rfl, fun w5 q1 => ?_⟩) ?_
          · go_simp
          simp only [Act.put, List.setIfInBounds_toArray, List.set]
          refine wpG_takeT (i := 1) (v := .int .i64 j) rfl (fun L hc h => (hc.waits (n := 8) (i := 3) (by kernel_rfl) (hc.waits (n := 3) (i := 2) (by kernel_rfl) (hc.waits (n := 2) (i := 1) (by kernel_rfl) h)))) (by kernel_rfl) (fun _ _ _ h => h) hA (.inl ⟨rfl, fun w5 q1 => ?_⟩) ?_
          · go_simp
          simp only [Act.put, List.setIfInBounds_toArray, List.set]
          refine wpG_takeT (i := 2) (v := .pointer (some ⟨ab, af + j, none⟩)) rfl (fun L hc h => (hc.waits (n := 8) (i := 3) (by kernel_rfl) (hc.waits (n := 3) (i := 2) (by kernel_rfl) h))) (by kernel_rfl) (fun _ _ _ h => h) hA (.inl ⟨rfl, fun w5 q1 => ?_⟩) ?_
          · go_simp
          simp only [Act.put, List.setIfInBounds_toArray, List.set]
          refine wpG_takeT (i := 3) (v := .int .i64 y) rfl (fun L hc h => (hc.waits (n := 8) (i := 3) (by kernel_rfl) h)) (by kernel_rfl) (fun _ _ _ h => h) hA (.inl ⟨rfl, fun w5 q1 => ?_⟩) ?_
          · subst q1
            have c5 : wr.drew.cell? ⟨ab, af + j, none⟩ = some (.int .i64 y) := HX.out
            go_simp
          simp only [Act.put, List.setIfInBounds_toArray, List.set]
          refine wpG_takeT (i := 4) (v := .slice (some ⟨bb, bf, none⟩) vb.length c5) rfl (fun L hc h => (hc.waits (n := 8) (i := 7) (by kernel_rfl) (hc.waits (n := 7) (i := 6) (by kernel_rfl) (hc.waits (n := 6) (i := 4) (by kernel_rfl) h)))) (by kernel_rfl) (fun _ _ _ h => h) hA (.inl ⟨rfl, fun w5 q1 => ?_⟩) ?_
          · go_simp
          simp only [Act.put, List.setIfInBounds_toArray, List.set]
          refine wpG_takeT (i := 5) (v := .int .i64 j) rfl (fun L hc h => (hc.waits (n := 8) (i := 7) (by kernel_rfl) (hc.waits (n := 7) (i := 6) (by kernel_rfl) (hc.waits (n := 6) (i := 5) (by kernel_rfl) h)))) (by kernel_rfl) (fun _ _ _ h => h) hA (.inl ⟨rfl, fun w5 q1 => ?_⟩) ?_
          · go_simp
          simp only [Act.put, List.setIfInBounds_toArray, List.set]
          refine wpG_takeT (i := 6) (v := .pointer (some ⟨bb, bf + j, none⟩)) rfl (fun L hc h => (hc.waits (n := 8) (i := 7) (by kernel_rfl) (hc.waits (n := 7) (i := 6) (by kernel_rfl) h))) (by kernel_rfl) (fun _ _ _ h => h) hA (.inl ⟨rfl, fun w5 q1 => ?_⟩) ?_
          · go_simp
          simp only [Act.put, List.setIfInBounds_toArray, List.set]
          refine wpG_takeT (i := 7) (v := .int .i64 y) rfl (fun L hc h => (hc.waits (n := 8) (i := 7) (by kernel_rfl) h)) (by kernel_rfl) (fun _ _ _ h => h) hA (.inl ⟨rfl, fun w5 q1 => ?_⟩) ?_
          · subst q1
            have c5 : wr.drew.cell? ⟨bb, bf + j, none⟩ = some (.int .i64 y) := HY.out
            go_simp
          simp only [Act.put, List.setIfInBounds_toArray, List.set]
          refine wpG_tail_lit (k := 8) rfl rfl (by kernel_rfl) ?_
          simp only [List.drop]
          go_wp2
          go_roundw
          case rel => exact ⟨j + 1, by omega, by go_num, HQD⟩
          case measure => simp [intOf]; omega
        · obtain rfl : j = vb.length := by omega
          go_wp2
          go_roundw
          case rel => exact ⟨k + 1, by omega, by go_num, Lib.hid (HU4.out.trans (HA3.out.trans HQ.out))⟩
          case measure => simp [intOf]; omega
    · obtain rfl : k = hd.length := by omega
      go_wp2
      go_ret
      exact ⟨rfl, HR.out⟩
end Go.Proofs.YtbonfdkgkcbkmaaGreat
end

