/- Walks of the disk: Read$1. -/
import Derived.Test.YtbimkhdiplnbfaaB2
namespace Go.Proofs.Ytbimkhdiplnbfaa
open Go.RowKit

theorem heap_setCells (b : Nat) (t : TypeId) : ∀ (vs : List Value) (o : Nat) (w : World) (old : Array Value), w.heap[b]? = some (.cells old t (0, 0)) →
    (w.setCells b o vs).heap[b]? = some (.cells ((vs.zipIdx o).foldl (fun (cs : Array Value) (x : Value × Nat) => cs.setIfInBounds (0 + x.2) x.1) old) t (0, 0))
  | [], _, _, _, h => h
  | v :: r, o, w, old, h => by
    rw [World.setCells, List.zipIdx_cons, List.foldl_cons]
    exact heap_setCells b t r (o + 1) _ _ (by simpa using blk_set h)

theorem heap_setCells_whole {w : World} {b : Nat} {t : TypeId} {old : Array Value} {vs : List Value} (h : w.heap[b]? = some (.cells old t (0, 0))) (hs : old.size = vs.length) :
    (w.setCells b 0 vs).heap[b]? = some (.cells vs.toArray t (0, 0)) := by
  rw [heap_setCells b t vs 0 w old h]
  have := splice_fold vs 0 0 old (by omega)
  congr 2
  apply Array.toList_inj.1
  rw [this]
  have e : old.toList.drop (0 + 0 + vs.length) = [] := by rw [List.drop_eq_nil_iff]; simp [hs]
  rw [e]; simp

theorem Upd.setCells {F : Nat → Prop} {b : Nat} (hb : F b) : ∀ (vs : List Value) (o : Nat) {a w : World}, Upd F a w → Upd F a (w.setCells b o vs)
  | [], _, _, _, h => h
  | v :: r, o, _, _, h => Upd.setCells hb r (o + 1) (h.setCell (p := ⟨b, o, none⟩) (.inl hb) v)

theorem there_block {w : World} {b : Nat} {cs : Array Value} {t : TypeId} (h : w.heap[b]? = some (.cells cs t (0, 0))) : w.there b 0 cs.size := fun j hj =>
  ⟨by rw [cell_of_heap h]; simp [hj], frozen_of_heap h⟩

theorem rangeAt_row {w : World} {g n cap o len : Nat} {xs bs : List Value} (h : w.ownsRow 0 130 65 (.slice (some ⟨g, 0, none⟩) n cap) n xs) (hb : (xs.drop o).take len = bs) : w.rangeAt g o bs := by
  intro j v hv
  subst hb
  have hj : j < len := by
    have := (List.getElem?_eq_some_iff.1 hv).1
    simp at this; omega
  have : xs[o + j]? = some v := by simpa [List.getElem?_take, List.getElem?_drop, hj] using hv
  have := h.cells (g := g) rfl (o + j) v this
  rwa [Addr.add_mid, Nat.zero_add] at this

theorem run_load_mid' {P : Program} {o : Oper} {a : Act} {w : World} {b off : Nat} {ty : TypeId} {x : Operand} {d : TypeDesc} (ho : o.op = .load ty x) (hx : a.eval x = .pointer (some ⟨b, off, none⟩)) (cs : List Value) (hc : w.rangeAt b off cs)
    (hu : P.underlying ty = some d) (hd : d.isRow = true) (hi : (P.info? ty).map (·.size) = some cs.length) : (execOp a.eval o).run P w = .ok (.value (.agg cs.toArray)) w := by
  unfold execOp
  simp only [ho, hx, Instr.loadAt, Instr.sureAddr, Sem.run_bind, Sem.run_pure, Result.andThen_ok, run_loadVar_mid w b off ty cs d hc hu hd hi]

set_option maxHeartbeats 4000000 in
theorem reads_run {s k bb g cap j : Nat} {bs xs old secs : List Value} (w : World)
    (hs : w.heap[s]? = some (.cells secs.toArray 131 (0, 0))) (hsk : secs[k]? = some (.slice (some ⟨g, 0, none⟩) (j + 1) cap))
    (hr : w.ownsRow 0 130 65 (.slice (some ⟨g, 0, none⟩) (j + 1) cap) (j + 1) xs) (hx : (xs.drop (j * 65)).take 64 = bs)
    (hb : w.heap[bb]? = some (.cells old.toArray 56 (0, 0))) (hol : old.length = 64) (hbl : bs.length = 64) (h1b : ∀ u ∈ bs, u.oneCell' = true) (hj : j + 1 ≤ 1099511627776) :
    Calls Try.prog 90 #[.pointer (some ⟨s, k, none⟩), .pointer (some ⟨bb, 0, none⟩)] w fun e w' => e = .returned (.tuple #[]) ∧
      w'.heap[bb]? = some (.cells bs.toArray 56 (0, 0)) ∧ Upd (fun k => k = bb) w w' := by
  have c0 : w.cell? ⟨s, k, none⟩ = some (.slice (some ⟨g, 0, none⟩) (j + 1) cap) := by rw [cell_of_heap hs]; simp [hsk]
  have hrng : w.drew.rangeAt g (j * 65) bs := rangeAt_row (w := w.drew) hr hx
  have hu56 := Try.underlying56
  have hi56 : (Try.prog.info? 56).map (·.size) = some bs.length := by rw [Try.info56p, hbl]
  have hth : w.drew.there bb 0 bs.toArray.size := by
    have := there_block (w := w.drew) hb
    simpa [hol, hbl] using this
  have H1 := Lib.hid hb; have H2 := Lib.hid hbl; have H3 := Lib.hid hol; have H4 := Lib.hid hth
  have hj1 : (0 : Int) ≤ (j : Int) := Int.natCast_nonneg _
  have hj2 : (j : Int) < ((j + 1 : Nat) : Int) := by omega
  have hwr : IntKind.i64.wrap ((j : Int) + 1 - 1) = j := by rw [show (j : Int) + 1 - 1 = j by omega]; exact IntWalk.i64_in _ (by omega)
  clear hs hsk hr hx hb hbl hol hth
  go_enter Try.func90, Try.ntmps90
  go_wp2_with fail
  have hA : w.drew.cell? ⟨s, k, none⟩ = some (.slice (some ⟨g, 0, none⟩) (j + 1) cap) ∧ w.drew.rangeAt g (j * 65) bs := ⟨c0, hrng⟩
  refine wp_region_G 11 (fun W' => W'.cell? ⟨s, k, none⟩ = some (.slice (some ⟨g, 0, none⟩) (j + 1) cap) ∧ W'.rangeAt g (j * 65) bs) [false, false, false, false, false, false, false, false, false, false, false, false] rfl (by kernel_rfl) ?_
  refine wpG_take (i := 0) (v := .pointer (some ⟨s, k, none⟩)) rfl (by kernel_rfl) (fun _ _ _ h => h) hA (.inl ⟨rfl, fun w ⟨q1, q2⟩ => ?_⟩) ?_
  · go_simp
  simp only [Act.put, List.setIfInBounds_toArray, List.set]
  refine wpG_take (i := 1) (v := .pointer (some ⟨s, k, none⟩)) rfl (by kernel_rfl) (fun _ _ _ h => h) hA (.inl ⟨rfl, fun w ⟨q1, q2⟩ => ?_⟩) ?_
  · go_simp
  simp only [Act.put, List.setIfInBounds_toArray, List.set]
  refine wpG_take (i := 2) (v := .slice (some ⟨g, 0, none⟩) (j + 1) cap) rfl (by kernel_rfl) (fun _ _ _ h => h) hA (.inl ⟨rfl, fun w ⟨q1, q2⟩ => ?_⟩) ?_
  · go_simp
  simp only [Act.put, List.setIfInBounds_toArray, List.set]
  refine wpG_take (i := 3) (v := .pointer (some ⟨s, k, none⟩)) rfl (by kernel_rfl) (fun _ _ _ h => h) hA (.inl ⟨rfl, fun w ⟨q1, q2⟩ => ?_⟩) ?_
  · go_simp
  simp only [Act.put, List.setIfInBounds_toArray, List.set]
  refine wpG_take (i := 4) (v := .pointer (some ⟨s, k, none⟩)) rfl (by kernel_rfl) (fun _ _ _ h => h) hA (.inl ⟨rfl, fun w ⟨q1, q2⟩ => ?_⟩) ?_
  · go_simp
  simp only [Act.put, List.setIfInBounds_toArray, List.set]
  refine wpG_take (i := 5) (v := .slice (some ⟨g, 0, none⟩) (j + 1) cap) rfl (by kernel_rfl) (fun _ _ _ h => h) hA (.inl ⟨rfl, fun w ⟨q1, q2⟩ => ?_⟩) ?_
  · go_simp
  simp only [Act.put, List.setIfInBounds_toArray, List.set]
  refine wpG_take (i := 6) (v := .int .i64 ((j : Int) + 1)) rfl (by kernel_rfl) (fun _ _ _ h => h) hA (.inl ⟨rfl, fun w ⟨q1, q2⟩ => ?_⟩) ?_
  · go_simp
  simp only [Act.put, List.setIfInBounds_toArray, List.set]
  refine wpG_take (i := 7) (v := .int .i64 (j : Int)) rfl (by kernel_rfl) (fun _ _ _ h => h) hA (.inl ⟨rfl, fun w ⟨q1, q2⟩ => ?_⟩) ?_
  · (go_simp; exact IntWalk.i64_in _ (by omega))
  simp only [Act.put, List.setIfInBounds_toArray, List.set]
  refine wpG_take (i := 8) (v := .pointer (some ⟨g, j * 65, none⟩)) rfl (by kernel_rfl) (fun _ _ _ h => h) hA (.inl ⟨rfl, fun w ⟨q1, q2⟩ => ?_⟩) ?_
  · (go_simp; intro hx; omega)
  simp only [Act.put, List.setIfInBounds_toArray, List.set]
  refine wpG_take (i := 9) (v := .pointer (some ⟨g, j * 65, none⟩)) rfl (by kernel_rfl) (fun _ _ _ h => h) hA (.inl ⟨rfl, fun w ⟨q1, q2⟩ => ?_⟩) ?_
  · go_simp
  simp only [Act.put, List.setIfInBounds_toArray, List.set]
  refine wpG_take (i := 10) (v := .agg bs.toArray) rfl (by kernel_rfl) (fun _ _ _ h => h) hA (.inl ⟨rfl, fun w ⟨q1, q2⟩ => ?_⟩) ?_
  · exact run_load_mid' rfl rfl bs q2 hu56 rfl hi56
  simp only [Act.put, List.setIfInBounds_toArray, List.set]
  refine wpG_tail_lit (k := 11) rfl rfl (by kernel_rfl) ?_
  simp only [List.drop]
  refine wpList_store_mid rfl 56 (.tmp 1) (.tmp 13) rfl bb 0 bs.toArray rfl rfl H4.out (by rw [hi56]; simp) (all_oneCell_toArray h1b) ?_
  go_wp2
  go_end0
  refine ⟨rfl, ?_, ?_⟩
  · exact heap_setCells_whole (w := w.drew) H1.out (by simp [H2.out, H3.out])
  · exact Upd.setCells (F := fun k => k = bb) rfl _ _ (Upd.refl _ w).drew

end Go.Proofs.Ytbimkhdiplnbfaa
