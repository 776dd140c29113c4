/- Walks: RegisterBack. -/
import Derived.Test.YtbimkhdiplnbfaaGreatY23
import Derived.Test.YtbimkhdiplnbfaaGreatY25
import Derived.Test.YtbimkhdiplnbfaaGreatY27
import Derived.Test.YtbimkhdiplnbfaaGreatY29
import Derived.Test.YtbimkhdiplnbfaaGreatY30
set_option linter.unusedVariables false
set_option linter.unusedSimpArgs false

section
namespace Go.Proofs.YtbimkhdiplnbfaaGreat
set_option maxRecDepth 100000
open Go.RowKit Go.Shelf

/-- The first so many bytes. -/
theorem BytesIn.head {w : World} {a : Option Addr} {c : Nat} {bs : List Int} (h : BytesIn w (.slice a bs.length c) bs) (hc : bs.length ≤ c) {n : Nat} (hn : n ≤ bs.length) :
    (∀ W, (Instr.slice 39 (.slice a bs.length c) none (some (.int .i64 n)) none).run Tryz.prog W = .ok (.slice a n c) W) ∧ BytesIn w (.slice a n c) (bs.take n) := by
  have hl : (bs.take n).length = n := by simp; omega
  rcases h with ⟨h1, rfl⟩ | ⟨ad, c', h1, h2, h3, h4⟩
  · injection h1 with e1 _ e3
    subst e1
    subst e3
    obtain rfl : n = 0 := by simpa using hn
    refine ⟨fun W => ?_, .inl ⟨rfl, rfl⟩⟩
    have := run_slice_h W 39 none 0 0 elem39 .i64 0 (by omega) (by omega)
    rw [show ((0 : Nat) : Int) = 0 from rfl, show ([] : List Int).length = 0 from rfl, this, size39e]
    rfl
  · injection h1 with e1 _ e3
    subst e1
    subst e3
    refine ⟨fun W => ?_, .inr ⟨ad, c, by rw [hl], by rw [hl]; omega, h3, fun i u hi => ?_⟩⟩
    · rw [run_slice_h W 39 _ bs.length c elem39 .i64 n (by omega) (by omega), size39e]
      simp [Result.andThen, sliced, Addr.add_zero']
    · have hi2 := (List.getElem?_eq_some_iff.1 hi).1
      simp only [bcells, List.length_map, hl] at hi2
      refine h4 i u ?_
      simp only [bcells, List.getElem?_map, List.getElem?_take_of_lt hi2] at hi ⊢
      exact hi

theorem clipB_fine {w : World} {B : BatchV} {a : Option Addr} {c : Nat} (h : BatchIn w B a c) : (clipB B).Ok ∧ (clipB B).sets.length ≤ 49 := by
  refine ⟨⟨h.epoch, fun x hx => ?_⟩, by simp [clipB]; omega⟩
  simp only [clipB, List.mem_map] at hx
  obtain ⟨y, hy, rfl⟩ := hx
  have := h.bytes y (List.mem_of_mem_take hy)
  exact ⟨fun z hz => this.1 z (List.mem_of_mem_take hz), fun z hz => this.2 z (List.mem_of_mem_take hz)⟩

theorem row_lt {w : World} {B0 : Nat} {C : Nat → Prop} {a1 : Option Addr} {n c1 : Nat} {l : List SetV} (h : SetRow w B0 C (.slice a1 n c1) l) : ∀ b o, a1 = some ⟨b, o, none⟩ → b < w.heap.size := fun b o e => by
  obtain ⟨L, _, q, _⟩ := h
  rcases q.2 with ⟨e1, _⟩ | ⟨g, cap, cur, e1, _, hg, _⟩
  · injection e1 with e1; rw [e1] at e; cases e
  · injection e1 with e1; rw [e1] at e; injection e with e; injection e with e; subst e; exact lt_of_heap hg

theorem batch_any2 {c n0 : Nat} {a : Option Addr} {B : BatchV} (w : World) (hB : BatchIn w B a c) (hn : n0 = B.sets.length) :
    Calls Tryz.prog 19 #[.agg #[.int .i64 0, .int .i64 0, .int .u64 B.epoch, .bool B.large, .slice a n0 c, .slice none 0 0, .slice none 0 0], .agg #[.int .u64 0, .slice none 0 0]] w fun e w' => ∃ a1 c1, e = .returned (.agg #[.int .u64 (clipB B).epoch, .bool (clipB B).large, .slice a1 (clipB B).sets.length c1]) ∧ (∃ C1, SetsAt w' (fun k => w.heap.size ≤ k) C1 a1 (clipB B).sets ∧ ∀ k, C1 k → w.heap.size ≤ k) ∧ (∀ b o, a1 = some ⟨b, o, none⟩ → b < w'.heap.size) ∧ (clipB B).sets.length ≤ c1 ∧ Upd (fun _ => False) w w' := by
  subst hn
  refine (batch_any (B := B) (c := c) w hB.sets hB.bytes hB.len (by have := hB.cap; unfold maxLen; omega)).mono ?_
  rintro e w3 ⟨a1, c1, rfl, ⟨C1, hr1, hr2, hr3⟩, hc1, hu3⟩
  exact ⟨a1, c1, rfl, ⟨C1, hr1.setsAt, hr3⟩, row_lt hr1, hc1, hu3⟩

theorem same_any2 {c d : Nat} {a b : Option Addr} {A B : BatchV} (w : World) (ha : SetsIn w a A.sets) (hb : SetsIn w b B.sets) (hl : A.sets.length ≤ 1000000) :
    Calls Tryz.prog 23 #[.agg #[.int .u64 A.epoch, .bool A.large, .slice a A.sets.length c], .agg #[.int .u64 B.epoch, .bool B.large, .slice b B.sets.length d]] w fun e w' => ∃ r, e = .returned (.bool r) ∧ (r = true ↔ A = B) ∧ Upd (fun _ => False) w w' := by
  have ks : ∀ {a : Option Addr} {l : List SetV}, SetsIn w a l → ∀ x ∈ l, Bytes x.old ∧ Bytes x.new := fun {a l} h x hx => by
    obtain ⟨i, hi⟩ := List.getElem?_of_mem hx
    obtain ⟨_, _, _, _, _, _, _, _, _, _, _, _, _, _, _, _, _, h7, h8⟩ := h i x hi
    exact ⟨h7, h8⟩
  exact (same_any (c := c) (d := d) w ha hb (ks ha) (ks hb) hl)

end Go.Proofs.YtbimkhdiplnbfaaGreat
end

section
namespace Go.Proofs.YtbimkhdiplnbfaaGreat
set_option maxRecDepth 100000
open Go.RowKit Go.Shelf

/-- Sets in a row whose new bytes stand, whatever they are, in blocks of C. -/
def NewOk (C : Nat → Prop) (a : Option Addr) (l : List SetV) (W : World) : Prop := ∀ i x, l[i]? = some x → ∃ b o oa oc na nc, a = some ⟨b, o, none⟩ ∧ ¬ C b ∧
  W.cell? ⟨b, o + i * 5, none⟩ = some (.string x.name) ∧ W.cell? ⟨b, o + i * 5 + 1, none⟩ = some (.bool x.was) ∧ W.cell? ⟨b, o + i * 5 + 2, none⟩ = some (.bool x.is) ∧ W.cell? ⟨b, o + i * 5 + 3, none⟩ = some (.slice oa x.old.length oc) ∧ W.cell? ⟨b, o + i * 5 + 4, none⟩ = some (.slice na x.new.length nc) ∧ x.new.length ≤ nc ∧
  (x.new = [] ∨ ∃ g p, na = some ⟨g, p, none⟩ ∧ C g ∧ ∀ j, j < x.new.length → ∃ v, W.cell? ⟨g, p + j, none⟩ = some (.int .u8 v))

theorem NewOk.kept0 {C : Nat → Prop} {a : Option Addr} {l : List SetV} {W W' : World} (h : NewOk C a l W) (hu : Upd (fun _ => False) W W') : NewOk C a l W' := fun i x hx => by
  obtain ⟨b, o, oa, oc, na, nc, e, hb, h0, h1, h2, h3, h4, h5, h6⟩ := h i x hx
  have kc : ∀ {a : Addr} {v : Value}, W.cell? a = some v → W'.cell? a = some v := fun h => cell_keptF hu (fun e => e) h
  refine ⟨b, o, oa, oc, na, nc, e, hb, kc h0, kc h1, kc h2, kc h3, kc h4, h5, h6.imp_right ?_⟩
  rintro ⟨g, p, e1, hg, hc⟩
  exact ⟨g, p, e1, hg, fun j hj => by obtain ⟨v, hv⟩ := hc j hj; exact ⟨v, kc hv⟩⟩

theorem NewOk.put {C : Nat → Prop} {a : Option Addr} {l : List SetV} {W : World} {g p : Nat} {v v' : Int} (h : NewOk C a l W) (hg : C g) (hv : W.cell? ⟨g, p, none⟩ = some (.int .u8 v)) : NewOk C a l (W.setCell ⟨g, p, none⟩ (.int .u8 v')) := fun i x hx => by
  obtain ⟨b, o, oa, oc, na, nc, e, hb, h0, h1, h2, h3, h4, h5, h6⟩ := h i x hx
  have kc : ∀ {o : Nat} {u : Value}, W.cell? ⟨b, o, none⟩ = some u → (W.setCell ⟨g, p, none⟩ (.int .u8 v')).cell? ⟨b, o, none⟩ = some u := fun h => by
    rw [World.cell?_setCell_other W ⟨g, p, none⟩ ⟨b, _, none⟩ _ (fun e => by injection e with e; exact hb (e ▸ hg))]
    exact h
  refine ⟨b, o, oa, oc, na, nc, e, hb, kc h0, kc h1, kc h2, kc h3, kc h4, h5, h6.imp_right ?_⟩
  rintro ⟨g2, p2, e1, hg2, hc⟩
  refine ⟨g2, p2, e1, hg2, fun j hj => ?_⟩
  obtain ⟨u, hu⟩ := hc j hj
  by_cases e2 : (⟨g, p, none⟩ : Addr) = ⟨g2, p2 + j, none⟩
  · rw [← e2]
    exact ⟨v', World.cell?_setCell_same W ⟨g, p, none⟩ _ hv⟩
  · exact ⟨u, by rw [World.cell?_setCell_other W _ _ _ e2]; exact hu⟩

theorem NewOk.of {w : World} {R C : Nat → Prop} {a : Option Addr} {l : List SetV} (h : SetsAt w R C a l) (hb : ∀ b o, a = some ⟨b, o, none⟩ → ¬ C b) : NewOk C a l w := fun i x hx => by
  obtain ⟨_, _, _, b, o, e, _, oa, oc, na, nc, h0, h1, h2, h3, h4, _, h6, _, h8⟩ := h i x hx
  refine ⟨b, o, oa, oc, na, nc, e, hb b o e, h0, h1, h2, h3, h4, ?_, ?_⟩
  · obtain ⟨a', c', e1, e2, _⟩ := h6.slice
    injection e1 with _ _ e3
    omega
  · rcases h6 with ⟨_, e1⟩ | ⟨g, p, c', hg, e1, _, _, hc⟩
    · exact .inl e1
    · injection e1 with e1 _ _
      refine .inr ⟨g, p, e1, hg, fun j hj => ?_⟩
      refine ⟨x.new[j], hc j _ ?_⟩
      simp [bcells, List.getElem?_eq_getElem hj]

/-- The bytes at hand stand, whatever they are, in a block of C. -/
def CurOk (C : Nat → Prop) (na : Option Addr) (n : Nat) (W : World) : Prop := n = 0 ∨ ∃ g p, na = some ⟨g, p, none⟩ ∧ C g ∧ ∀ j, j < n → ∃ v, W.cell? ⟨g, p + j, none⟩ = some (.int .u8 v)
theorem CurOk.kept0 {C : Nat → Prop} {na : Option Addr} {n : Nat} {W W' : World} (h : CurOk C na n W) (hu : Upd (fun _ => False) W W') : CurOk C na n W' := h.imp_right (by
  rintro ⟨g, p, e, hg, hc⟩
  exact ⟨g, p, e, hg, fun j hj => by obtain ⟨v, hv⟩ := hc j hj; exact ⟨v, cell_keptF hu (fun e => e) hv⟩⟩)
theorem CurOk.put {C : Nat → Prop} {na : Option Addr} {n : Nat} {W : World} {g p : Nat} {v v' : Int} (h : CurOk C na n W) (hv : W.cell? ⟨g, p, none⟩ = some (.int .u8 v)) : CurOk C na n (W.setCell ⟨g, p, none⟩ (.int .u8 v')) := h.imp_right (by
  rintro ⟨g2, p2, e1, hg2, hc⟩
  refine ⟨g2, p2, e1, hg2, fun j hj => ?_⟩
  obtain ⟨u, hu⟩ := hc j hj
  by_cases e2 : (⟨g, p, none⟩ : Addr) = ⟨g2, p2 + j, none⟩
  · rw [← e2]
    exact ⟨v', World.cell?_setCell_same W ⟨g, p, none⟩ _ hv⟩
  · exact ⟨u, by rw [World.cell?_setCell_other W _ _ _ e2]; exact hu⟩)

theorem RowC.put {C : Nat → Prop} {W : World} {g p : Nat} {v : Value} (h : RowC W C) : RowC (W.setCell ⟨g, p, none⟩ v) C := fun k hk => by
  obtain ⟨cs, h1⟩ := h k hk
  by_cases e : k = g
  · subst e
    have := blk_set (i := p) (v := v) h1
    exact ⟨_, this⟩
  · exact ⟨cs, (set_ne (a := ⟨g, p, none⟩) (u := v) e).trans h1⟩
end Go.Proofs.YtbimkhdiplnbfaaGreat
end

section
namespace Go.Proofs.YtbimkhdiplnbfaaGreat
set_option maxRecDepth 100000
open Go.RowKit Go.Shelf

theorem sets_by {w : World} {a : Option Addr} {l : List SetV} (h : SetsIn w a l) : ∀ x ∈ l, Bytes x.old ∧ Bytes x.new := fun x hx => by
  obtain ⟨i, hi⟩ := List.getElem?_of_mem hx
  obtain ⟨_, _, _, _, _, _, _, _, _, _, _, _, _, _, _, _, _, h7, h8⟩ := h i x hi
  exact ⟨h7, h8⟩

theorem copied_any2 {c : Nat} {a : Option Addr} {B : BatchV} (w : World) (hs : SetsIn w a B.sets) (hl : B.sets.length ≤ 1000000) :
    Calls Tryz.prog 20 #[.agg #[.int .u64 B.epoch, .bool B.large, .slice a B.sets.length c]] w fun e w' => ∃ a1 c1, e = .returned (.agg #[.int .u64 B.epoch, .bool B.large, .slice a1 B.sets.length c1]) ∧ SetsIn w' a1 B.sets ∧ B.sets.length ≤ c1 ∧ Upd (fun _ => False) w w' := by
  refine (copied_any (c := c) w hs (sets_by hs) hl).mono ?_
  rintro e w' ⟨a1, c1, rfl, ⟨C1, h1, _⟩, h2, h3⟩
  exact ⟨a1, c1, rfl, h1.setsAt.setsIn, h2, h3⟩
theorem refRight_any2 {c : Nat} {a : Option Addr} {B : BatchV} (w : World) (hs : SetsIn w a B.sets) (hl : B.sets.length ≤ 900) (hc : B.sets.length ≤ c) :
    Calls Tryz.prog 22 #[.agg #[.int .u64 B.epoch, .bool B.large, .slice a B.sets.length c]] w fun e w' => e = .returned (.bool B.right) ∧ Upd (fun _ => False) w w' := refRight_any (c := c) w hs hl hc
theorem refBytes_any2 {c : Nat} {a : Option Addr} {B : BatchV} (w : World) (hs : SetsIn w a B.sets) (hr : B.right = true) (hk : B.Ok) :
    Calls Tryz.prog 25 #[.agg #[.int .u64 B.epoch, .bool B.large, .slice a B.sets.length c]] w fun e w' => ∃ u, e = .returned u ∧ OwnB w' w.heap.size u (encF B) ∧ Upd (fun _ => False) w w' := refBytes_any (c := c) w hs hr hk
theorem encode_any2 {c : Nat} {a : Option Addr} {B : BatchV} (w : World) (hs : SetsIn w a B.sets) (hl : B.sets.length ≤ 900) (hk : B.Ok) (hal : ∀ b o, a = some ⟨b, o, none⟩ → b < w.heap.size) :
    Calls Tryz.prog 21 #[.agg #[.int .u64 B.epoch, .bool B.large, .slice a B.sets.length c]] w fun e w' => ∃ ya yn yc E, e = .returned (.tuple #[.slice ya yn yc, .int .i64 E]) ∧ Upd (fun _ => False) w w' ∧ ((E = 0 ∧ B.right = true ∧ OwnB w' w.heap.size (.slice ya yn yc) (encF B)) ∨ (E = 2 ∧ B.right = false ∧ yn = 0)) := by
  refine (encode_any (c := c) w hs hl hk hal).mono ?_
  rintro e w' ⟨hu, h⟩
  split at h
  · obtain ⟨u, rfl, ho⟩ := h
    obtain ⟨ua, uc, rfl, _⟩ := ho.bytesAt.1.slice
    exact ⟨ua, _, uc, 0, rfl, hu, .inl ⟨rfl, by assumption, ho⟩⟩
  · exact ⟨none, 0, 0, 2, h, hu, .inr ⟨rfl, by simpa using (by assumption : ¬ B.right = true), rfl⟩⟩

set_option maxHeartbeats 8000000 in
/-- The first half: batches as bytes. -/
theorem codes_run {la ra : Option Addr} {ln lc rn rc : Nat} (w : World) (hb : BatchesIn w la ln) (hlm : ln ≤ maxLen) (hr : BytesRows w ra rn) (hrm : rn ≤ maxLen) :
    Calls Tryz.prog 4 #[.slice la ln lc, .slice ra rn rc] w fun e w' => e = .returned (.bool true) ∧ Upd (fun _ => False) w w' := by
  have HB := Lib.hid hb; have HR := Lib.hid hr
  have hlm' : (ln : Int) ≤ 9223372036854775807 := by unfold maxLen at hlm; omega
  have hrm' : (rn : Int) ≤ 9223372036854775807 := by unfold maxLen at hrm; omega
  have HLM := Lib.hid hlm'; have HRM := Lib.hid hrm'
  clear hb hr hlm hrm hlm' hrm'
  go_enter Tryz.func4, Tryz.ntmps4
  go_wp2_with (go_at_call 18; fail)
  refine (wakes_any w).mono ?_
  rintro e w2 ⟨rfl, hu2⟩
  have HU2 := Lib.hid hu2
  clear hu2
  simp only []
  go_upto_block 0 with fail
  go_cut [5, 6, 7, 8, 9, 10, 11, 26] from 27 to 78 (fun v5 v6 v7 v8 v9 v10 v11 v26 wx => Upd (fun _ => False) w wx)
  case first =>
    go_upto_region 4 with fail
    go_loopg [26] ln (fun gk i wr => ∃ k : Nat, k ≤ ln ∧ gk = ln - k ∧ i = .int .i64 k ∧ Upd (fun _ => False) w wr)
    case atStart => exact ⟨0, Nat.zero_le _, rfl, rfl, HU2.out⟩
    case round =>
      obtain ⟨k, hk, rfl, rfl, hd⟩ := hrel
      have HDU := Lib.hid hd
      clear hd
      by_cases hkn : k < ln
      · have hkni : (k : Int) < ln := by omega
        obtain ⟨b, o, B, ba, bc, rfl, hbi, h0, h1, h2⟩ := HB.out k hkn
        have kc : ∀ {o : Nat} {v : Value}, w.cell? ⟨b, o, none⟩ = some v → wr.cell? ⟨b, o, none⟩ = some v := fun h => cell_keptF HDU.out (fun e => e) h
        have q0 := kc h0; have q1 := kc h1; have q2 := kc h2
        have HBI := Lib.hid hbi
        clear h0 h1 h2 kc hbi
        go_upto_region 6 with fail
        obtain ⟨n0, hn0⟩ : ∃ n0, n0 = B.sets.length := ⟨_, rfl⟩
        obtain ⟨w3, hw3⟩ : ∃ w3, w3 = wr.alloc (.cells #[.int .u64 B.epoch, .bool B.large, .slice ba n0 bc] 56) := ⟨_, rfl⟩
        rw [← hn0]
        rw [← hw3]
        have hx3 : w3.heap[wr.heap.size]? = some (.cells #[.int .u64 B.epoch, .bool B.large, .slice ba n0 bc] 56 (0, 0)) := by rw [hw3]; exact alloc_at rfl
        have HU3 := Lib.hid (show Upd (fun _ => False) w w3 by rw [hw3]; exact HDU.out.alloc _)
        generalize wr.heap.size = t6 at hx3 ⊢
        obtain ⟨x0, x1, x2⟩ := cells3_of hx3
        have HN0 := Lib.hid hn0
        clear hw3 hx3 q0 q1 q2 hn0
        by_cases hk6 : (k : Int) = 6
        · go_wp2
          go_meet
          case rel => exact HU3.out
        · have hk6' : ((k : Int) == 6) = false := by simpa using hk6
          go_wp2_with (go_at_call 19; fail)
          refine (batch_any2 (c := bc) w3 (HBI.out.kept HU3.out) HN0.out).mono ?_
          rintro e w4 ⟨a1, c1, rfl, ⟨C1, hs1, _⟩, hal1, hc1, hu4⟩
          obtain ⟨hyk, hyl⟩ := clipB_fine HBI.out
          obtain ⟨Y, hY⟩ : ∃ Y, Y = clipB B := ⟨_, rfl⟩
          rw [← hY] at hs1 hyk hyl
          rw [← hY]
          have HS4 := Lib.hid hs1.setsIn; have HAL4 := Lib.hid hal1; have HU4 := Lib.hid (HU3.out.trans hu4); have HYK := Lib.hid hyk; have HYL := Lib.hid hyl
          clear hs1 hal1 hc1 hu4 hyk hyl hY x0 x1 x2 hk6 hk6'
          simp only []
          go_upto_region 8 with fail
          obtain ⟨w5, hw5⟩ : ∃ w5, w5 = w4.alloc (.cells #[.int .u64 Y.epoch, .bool Y.large, .slice a1 Y.sets.length c1] 56) := ⟨_, rfl⟩
          rw [← hw5]
          have hu5 : Upd (fun _ => False) w4 w5 := by rw [hw5]; exact (Upd.refl _ w4).alloc _
          have hx5 : w5.heap[w4.heap.size]? = some (.cells #[.int .u64 Y.epoch, .bool Y.large, .slice a1 Y.sets.length c1] 56 (0, 0)) := by rw [hw5]; exact alloc_at rfl
          have HS5 := Lib.hid (HS4.out.kept hu5); have HU5 := Lib.hid (HU4.out.trans hu5)
          have HAL5 := Lib.hid (show ∀ b o, a1 = some ⟨b, o, none⟩ → b < w5.heap.size from fun b o e => Nat.lt_of_lt_of_le (HAL4.out b o e) hu5.size)
          generalize w4.heap.size = t7 at hx5 ⊢
          obtain ⟨x0, x1, x2⟩ := cells3_of hx5
          have HX5 := Lib.hid hx5
          clear hw5 hu5 hx5 HS4 HAL4
          go_wp2_with (go_at_call 20; fail)
          refine (copied_any2 (c := c1) w5 HS5.out (by have := HYL.out; omega)).mono ?_
          rintro e w6 ⟨a2, c2, rfl, hs2, hc2, hu6⟩
          have HS6 := Lib.hid hs2; have HC2 := Lib.hid hc2; have HU6 := Lib.hid (HU5.out.trans hu6)
          have HS56 := Lib.hid (HS5.out.kept hu6)
          have HX6 := Lib.hid ((hu6.block _ (lt_of_heap HX5.out) (fun e => e)).trans HX5.out)
          have HAL6 := Lib.hid (show ∀ b o, a1 = some ⟨b, o, none⟩ → b < w6.heap.size from fun b o e => Nat.lt_of_lt_of_le (HAL5.out b o e) hu6.size)
          clear hs2 hc2 hu6 x0 x1 x2 HX5 HS5 HAL5
          simp only []
          go_upto_region 9 with fail
          obtain ⟨w7, hw7⟩ : ∃ w7, w7 = w6.alloc (.cells #[.int .u64 Y.epoch, .bool Y.large, .slice a2 Y.sets.length c2] 56) := ⟨_, rfl⟩
          rw [← hw7]
          have hu7 : Upd (fun _ => False) w6 w7 := by rw [hw7]; exact (Upd.refl _ w6).alloc _
          have hx7 : w7.heap[w6.heap.size]? = some (.cells #[.int .u64 Y.epoch, .bool Y.large, .slice a2 Y.sets.length c2] 56 (0, 0)) := by rw [hw7]; exact alloc_at rfl
          have HS7 := Lib.hid (HS56.out.kept hu7); have HT7 := Lib.hid (HS6.out.kept hu7); have HU7 := Lib.hid (HU6.out.trans hu7)
          have HX7 := Lib.hid ((hu7.block _ (lt_of_heap HX6.out) (fun e => e)).trans HX6.out)
          have HAL7 := Lib.hid (show ∀ b o, a1 = some ⟨b, o, none⟩ → b < w7.heap.size from fun b o e => Nat.lt_of_lt_of_le (HAL6.out b o e) hu7.size)
          generalize w6.heap.size = t8 at hx7 ⊢
          have HY7 := Lib.hid hx7
          obtain ⟨x0, x1, x2⟩ := cells3_of HX7.out
          clear hw7 hu7 hx7 HS56 HS6 HX6 HAL6
          go_wp2_with (go_at_call 21; fail)
          refine (encode_any2 (c := c1) w7 HS7.out (by have := HYL.out; omega) HYK.out HAL7.out).mono ?_
          rintro e w8 ⟨ya, yn, yc, E, rfl, hu8, hcase⟩
          have HCS := Lib.hid hcase; have HU8 := Lib.hid (HU7.out.trans hu8)
          have HS8 := Lib.hid (HS7.out.kept hu8); have HT8 := Lib.hid (HT7.out.kept hu8)
          have HX8 := Lib.hid ((hu8.block _ (lt_of_heap HX7.out) (fun e => e)).trans HX7.out)
          have HY8 := Lib.hid ((hu8.block _ (lt_of_heap HY7.out) (fun e => e)).trans HY7.out)
          clear hcase hu8 x0 x1 x2 HS7 HT7 HX7 HY7 HAL7
          simp only []
          obtain ⟨y0, y1, y2⟩ := cells3_of HY8.out
          go_wp2_with (go_at_call 22; fail)
          refine (refRight_any2 (c := c2) w8 HT8.out (by have := HYL.out; omega) HC2.out).mono ?_
          rintro e w9 ⟨rfl, hu9⟩
          have HU9 := Lib.hid (HU8.out.trans hu9)
          have HS9 := Lib.hid (HS8.out.kept hu9); have HT9 := Lib.hid (HT8.out.kept hu9)
          have hx9 := (hu9.block _ (lt_of_heap HX8.out) (fun e => e)).trans HX8.out
          have hy9 := (hu9.block _ (lt_of_heap HY8.out) (fun e => e)).trans HY8.out
          have HY9 := Lib.hid hy9
          obtain ⟨y0, y1, y2⟩ := cells3_of hy9
          obtain ⟨x0, x1, x2⟩ := cells3_of hx9
          have HCS9 : RowKit.Hid ((E = 0 ∧ Y.right = true ∧ OwnB w9 w7.heap.size (.slice ya yn yc) (encF Y)) ∨ (E = 2 ∧ Y.right = false ∧ yn = 0)) := Lib.hid (HCS.out.imp_left (fun h => ⟨h.1, h.2.1, OwnB.keptF h.2.2 hu9 (fun _ _ e => e)⟩))
          clear hu9 hx9 hy9 HX8 HY8 HS8 HT8 HCS
          simp only []
          go_wp2_with (go_at_call 23; fail)
          refine (same_any2 (A := Y) (B := Y) (c := c1) (d := c2) w9 HS9.out HT9.out (by have := HYL.out; omega)).mono ?_
          rintro e w10 ⟨rs, rfl, hrs, hu10⟩
          have hrs' := hrs.2 rfl
          subst hrs'
          have HU10 := Lib.hid (HU9.out.trans hu10)
          have HT10 := Lib.hid (HT9.out.kept hu10)
          obtain ⟨y0, y1, y2⟩ := cells3_of ((hu10.block _ (lt_of_heap HY9.out) (fun e => e)).trans HY9.out)
          have HU910 := Lib.hid hu10
          clear hrs hu10 x0 x1 x2 HS9 HT9
          simp only []
          have hcv2 : IntKind.i64.wrap ((k : Int) + 1) = (k : Int) + 1 := by rw [IntKind.wrap_i64]; have := HLM.out; omega
          rcases HCS9.out with ⟨hE, hrt, ho⟩ | ⟨hE, hrt, hyn⟩
          · subst hE
            rw [hrt]
            have HO := Lib.hid (OwnB.keptF ho HU910.out (fun _ _ e => e)); have HRT := Lib.hid hrt
            clear ho hrt
            go_wp2_with (go_at_call 25; fail)
            refine (refBytes_any2 (c := c2) w10 HT10.out HRT.out HYK.out).mono ?_
            rintro e w11 ⟨u, rfl, ho2, hu11⟩
            obtain ⟨ua, uc, rfl, _⟩ := ho2.bytesAt.1.slice
            have HO2 := Lib.hid ho2; have HU11 := Lib.hid (HU10.out.trans hu11)
            have HO1 := Lib.hid (OwnB.keptF HO.out hu11 (fun _ _ e => e))
            clear ho2 hu11 y0 y1 y2
            simp only []
            go_wp2_with (go_at_call 24; fail)
            refine (equal_any w11 HO1.out.bytesAt.1.bytesIn HO2.out.bytesAt.1.bytesIn (encF_by HYK.out) (encF_by HYK.out)).mono ?_
            rintro e w12 ⟨rfl, rfl⟩
            have hbb : (encF Y == encF Y) = true := by simp
            rw [hbb]
            simp only []
            go_wp2
            go_roundg (ln - (k + 1))
            case measure => omega
            case rel => exact ⟨k + 1, by omega, rfl, congrArg _ (by omega), HU11.out⟩
          · subst hE
            subst hyn
            rw [hrt]
            clear hrt
            go_wp2
            go_roundg (ln - (k + 1))
            case measure => omega
            case rel => exact ⟨k + 1, by omega, rfl, congrArg _ (by omega), HU10.out⟩
      · obtain rfl : k = ln := by omega
        go_wp2
        go_meet
        case rel => exact HDU.out
  case rest =>
    have HU3 := Lib.hid hcut
    clear hcut
    go_upto_region 15 with fail
    go_loopg [80] rn (fun gk i wr => ∃ k : Nat, k ≤ rn ∧ gk = rn - k ∧ i = .int .i64 k ∧ Upd (fun _ => False) w wr)
    case atStart => exact ⟨0, Nat.zero_le _, rfl, rfl, HU3.out⟩
    case round =>
      obtain ⟨k, hk, rfl, rfl, hd⟩ := hrel
      have HDU := Lib.hid hd
      clear hd
      by_cases hkn : k < rn
      · have hkni : (k : Int) < rn := by omega
        obtain ⟨b, o, bs, ba, bc, rfl, hbi, hby, hbl, hbc, h0⟩ := HR.out k hkn
        have q0 := cell_keptF HDU.out (fun e => e) h0
        obtain ⟨m, hm, hm1, hm2⟩ : ∃ m : Nat, min (bs.length : Int) 9000 = m ∧ m ≤ bs.length ∧ m ≤ 9000 := ⟨min bs.length 9000, by omega, by omega, by omega⟩
        obtain ⟨hsl, hbm⟩ := hbi.head hbl hm1
        obtain ⟨nb, hnb⟩ : ∃ nb, nb = bs.length := ⟨_, rfl⟩
        rw [← hnb] at hm hsl q0
        obtain ⟨cs, hcs⟩ : ∃ cs, cs = bs.take m := ⟨_, rfl⟩
        rw [← hcs] at hbm
        have hcsl : cs.length = m := by rw [hcs]; simp; omega
        have hcb : Bytes cs := by rw [hcs]; exact fun x hx => hby x (List.mem_of_mem_take hx)
        have HBM0 := Lib.hid hbm; have HBM := Lib.hid (hbm.kept HDU.out); have HCB := Lib.hid hcb; have HCL := Lib.hid hcsl; have HM2 := Lib.hid hm2
        clear hbi hby hbl hbc h0 hbm hcs hcsl hcb hnb hm1 hm2
        have hcv2 : IntKind.i64.wrap ((k : Int) + 1) = (k : Int) + 1 := by rw [IntKind.wrap_i64]; have := HRM.out; omega
        by_cases hk12 : (k : Int) = 12
        · have HK12 := Lib.hid hk12
          clear hm hsl hk12
          go_upto_region 17 with fail
          have hk12 := HK12.out
          have hk12' : ((k : Int) == 12) = true := by simpa using hk12
          clear q0
          go_wp2
          go_ret
          exact ⟨rfl, HDU.out⟩
        · have hk12' : ((k : Int) == 12) = false := by simpa using hk12
          go_upto_region 19 with fail
          clear hm hsl q0 hk12 hk12'
          iterate 7 go_step
          refine wpList_appB (bs := []) (cs := cs) rfl (.tmp 92) (.tmp 93) rfl rfl (own_nil wr (Nat.le_refl _)) rfl (HBM.out.kept ((Upd.refl (fun _ => False) wr).alloc _)) (by rw [HCL.out]; have := HM2.out; simp; omega) (by simp) ?_
          intro v4 w4 g1 g2
          rw [List.nil_append] at g1
          obtain ⟨oa, oc, rfl, _⟩ := g1.bytesAt.1.slice
          have hu4 : Upd (fun _ => False) wr w4 := ((Upd.refl (fun _ => False) wr).alloc _).step g2 (fun j hj e => by
            have e' := Option.some.inj e
            simp only at e'
            omega)
          have HO4 := Lib.hid g1; have HU4 := Lib.hid (HDU.out.trans hu4); have HBM4 := Lib.hid (HBM.out.kept hu4)
          clear g1 g2 hu4 HBM
          simp only [Act.put, List.setIfInBounds_toArray, List.set]
          go_upto_region 20 with fail
          iterate 7 go_step
          refine wpList_appB (bs := []) (cs := cs) rfl (.tmp 96) (.tmp 97) rfl rfl (own_nil w4 (Nat.le_refl _)) rfl (HBM4.out.kept ((Upd.refl (fun _ => False) w4).alloc _)) (by rw [HCL.out]; have := HM2.out; simp; omega) (by simp) ?_
          intro v5 w5 g1 g2
          rw [List.nil_append] at g1
          obtain ⟨pa, pc, rfl, _⟩ := g1.bytesAt.1.slice
          have hu5 : Upd (fun _ => False) w4 w5 := ((Upd.refl (fun _ => False) w4).alloc _).step g2 (fun j hj e => by
            have e' := Option.some.inj e
            simp only at e'
            omega)
          have HP5 := Lib.hid g1; have HU5 := Lib.hid (HU4.out.trans hu5); have HBM5 := Lib.hid (HBM4.out.kept hu5); have HO5 := Lib.hid (OwnB.keptF HO4.out hu5 (fun _ _ e => e))
          clear g1 g2 hu5 HBM4 HO4
          simp only [Act.put, List.setIfInBounds_toArray, List.set]
          obtain ⟨Z, hZ⟩ : ∃ Z, Z = (decF cs).1 := ⟨_, rfl⟩
          obtain ⟨E, hE⟩ : ∃ E, E = (decF cs).2 := ⟨_, rfl⟩
          have HZ := Lib.hid hZ; have HE := Lib.hid hE
          have hrd := refDecode_any w5 HP5.out.bytesAt.1.bytesIn HCB.out (by rw [HCL.out]; have := HM2.out; omega)
          unfold DecAns batchV at hrd
          rw [← hZ, ← hE] at hrd
          have HRD := Lib.hid hrd
          clear hrd hZ hE
          go_wp2_with (go_at_call 26; fail)
          refine HRD.out.mono ?_
          rintro e w6 ⟨a3, c3, rfl, ⟨C3, h31, _⟩, hf3, _, hu6⟩
          have HW6 := Lib.hid h31.setsIn; have HU6 := Lib.hid (HU5.out.trans hu6); have HO6 := Lib.hid (OwnB.keptF HO5.out hu6 (fun _ _ e => e)); have HF3 := Lib.hid hf3
          clear h31 hf3 hu6 HRD HO5 HP5
          simp only []
          go_upto_region 21 with fail
          obtain ⟨w7, hw7⟩ : ∃ w7, w7 = w6.alloc (.cells #[.int .u64 Z.epoch, .bool Z.large, .slice a3 Z.sets.length c3] 56) := ⟨_, rfl⟩
          rw [← hw7]
          have hu7 : Upd (fun _ => False) w6 w7 := by rw [hw7]; exact (Upd.refl _ w6).alloc _
          have hx7 : w7.heap[w6.heap.size]? = some (.cells #[.int .u64 Z.epoch, .bool Z.large, .slice a3 Z.sets.length c3] 56 (0, 0)) := by rw [hw7]; exact alloc_at rfl
          have HW7 := Lib.hid (HW6.out.kept hu7); have HU7 := Lib.hid (HU6.out.trans hu7); have HO7 := Lib.hid (OwnB.keptF HO6.out hu7 (fun _ _ e => e))
          generalize w6.heap.size = t15 at hx7 ⊢
          have HX7 := Lib.hid hx7
          have hdd := decode_any w7 HO7.out.bytesAt.1.bytesIn HCB.out (by rw [HCL.out]; have := HM2.out; omega)
          unfold DecAns batchV at hdd
          rw [← HZ.out, ← HE.out] at hdd
          have HDD := Lib.hid hdd
          clear hw7 hu7 hx7 hdd HW6 HO6
          go_wp2_with (go_at_call 27; fail)
          refine HDD.out.mono ?_
          rintro e w8 ⟨a4, c4, rfl, ⟨CB, h41, h42, h43, h44⟩, hf4, _, hu8⟩
          have HW8 := Lib.hid (HW7.out.kept hu8); have HU8 := Lib.hid (HU7.out.trans hu8); have HO8 := Lib.hid (OwnB.keptF HO7.out hu8 (fun _ _ e => e))
          have HX8 := Lib.hid ((hu8.block _ (lt_of_heap HX7.out) (fun e => e)).trans HX7.out)
          have HS8 := Lib.hid h41.setsIn; have HN8 := Lib.hid (NewOk.of h41 h44); have HRC8 := Lib.hid h42; have HLB := Lib.hid h43
          clear h41 h42 h43 h44 hf4 hu8 HDD HW7 HX7
          simp only []
          go_upto_region 22 with fail
          obtain ⟨w9, hw9⟩ : ∃ w9, w9 = w8.alloc (.cells #[.int .u64 Z.epoch, .bool Z.large, .slice a4 Z.sets.length c4] 56) := ⟨_, rfl⟩
          rw [← hw9]
          have hu9 : Upd (fun _ => False) w8 w9 := by rw [hw9]; exact (Upd.refl _ w8).alloc _
          have hx9 : w9.heap[w8.heap.size]? = some (.cells #[.int .u64 Z.epoch, .bool Z.large, .slice a4 Z.sets.length c4] 56 (0, 0)) := by rw [hw9]; exact alloc_at rfl
          have HW9 := Lib.hid (HW8.out.kept hu9); have HU9 := Lib.hid (HU8.out.trans hu9); have HO9 := Lib.hid (OwnB.keptF HO8.out hu9 (fun _ _ e => e)); have HS9 := Lib.hid (HS8.out.kept hu9); have HN9 := Lib.hid (HN8.out.kept0 hu9); have HRC9 := Lib.hid (HRC8.out.kept hu9 (fun _ _ e => e))
          have hy9 := (hu9.block _ (lt_of_heap HX8.out) (fun e => e)).trans HX8.out
          generalize w8.heap.size = t17 at hx9 ⊢
          have HX9 := Lib.hid hx9
          obtain ⟨x0, x1, x2⟩ := cells3_of hx9
          obtain ⟨y0, y1, y2⟩ := cells3_of hy9
          clear hw9 hu9 hx9 hy9 HW8 HO8 HS8 HN8 HRC8 HX8
          have hzl : Z.sets.length ≤ 1000000 := by
            rcases dec_err cs with h | ⟨h, _⟩
            · have := (enc_dec HCB.out h).2
              rw [← HZ.out] at this
              have := (BatchV.right_sets this).2.1
              omega
            · rw [HZ.out, h]; simp [BatchV.zero]
          have HZL := Lib.hid hzl
          clear hzl
          go_wp2_with (go_at_call 23; fail)
          refine (same_any2 (A := Z) (B := Z) (c := c4) (d := c3) w9 HS9.out HW9.out HZL.out).mono ?_
          rintro e w10 ⟨rs, rfl, hrs, hu10⟩
          have hrs' := hrs.2 rfl
          subst hrs'
          have HU10 := Lib.hid (HU9.out.trans hu10); have HO10 := Lib.hid (OwnB.keptF HO9.out hu10 (fun _ _ e => e)); have HN10 := Lib.hid (HN9.out.kept0 hu10); have HRC10 := Lib.hid (HRC9.out.kept hu10 (fun _ _ e => e))
          have HX10 := Lib.hid ((hu10.block _ (lt_of_heap HX9.out) (fun e => e)).trans HX9.out)
          clear hrs hu10 x0 x1 x2 y0 y1 y2 HW9 HS9 HN9 HRC9 HO9 HX9
          simp only []
          have hbb : (cs == cs) = true := by simp
          go_wp2_with (go_at_call 24; fail)
          refine (equal_any w10 HO10.out.bytesAt.1.bytesIn (HBM0.out.kept HU10.out) HCB.out HCB.out).mono ?_
          rintro e w11 ⟨rfl, rfl⟩
          rw [hbb]
          simp only []
          obtain ⟨x0, x1, x2⟩ := cells3_of HX10.out
          have HCL10 := Lib.hid (show ∀ k, CB k → k < w10.heap.size from HRC10.out.lt)
          go_upto_block 4 with fail
          clear x0 x1 x2
          go_upto_region 25 with fail
          obtain ⟨nz, hnz⟩ : ∃ nz, nz = Z.sets.length := ⟨_, rfl⟩
          rw [← hnz]
          have HNZ := Lib.hid hnz
          have HNZL := Lib.hid (show nz ≤ 1000000 by rw [hnz]; exact HZL.out)
          clear hnz
          go_loopg [125] nz (fun gk i wr => ∃ k : Nat, k ≤ nz ∧ gk = nz - k ∧ i = .int .i64 k ∧ NewOk CB a4 Z.sets wr ∧ RowC wr CB ∧ Upd CB w10 wr)
          case atStart => exact ⟨0, Nat.zero_le _, rfl, rfl, HN10.out, HRC10.out, Upd.refl _ _⟩
          case round =>
            obtain ⟨k4, hk4, rfl, rfl, hn4, hr4, hu4⟩ := hrel
            have HN4 := Lib.hid hn4; have HR4 := Lib.hid hr4; have HU4 := Lib.hid hu4
            clear hn4 hr4 hu4
            by_cases hkz : k4 < nz
            · have hkzi : (k4 : Int) < nz := by omega
              obtain ⟨x, hx⟩ : ∃ x, Z.sets[k4]? = some x := ⟨_, List.getElem?_eq_getElem (by have := HNZ.out; omega)⟩
              obtain ⟨b4, o4, ob, oc4, na, nc, rfl, hcb, c0, c1, c2, c3, c4', hnl, hnew⟩ := HN4.out k4 x hx
              have HNEW := Lib.hid hnew; have HX := Lib.hid hx; have HNL := Lib.hid hnl
              have HX5 := Lib.hid (show x.new.length ≤ 140737488351232 from (HF3.out x (List.mem_of_getElem? hx)).2.2.1)
              clear hcb hnew hx hnl
              go_upto_region 27 with fail
              obtain ⟨w12, hw12⟩ : ∃ w12, w12 = wr.alloc (.cells #[.string x.name, .bool x.was, .bool x.is, .slice ob x.old.length oc4, .slice na x.new.length nc] 73) := ⟨_, rfl⟩
              rw [← hw12]
              have hu12 : Upd (fun _ => False) wr w12 := by rw [hw12]; exact (Upd.refl _ wr).alloc _
              have hx12 : w12.heap[wr.heap.size]? = some (.cells #[.string x.name, .bool x.was, .bool x.is, .slice ob x.old.length oc4, .slice na x.new.length nc] 73 (0, 0)) := by rw [hw12]; exact alloc_at rfl
              have hcl : ∀ k, CB k → k ≠ wr.heap.size := fun k hk e => by have := HCL10.out k hk; have := HU4.out.size; omega
              obtain ⟨nl, hnl⟩ : ∃ nl, nl = x.new.length := ⟨_, rfl⟩
              rw [← hnl] at hx12
              have hcur : CurOk CB na nl wr := by
                rcases HNEW.out with e | ⟨g, p, e1, hg, hc⟩
                · exact .inl (by rw [hnl, e]; rfl)
                · exact .inr ⟨g, p, e1, hg, fun j hj => hc j (by omega)⟩
              have hnlb : nl ≤ 140737488351232 := by rw [hnl]; exact HX5.out
              generalize wr.heap.size = t20 at hx12 hcl ⊢
              have HX12 := Lib.hid hx12; have HCT := Lib.hid hcl; have HCUR := Lib.hid (hcur.kept0 hu12); have HN12 := Lib.hid (HN4.out.kept0 hu12); have HR12 := Lib.hid (HR4.out.kept hu12 (fun _ _ e => e)); have HU12 := Lib.hid (HU4.out.trans (hu12.mono (F := fun _ => False) (fun _ _ e => e.elim)))
              obtain ⟨x0, x1, x2, x3, x4⟩ := cells5_of hx12
              have HNLB := Lib.hid hnlb
              clear hw12 hu12 hx12 hcl hcur hnlb c0 c1 c2 c3 c4' HNEW HX5 hnl
              go_upto_block 6 with fail
              clear x0 x1 x2 x3 x4
              go_upto_region 28 with fail
              go_loopg [132] nl (fun gk i wr => ∃ j : Nat, j ≤ nl ∧ gk = nl - j ∧ i = .int .i64 j ∧ NewOk CB (some ⟨b4, o4, none⟩) Z.sets wr ∧ RowC wr CB ∧ CurOk CB na nl wr ∧ Upd CB w12 wr)
              case atStart => exact ⟨0, Nat.zero_le _, rfl, rfl, HN12.out, HR12.out, HCUR.out, Upd.refl _ _⟩
              case round =>
                obtain ⟨j, hj, rfl, rfl, hnj, hrj, hcj, huj⟩ := hrel
                have HNJ := Lib.hid hnj; have HRJ := Lib.hid hrj; have HCJ := Lib.hid hcj; have HUJ := Lib.hid huj
                clear hnj hrj huj
                by_cases hjn : j < nl
                · have hjni : (j : Int) < nl := by omega
                  obtain ⟨g, p, rfl, hg, hc⟩ : ∃ g p, na = some ⟨g, p, none⟩ ∧ CB g ∧ ∀ j, j < nl → ∃ v, wr.cell? ⟨g, p + j, none⟩ = some (.int .u8 v) := by
                    rcases hcj with e | h
                    · omega
                    · exact h
                  obtain ⟨v, hv⟩ := hc j hjn
                  obtain ⟨gs, hgs⟩ := HRJ.out g hg
                  have hf : wr.frozen? ⟨g, p + j, none⟩ = false := frozen_of_heap hgs
                  have hx12 := (HUJ.out.block _ (lt_of_heap HX12.out) (fun e => HCT.out _ e rfl)).trans HX12.out
                  obtain ⟨x0, x1, x2, x3, x4⟩ := cells5_of hx12
                  have hcv3 : IntKind.i64.wrap ((j : Int) + 1) = (j : Int) + 1 := by rw [IntKind.wrap_i64]; have := HNLB.out; omega
                  have HG := Lib.hid hg; have HV := Lib.hid hv
                  clear hc hgs hx12 hg hcj
                  go_wp2
                  go_roundg (nl - (j + 1))
                  case measure => omega
                  case rel => exact ⟨j + 1, by omega, rfl, congrArg _ (by omega), HNJ.out.put HG.out HV.out, HRJ.out.put, HCJ.out.put HV.out, HUJ.out.trans ((upd_own wr g (p + j) _).mono (F := fun k => k = g) (fun _ _ e => e ▸ HG.out))⟩
                · obtain rfl : j = nl := by omega
                  have hcv4 : IntKind.i64.wrap ((k4 : Int) + 1) = (k4 : Int) + 1 := by rw [IntKind.wrap_i64]; have := HNZL.out; omega
                  clear hcj
                  go_wp2
                  go_roundg (nz - (k4 + 1))
                  case measure => omega
                  case rel => exact ⟨k4 + 1, by omega, rfl, congrArg _ (by omega), HNJ.out, HRJ.out, HU12.out.trans HUJ.out⟩
            · obtain rfl : k4 = nz := by omega
              have HOF := Lib.hid (OwnB.keptF HO10.out HU4.out (fun j hj e => by have h1 := HLB.out j e; have h2 := (HO7.out.lt j hj).2; omega))
              have HUF := Lib.hid (show Upd (fun _ => False) w wr from HU10.out.step HU4.out (fun j hj e => by have h1 := HLB.out j e; have h2 := HU7.out.size; omega))
              go_wp2_with (go_at_call 24; fail)
              refine (equal_any wr HOF.out.bytesAt.1.bytesIn (HBM0.out.kept HUF.out) HCB.out HCB.out).mono ?_
              rintro e w13 ⟨rfl, rfl⟩
              rw [hbb]
              simp only []
              go_wp2
              go_roundg (rn - (k + 1))
              case measure => omega
              case rel => exact ⟨k + 1, by omega, rfl, congrArg _ (by omega), HUF.out⟩
      · obtain rfl : k = rn := by omega
        go_wp2
        go_ret
        exact ⟨rfl, HDU.out⟩
end Go.Proofs.YtbimkhdiplnbfaaGreat
end

