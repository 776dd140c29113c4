/- Walks: names that may be a snapshot's (snap.named). -/
import Derived.Test.YtbonfdkgkcbkmaaGreatW13
import Derived.Test.YtbonfdkgkcbkmaaGreatW14
import Derived.Test.YtbonfdkgkcbkmaaGreatW15
import Derived.ChangeKeysEq
set_option linter.unusedVariables false
set_option linter.unusedSimpArgs false

section
namespace Go.Proofs.YtbonfdkgkcbkmaaGreat
set_option maxRecDepth 100000
open Go.RowKit Go.Shelf

attribute [local go_sem] Oper.semAt_some
/-- Names in a row. -/
def NmsIn (w : World) (a : Option Addr) (l : List NmV) : Prop := Row 3 w a (l.map NmV.cells)
theorem NmsIn.kept {w w' : World} {a : Option Addr} {l : List NmV} (h : NmsIn w a l) (hu : Upd0 w w') : NmsIn w' a l := Row.kept h hu
theorem NmsIn.at {w : World} {a : Option Addr} {l : List NmV} (h : NmsIn w a l) {i : Nat} {x : NmV} (hi : l[i]? = some x) : ∃ b f, a = some ⟨b, f, none⟩ ∧ w.cell? ⟨b, f + i * 3, none⟩ = some (.int .i64 x.sink) ∧ w.cell? ⟨b, f + i * 3 + 1, none⟩ = some (.int .i64 x.att) ∧ w.cell? ⟨b, f + i * 3 + 2, none⟩ = some (.int .i64 x.ser) := by
  obtain ⟨_, b, f, e, hc⟩ := h i x.cells (by rw [List.getElem?_map, hi]; rfl)
  have h0 := hc 0 _ rfl
  have h1 := hc 1 _ rfl
  have h2 := hc 2 _ rfl
  simp only [Nat.add_zero, ← Nat.add_assoc] at h0 h1 h2
  exact ⟨b, f, e, h0, h1, h2⟩
def badNm (prev : Option NmV) (x : NmV) : Bool := (chkNm x != 0) || (match prev with | none => false | some p => decide (0 ≤ cmpNm p x))
def nmsB : Option NmV → List NmV → Bool
  | _, [] => true
  | p, x :: l => !badNm p x && nmsB (some x) l
/-- May names be a snapshot's? -/
def namedB (l : List NmV) : Bool := nmsB none l && decide (l.length ≤ 24)
def prevNm (l : List NmV) (k : Nat) : Option NmV := (l.take k).getLast?
theorem prevNm_succ {l : List NmV} {k : Nat} {x : NmV} (h : l[k]? = some x) : prevNm l (k + 1) = some x := by
  rw [prevNm, take_cons' h]; simp
theorem nms_yes {p : Option NmV} {x : NmV} {l : List NmV} (h : badNm p x = false) : nmsB p (x :: l) = nmsB (some x) l := by simp [nmsB, h]
theorem nms_no {p : Option NmV} {x : NmV} {l : List NmV} (h : badNm p x = true) : nmsB p (x :: l) = false := by simp [nmsB, h]
set_option maxHeartbeats 8000000 in
theorem named_any {a : Option Addr} {l : List NmV} {c : Nat} (w : World) (h : NmsIn w a l) (hl : l.length ≤ 140737488351232) :
    Calls Tryz.prog 232 #[.slice a l.length c] w fun e w' => e = .returned (.bool (namedB l)) ∧ Upd0 w w' := by
  have H := Lib.hid h
  clear h
  go_enter Tryz.func232, Tryz.ntmps232
  go_wp2_with (fail)
  go_loopw [7] (fun i wr => ∃ k : Nat, k ≤ l.length ∧ i = .int .i64 k ∧ Hid (nmsB (prevNm l k) (l.drop k) = nmsB none l) ∧ Hid (Upd0 w wr)) (fun i _ => l.length - (intOf i).toNat)
  case atStart => exact ⟨0, Nat.zero_le _, rfl, Lib.hid rfl, Lib.hid (Upd.refl _ _)⟩
  case round =>
    obtain ⟨k, hk, rfl, HT, HR⟩ := hrel
    by_cases hlt : k < l.length
    · obtain ⟨x, hx⟩ : ∃ x, l[k]? = some x := ⟨_, List.getElem?_eq_getElem hlt⟩
      obtain ⟨b, f, rfl, c0, c1, c2⟩ := (H.out.kept HR.out).at hx
      have hbl := lt_of_cell c0
      have HT2 : Hid (nmsB (prevNm l k) (x :: l.drop (k + 1)) = nmsB none l) := by rw [← drop_cons' hx]; exact HT
      obtain ⟨w4, hw4⟩ : ∃ w4, w4 = wr.alloc (.cells #[.int .i64 x.sink, .int .i64 x.att, .int .i64 x.ser] 215) := ⟨_, rfl⟩
      have hu4 : Upd0 wr w4 := by rw [hw4]; exact (Upd.refl _ wr).alloc _
      have HX4 := Lib.hid (show w4.heap[wr.heap.size]? = some (.cells #[.int .i64 x.sink, .int .i64 x.att, .int .i64 x.ser] 215 (0, 0)) by rw [hw4]; exact alloc_at rfl)
      have HU4 := Lib.hid (HR.out.trans hu4)
      have HL := Lib.hid hx
      obtain ⟨bx, hbx⟩ : ∃ bx, bx = wr.heap.size := ⟨_, rfl⟩
      rw [← hbx] at HX4
      clear hx HT hu4
      go_upto_region 4 with fail
      rw [← hw4, ← hbx]
      clear hw4 hbx c0 c1 c2 hbl
      have hA : Upd0 w4 w4.drew := (Upd.refl _ _).drew
      by_cases hz : chkNm x = 0
      · by_cases hk0 : k = 0
        · subst hk0
          have HBAD := Lib.hid (show badNm (prevNm l 0) x = false by simp [badNm, prevNm, hz])
          refine wp_region_G 16 (fun W => Upd0 w4 W) [false, false, false, false, false, false, false, false, false, false, false, false, false, false, false, false, false] rfl (by kernel_rfl) ?_
          refine wpG_takeT (i := 0) (v := .agg #[.int .i64 x.sink, .int .i64 x.att, .int .i64 x.ser]) rfl (fun L hc h => (hc.waits (n := 16) (i := 3) (by kernel_rfl) (hc.waits (n := 3) (i := 1) (by kernel_rfl) (hc.waits (n := 1) (i := 0) (by kernel_rfl) h)))) (by kernel_rfl) (fun _ _ _ h => h) hA (.inl ⟨rfl, fun w5 q1 => ?_⟩) ?_
          · obtain ⟨c0, c1, c2⟩ := cells3_of ((q1.block _ (lt_of_heap HX4.out) (fun e => e)).trans HX4.out)
            go_simp
          simp only [Act.put, List.setIfInBounds_toArray, List.set]
          refine wpG_doIf (i := 1) rfl (by kernel_rfl) rfl (fun K hK => ?_)
          have HKK := Lib.hid hK
          clear hK
          go_step
          refine (checkname_any x _).mono ?_
          rintro _ w8 ⟨rfl, hu6⟩
          have hA6 := hA.trans hu6
          clear hu6
          rw [hz]
          simp only []
          refine HKK.out _ _ hA6 ?_
          clear HKK
          simp only [Act.put, List.setIfInBounds_toArray, List.set]
          refine wpG_takeT (i := 2) (v := .bool false) rfl (fun L hc h => (hc.waits (n := 16) (i := 3) (by kernel_rfl) (hc.waits (n := 3) (i := 2) (by kernel_rfl) h))) (by kernel_rfl) (fun _ _ _ h => h) hA6 (.inl ⟨rfl, fun w5 q1 => ?_⟩) ?_
          · go_simp
          simp only [Act.put, List.setIfInBounds_toArray, List.set]
          refine wpG_takeT (i := 3) (v := .bool false) rfl (fun L hc h => (hc.waits (n := 16) (i := 3) (by kernel_rfl) h)) (by kernel_rfl) (fun _ _ _ h => h) hA6 (.inl ⟨rfl, fun w5 q1 => ?_⟩) ?_
          · go_simp
          simp only [Act.put, List.setIfInBounds_toArray, List.set]
          refine wpG_takeT (i := 4) (v := .int .i64 0) rfl (fun L hc h => (hc.waits (n := 16) (i := 15) (by kernel_rfl) (hc.waits (n := 15) (i := 6) (by kernel_rfl) (hc.waits (n := 6) (i := 5) (by kernel_rfl) (hc.waits (n := 5) (i := 4) (by kernel_rfl) h))))) (by kernel_rfl) (fun _ _ _ h => h) hA6 (.inl ⟨rfl, fun w5 q1 => ?_⟩) ?_
          · go_simp
          simp only [Act.put, List.setIfInBounds_toArray, List.set]
          refine wpG_takeT (i := 5) (v := .bool false) rfl (fun L hc h => (hc.waits (n := 16) (i := 15) (by kernel_rfl) (hc.waits (n := 15) (i := 6) (by kernel_rfl) (hc.waits (n := 6) (i := 5) (by kernel_rfl) h)))) (by kernel_rfl) (fun _ _ _ h => h) hA6 (.inl ⟨rfl, fun w5 q1 => ?_⟩) ?_
          · go_simp
          simp only [Act.put, List.setIfInBounds_toArray, List.set]
          refine wpG_takeT (i := 6) (v := .bool false) rfl (fun L hc h => (hc.waits (n := 16) (i := 15) (by kernel_rfl) (hc.waits (n := 15) (i := 6) (by kernel_rfl) h))) (by kernel_rfl) (fun _ _ _ h => h) hA6 (.inl ⟨rfl, fun w5 q1 => ?_⟩) ?_
          · go_simp
          simp only [Act.put, List.setIfInBounds_toArray, List.set]
          refine wpG_takeT (i := 7) (v := undef) rfl (fun L hc h => (hc.waits (n := 16) (i := 15) (by kernel_rfl) (hc.waits (n := 15) (i := 14) (by kernel_rfl) (hc.waits (n := 14) (i := 13) (by kernel_rfl) (hc.waits (n := 13) (i := 11) (by kernel_rfl) (hc.waits (n := 11) (i := 10) (by kernel_rfl) (hc.waits (n := 10) (i := 7) (by kernel_rfl) h))))))) (by kernel_rfl) (fun _ _ _ h => h) hA6 (.inr ⟨rfl, rfl⟩) ?_
          simp only [Act.put, List.setIfInBounds_toArray, List.set]
          refine wpG_takeT (i := 8) (v := undef) rfl (fun L hc h => (hc.waits (n := 16) (i := 15) (by kernel_rfl) (hc.waits (n := 15) (i := 14) (by kernel_rfl) (hc.waits (n := 14) (i := 13) (by kernel_rfl) (hc.waits (n := 13) (i := 11) (by kernel_rfl) (hc.waits (n := 11) (i := 10) (by kernel_rfl) (hc.waits (n := 10) (i := 9) (by kernel_rfl) (hc.waits (n := 9) (i := 8) (by kernel_rfl) h)))))))) (by kernel_rfl) (fun _ _ _ h => h) hA6 (.inr ⟨rfl, rfl⟩) ?_
          simp only [Act.put, List.setIfInBounds_toArray, List.set]
          refine wpG_takeT (i := 9) (v := undef) rfl (fun L hc h => (hc.waits (n := 16) (i := 15) (by kernel_rfl) (hc.waits (n := 15) (i := 14) (by kernel_rfl) (hc.waits (n := 14) (i := 13) (by kernel_rfl) (hc.waits (n := 13) (i := 11) (by kernel_rfl) (hc.waits (n := 11) (i := 10) (by kernel_rfl) (hc.waits (n := 10) (i := 9) (by kernel_rfl) h))))))) (by kernel_rfl) (fun _ _ _ h => h) hA6 (.inr ⟨rfl, rfl⟩) ?_
          simp only [Act.put, List.setIfInBounds_toArray, List.set]
          refine wpG_takeT (i := 10) (v := undef) rfl (fun L hc h => (hc.waits (n := 16) (i := 15) (by kernel_rfl) (hc.waits (n := 15) (i := 14) (by kernel_rfl) (hc.waits (n := 14) (i := 13) (by kernel_rfl) (hc.waits (n := 13) (i := 11) (by kernel_rfl) (hc.waits (n := 11) (i := 10) (by kernel_rfl) h)))))) (by kernel_rfl) (fun _ _ _ h => h) hA6 (.inr ⟨rfl, rfl⟩) ?_
          simp only [Act.put, List.setIfInBounds_toArray, List.set]
          refine wpG_takeT (i := 11) (v := undef) rfl (fun L hc h => (hc.waits (n := 16) (i := 15) (by kernel_rfl) (hc.waits (n := 15) (i := 14) (by kernel_rfl) (hc.waits (n := 14) (i := 13) (by kernel_rfl) (hc.waits (n := 13) (i := 11) (by kernel_rfl) h))))) (by kernel_rfl) (fun _ _ _ h => h) hA6 (.inr ⟨rfl, rfl⟩) ?_
          simp only [Act.put, List.setIfInBounds_toArray, List.set]
          refine wpG_takeT (i := 12) (v := undef) rfl (fun L hc h => (hc.waits (n := 16) (i := 15) (by kernel_rfl) (hc.waits (n := 15) (i := 14) (by kernel_rfl) (hc.waits (n := 14) (i := 13) (by kernel_rfl) (hc.waits (n := 13) (i := 12) (by kernel_rfl) h))))) (by kernel_rfl) (fun _ _ _ h => h) hA6 (.inr ⟨rfl, rfl⟩) ?_
          simp only [Act.put, List.setIfInBounds_toArray, List.set]
          refine wpG_takeT (i := 13) (v := undef) rfl (fun L hc h => (hc.waits (n := 16) (i := 15) (by kernel_rfl) (hc.waits (n := 15) (i := 14) (by kernel_rfl) (hc.waits (n := 14) (i := 13) (by kernel_rfl) h)))) (by kernel_rfl) (fun _ _ _ h => h) hA6 (.inr ⟨rfl, rfl⟩) ?_
          simp only [Act.put, List.setIfInBounds_toArray, List.set]
          refine wpG_takeT (i := 14) (v := undef) rfl (fun L hc h => (hc.waits (n := 16) (i := 15) (by kernel_rfl) (hc.waits (n := 15) (i := 14) (by kernel_rfl) h))) (by kernel_rfl) (fun _ _ _ h => h) hA6 (.inr ⟨rfl, rfl⟩) ?_
          simp only [Act.put, List.setIfInBounds_toArray, List.set]
          refine wpG_takeT (i := 15) (v := .bool false) rfl (fun L hc h => (hc.waits (n := 16) (i := 15) (by kernel_rfl) h)) (by kernel_rfl) (fun _ _ _ h => h) hA6 (.inl ⟨rfl, fun w5 q1 => ?_⟩) ?_
          · go_simp
          simp only [Act.put, List.setIfInBounds_toArray, List.set]
          refine wpG_tail_lit (k := 16) rfl rfl (by kernel_rfl) ?_
          simp only [List.drop]
          clear hz
          go_wp2
          go_roundw
          case rel => exact ⟨1, by omega, by go_num, Lib.hid (by rw [← HT2.out, nms_yes HBAD.out, prevNm_succ HL.out]), Lib.hid (HU4.out.trans hA6)⟩
          case measure => simp [intOf]; omega
        · obtain ⟨j, rfl⟩ : ∃ j, k = j + 1 := ⟨k - 1, by omega⟩
          obtain ⟨y, hy⟩ : ∃ y, l[j]? = some y := ⟨_, List.getElem?_eq_getElem (by omega)⟩
          have HPV := Lib.hid (prevNm_succ hy)
          have HY := Lib.hid (show ∀ W, Upd0 w4 W → W.cell? ⟨b, f + j * 3, none⟩ = some (.int .i64 y.sink) ∧ W.cell? ⟨b, f + j * 3 + 1, none⟩ = some (.int .i64 y.att) ∧ W.cell? ⟨b, f + j * 3 + 2, none⟩ = some (.int .i64 y.ser) from fun W hW => by
            obtain ⟨b2, f2, e2, y0, y1, y2⟩ := ((H.out.kept HU4.out).kept hW).at hy
            injection e2 with e2
            injection e2 with e2 e3
            subst e2 e3
            exact ⟨y0, y1, y2⟩)
          have hjl : (j : Int) < l.length := by omega
          refine wp_region_G 13 (fun W => Upd0 w4 W) [false, false, false, false, false, false, false, false, false, false, false, false, false, false, false, false, false] rfl (by kernel_rfl) ?_
          refine wpG_takeT (i := 0) (v := .agg #[.int .i64 x.sink, .int .i64 x.att, .int .i64 x.ser]) rfl (fun L hc h => (hc.waits (n := 13) (i := 6) (by kernel_rfl) (hc.waits (n := 6) (i := 3) (by kernel_rfl) (hc.waits (n := 3) (i := 1) (by kernel_rfl) (hc.waits (n := 1) (i := 0) (by kernel_rfl) h))))) (by kernel_rfl) (fun _ _ _ h => h) hA (.inl ⟨rfl, fun w5 q1 => ?_⟩) ?_
          · obtain ⟨c0, c1, c2⟩ := cells3_of ((q1.block _ (lt_of_heap HX4.out) (fun e => e)).trans HX4.out)
            go_simp
          simp only [Act.put, List.setIfInBounds_toArray, List.set]
          refine wpG_doIf (i := 1) rfl (by kernel_rfl) rfl (fun K hK => ?_)
          have HKK := Lib.hid hK
          clear hK
          go_step
          refine (checkname_any x _).mono ?_
          rintro _ w8 ⟨rfl, hu6⟩
          have hA6 := hA.trans hu6
          clear hu6
          rw [hz]
          simp only []
          refine HKK.out _ _ hA6 ?_
          clear HKK
          simp only [Act.put, List.setIfInBounds_toArray, List.set]
          refine wpG_takeT (i := 2) (v := .bool false) rfl (fun L hc h => (hc.waits (n := 13) (i := 6) (by kernel_rfl) (hc.waits (n := 6) (i := 3) (by kernel_rfl) (hc.waits (n := 3) (i := 2) (by kernel_rfl) h)))) (by kernel_rfl) (fun _ _ _ h => h) hA6 (.inl ⟨rfl, fun w5 q1 => ?_⟩) ?_
          · go_simp
          simp only [Act.put, List.setIfInBounds_toArray, List.set]
          refine wpG_takeT (i := 3) (v := .bool false) rfl (fun L hc h => (hc.waits (n := 13) (i := 6) (by kernel_rfl) (hc.waits (n := 6) (i := 3) (by kernel_rfl) h))) (by kernel_rfl) (fun _ _ _ h => h) hA6 (.inl ⟨rfl, fun w5 q1 => ?_⟩) ?_
          · go_simp
          simp only [Act.put, List.setIfInBounds_toArray, List.set]
          refine wpG_takeT (i := 4) (v := .int .i64 ((j : Int) + 1)) rfl (fun L hc h => (hc.waits (n := 13) (i := 6) (by kernel_rfl) (hc.waits (n := 6) (i := 5) (by kernel_rfl) (hc.waits (n := 5) (i := 4) (by kernel_rfl) h)))) (by kernel_rfl) (fun _ _ _ h => h) hA6 (.inl ⟨rfl, fun w5 q1 => ?_⟩) ?_
          · go_simp
          simp only [Act.put, List.setIfInBounds_toArray, List.set]
          refine wpG_takeT (i := 5) (v := .bool true) rfl (fun L hc h => (hc.waits (n := 13) (i := 6) (by kernel_rfl) (hc.waits (n := 6) (i := 5) (by kernel_rfl) h))) (by kernel_rfl) (fun _ _ _ h => h) hA6 (.inl ⟨rfl, fun w5 q1 => ?_⟩) ?_
          · go_simp
          simp only [Act.put, List.setIfInBounds_toArray, List.set]
          refine wpG_takeT (i := 6) (v := .bool true) rfl (fun L hc h => (hc.waits (n := 13) (i := 6) (by kernel_rfl) h)) (by kernel_rfl) (fun _ _ _ h => h) hA6 (.inl ⟨rfl, fun w5 q1 => ?_⟩) ?_
          · go_simp
          simp only [Act.put, List.setIfInBounds_toArray, List.set]
          refine wpG_takeT (i := 7) (v := .slice (some ⟨b, f, none⟩) l.length c) rfl (fun L hc h => (hc.waits (n := 13) (i := 11) (by kernel_rfl) (hc.waits (n := 11) (i := 10) (by kernel_rfl) (hc.waits (n := 10) (i := 7) (by kernel_rfl) h)))) (by kernel_rfl) (fun _ _ _ h => h) hA6 (.inl ⟨rfl, fun w5 q1 => ?_⟩) ?_
          · go_simp
          simp only [Act.put, List.setIfInBounds_toArray, List.set]
          refine wpG_takeT (i := 8) (v := .int .i64 ((j : Int) + 1)) rfl (fun L hc h => (hc.waits (n := 13) (i := 11) (by kernel_rfl) (hc.waits (n := 11) (i := 10) (by kernel_rfl) (hc.waits (n := 10) (i := 9) (by kernel_rfl) (hc.waits (n := 9) (i := 8) (by kernel_rfl) h))))) (by kernel_rfl) (fun _ _ _ h => h) hA6 (.inl ⟨rfl, fun w5 q1 => ?_⟩) ?_
          · go_simp
          simp only [Act.put, List.setIfInBounds_toArray, List.set]
          refine wpG_takeT (i := 9) (v := .int .i64 j) rfl (fun L hc h => (hc.waits (n := 13) (i := 11) (by kernel_rfl) (hc.waits (n := 11) (i := 10) (by kernel_rfl) (hc.waits (n := 10) (i := 9) (by kernel_rfl) h)))) (by kernel_rfl) (fun _ _ _ h => h) hA6 (.inl ⟨rfl, fun w5 q1 => ?_⟩) ?_
          · have hw : IntKind.i64.wrap (j : Int) = j := by rw [IntKind.wrap_i64]; omega
            go_simp
          simp only [Act.put, List.setIfInBounds_toArray, List.set]
          refine wpG_takeT (i := 10) (v := .pointer (some ⟨b, f + j * 3, none⟩)) rfl (fun L hc h => (hc.waits (n := 13) (i := 11) (by kernel_rfl) (hc.waits (n := 11) (i := 10) (by kernel_rfl) h))) (by kernel_rfl) (fun _ _ _ h => h) hA6 (.inl ⟨rfl, fun w5 q1 => ?_⟩) ?_
          · go_simp
          simp only [Act.put, List.setIfInBounds_toArray, List.set]
          refine wpG_takeT (i := 11) (v := .agg #[.int .i64 y.sink, .int .i64 y.att, .int .i64 y.ser]) rfl (fun L hc h => (hc.waits (n := 13) (i := 11) (by kernel_rfl) h)) (by kernel_rfl) (fun _ _ _ h => h) hA6 (.inl ⟨rfl, fun w5 q1 => ?_⟩) ?_
          · obtain ⟨y0, y1, y2⟩ := HY.out w5 q1
            go_simp
          simp only [Act.put, List.setIfInBounds_toArray, List.set]
          refine wpG_takeT (i := 12) (v := .agg #[.int .i64 x.sink, .int .i64 x.att, .int .i64 x.ser]) rfl (fun L hc h => (hc.waits (n := 13) (i := 12) (by kernel_rfl) h)) (by kernel_rfl) (fun _ _ _ h => h) hA6 (.inl ⟨rfl, fun w5 q1 => ?_⟩) ?_
          · obtain ⟨c0, c1, c2⟩ := cells3_of ((q1.block _ (lt_of_heap HX4.out) (fun e => e)).trans HX4.out)
            go_simp
          simp only [Act.put, List.setIfInBounds_toArray, List.set]
          refine wpG_tail_lit (k := 13) rfl rfl (by kernel_rfl) ?_
          simp only [List.drop]
          have HCM := Lib.hid (fun W => cmpname_any y x W)
          have HBA := Lib.hid (show badNm (prevNm l (j + 1)) x = decide (0 ≤ cmpNm y x) by rw [HPV.out]; simp [badNm, hz])
          obtain ⟨cm, hcm⟩ : ∃ cm, cm = cmpNm y x := ⟨_, rfl⟩
          rw [← hcm] at HCM HBA
          clear hy hz hcm
          go_wp2_with (go_at_call 236; fail)
          (with_reducible refine (HCM.out _).mono ?_)
          rintro _ w23 ⟨rfl, hu6⟩
          have HA9 := Lib.hid (hA6.trans hu6)
          clear hu6 hA6 hA
          simp only []
          by_cases hcm : 0 ≤ cm
          · rw [decide_eq_true hcm] at HBA
            go_wp2
            go_ret
            exact ⟨ret_bool (by rw [namedB, ← HT2.out, nms_no HBA.out]; rfl), HU4.out.trans HA9.out⟩
          · rw [decide_eq_false hcm] at HBA
            have hcm' : cm < 0 := by omega
            go_wp2
            go_roundw
            case rel => exact ⟨j + 1 + 1, by omega, by go_num, Lib.hid (by rw [← HT2.out, nms_yes HBA.out, prevNm_succ HL.out]), Lib.hid (HU4.out.trans HA9.out)⟩
            case measure => simp [intOf]; omega
      · have HBAD := Lib.hid (show badNm (prevNm l k) x = true by simp [badNm, hz])
        have hz' : (chkNm x != 0) = true := by simpa using hz
        refine wp_region_G 16 (fun W => Upd0 w4 W) [false, false, false, false, false, false, false, false, false, false, false, false, false, false, false, false, false] rfl (by kernel_rfl) ?_
        refine wpG_takeT (i := 0) (v := .agg #[.int .i64 x.sink, .int .i64 x.att, .int .i64 x.ser]) rfl (fun L hc h => (hc.waits (n := 16) (i := 3) (by kernel_rfl) (hc.waits (n := 3) (i := 1) (by kernel_rfl) (hc.waits (n := 1) (i := 0) (by kernel_rfl) h)))) (by kernel_rfl) (fun _ _ _ h => h) hA (.inl ⟨rfl, fun w5 q1 => ?_⟩) ?_
        · obtain ⟨c0, c1, c2⟩ := cells3_of ((q1.block _ (lt_of_heap HX4.out) (fun e => e)).trans HX4.out)
          go_simp
        simp only [Act.put, List.setIfInBounds_toArray, List.set]
        refine wpG_doIf (i := 1) rfl (by kernel_rfl) rfl (fun K hK => ?_)
        have HKK := Lib.hid hK
        clear hK
        go_step
        refine (checkname_any x _).mono ?_
        rintro _ w8 ⟨rfl, hu6⟩
        have hA6 := hA.trans hu6
        clear hu6
        simp only []
        refine HKK.out _ _ hA6 ?_
        clear HKK
        simp only [Act.put, List.setIfInBounds_toArray, List.set]
        refine wpG_takeT (i := 2) (v := .bool true) rfl (fun L hc h => (hc.waits (n := 16) (i := 3) (by kernel_rfl) (hc.waits (n := 3) (i := 2) (by kernel_rfl) h))) (by kernel_rfl) (fun _ _ _ h => h) hA6 (.inl ⟨rfl, fun w5 q1 => ?_⟩) ?_
        · go_simp
        simp only [Act.put, List.setIfInBounds_toArray, List.set]
        refine wpG_takeT (i := 3) (v := .bool true) rfl (fun L hc h => (hc.waits (n := 16) (i := 3) (by kernel_rfl) h)) (by kernel_rfl) (fun _ _ _ h => h) hA6 (.inl ⟨rfl, fun w5 q1 => ?_⟩) ?_
        · go_simp
        simp only [Act.put, List.setIfInBounds_toArray, List.set]
        refine wpG_takeT (i := 4) (v := undef) rfl (fun L hc h => (hc.waits (n := 16) (i := 15) (by kernel_rfl) (hc.waits (n := 15) (i := 6) (by kernel_rfl) (hc.waits (n := 6) (i := 5) (by kernel_rfl) (hc.waits (n := 5) (i := 4) (by kernel_rfl) h))))) (by kernel_rfl) (fun _ _ _ h => h) hA6 (.inr ⟨rfl, rfl⟩) ?_
        simp only [Act.put, List.setIfInBounds_toArray, List.set]
        refine wpG_takeT (i := 5) (v := undef) rfl (fun L hc h => (hc.waits (n := 16) (i := 15) (by kernel_rfl) (hc.waits (n := 15) (i := 6) (by kernel_rfl) (hc.waits (n := 6) (i := 5) (by kernel_rfl) h)))) (by kernel_rfl) (fun _ _ _ h => h) hA6 (.inr ⟨rfl, rfl⟩) ?_
        simp only [Act.put, List.setIfInBounds_toArray, List.set]
        refine wpG_takeT (i := 6) (v := undef) rfl (fun L hc h => (hc.waits (n := 16) (i := 15) (by kernel_rfl) (hc.waits (n := 15) (i := 6) (by kernel_rfl) h))) (by kernel_rfl) (fun _ _ _ h => h) hA6 (.inr ⟨rfl, rfl⟩) ?_
        simp only [Act.put, List.setIfInBounds_toArray, List.set]
        refine wpG_takeT (i := 7) (v := undef) rfl (fun L hc h => (hc.waits (n := 16) (i := 15) (by kernel_rfl) (hc.waits (n := 15) (i := 14) (by kernel_rfl) (hc.waits (n := 14) (i := 13) (by kernel_rfl) (hc.waits (n := 13) (i := 11) (by kernel_rfl) (hc.waits (n := 11) (i := 10) (by kernel_rfl) (hc.waits (n := 10) (i := 7) (by kernel_rfl) h))))))) (by kernel_rfl) (fun _ _ _ h => h) hA6 (.inr ⟨rfl, rfl⟩) ?_
        simp only [Act.put, List.setIfInBounds_toArray, List.set]
        refine wpG_takeT (i := 8) (v := undef) rfl (fun L hc h => (hc.waits (n := 16) (i := 15) (by kernel_rfl) (hc.waits (n := 15) (i := 14) (by kernel_rfl) (hc.waits (n := 14) (i := 13) (by kernel_rfl) (hc.waits (n := 13) (i := 11) (by kernel_rfl) (hc.waits (n := 11) (i := 10) (by kernel_rfl) (hc.waits (n := 10) (i := 9) (by kernel_rfl) (hc.waits (n := 9) (i := 8) (by kernel_rfl) h)))))))) (by kernel_rfl) (fun _ _ _ h => h) hA6 (.inr ⟨rfl, rfl⟩) ?_
        simp only [Act.put, List.setIfInBounds_toArray, List.set]
        refine wpG_takeT (i := 9) (v := undef) rfl (fun L hc h => (hc.waits (n := 16) (i := 15) (by kernel_rfl) (hc.waits (n := 15) (i := 14) (by kernel_rfl) (hc.waits (n := 14) (i := 13) (by kernel_rfl) (hc.waits (n := 13) (i := 11) (by kernel_rfl) (hc.waits (n := 11) (i := 10) (by kernel_rfl) (hc.waits (n := 10) (i := 9) (by kernel_rfl) h))))))) (by kernel_rfl) (fun _ _ _ h => h) hA6 (.inr ⟨rfl, rfl⟩) ?_
        simp only [Act.put, List.setIfInBounds_toArray, List.set]
        refine wpG_takeT (i := 10) (v := undef) rfl (fun L hc h => (hc.waits (n := 16) (i := 15) (by kernel_rfl) (hc.waits (n := 15) (i := 14) (by kernel_rfl) (hc.waits (n := 14) (i := 13) (by kernel_rfl) (hc.waits (n := 13) (i := 11) (by kernel_rfl) (hc.waits (n := 11) (i := 10) (by kernel_rfl) h)))))) (by kernel_rfl) (fun _ _ _ h => h) hA6 (.inr ⟨rfl, rfl⟩) ?_
        simp only [Act.put, List.setIfInBounds_toArray, List.set]
        refine wpG_takeT (i := 11) (v := undef) rfl (fun L hc h => (hc.waits (n := 16) (i := 15) (by kernel_rfl) (hc.waits (n := 15) (i := 14) (by kernel_rfl) (hc.waits (n := 14) (i := 13) (by kernel_rfl) (hc.waits (n := 13) (i := 11) (by kernel_rfl) h))))) (by kernel_rfl) (fun _ _ _ h => h) hA6 (.inr ⟨rfl, rfl⟩) ?_
        simp only [Act.put, List.setIfInBounds_toArray, List.set]
        refine wpG_takeT (i := 12) (v := undef) rfl (fun L hc h => (hc.waits (n := 16) (i := 15) (by kernel_rfl) (hc.waits (n := 15) (i := 14) (by kernel_rfl) (hc.waits (n := 14) (i := 13) (by kernel_rfl) (hc.waits (n := 13) (i := 12) (by kernel_rfl) h))))) (by kernel_rfl) (fun _ _ _ h => h) hA6 (.inr ⟨rfl, rfl⟩) ?_
        simp only [Act.put, List.setIfInBounds_toArray, List.set]
        refine wpG_takeT (i := 13) (v := undef) rfl (fun L hc h => (hc.waits (n := 16) (i := 15) (by kernel_rfl) (hc.waits (n := 15) (i := 14) (by kernel_rfl) (hc.waits (n := 14) (i := 13) (by kernel_rfl) h)))) (by kernel_rfl) (fun _ _ _ h => h) hA6 (.inr ⟨rfl, rfl⟩) ?_
        simp only [Act.put, List.setIfInBounds_toArray, List.set]
        refine wpG_takeT (i := 14) (v := undef) rfl (fun L hc h => (hc.waits (n := 16) (i := 15) (by kernel_rfl) (hc.waits (n := 15) (i := 14) (by kernel_rfl) h))) (by kernel_rfl) (fun _ _ _ h => h) hA6 (.inr ⟨rfl, rfl⟩) ?_
        simp only [Act.put, List.setIfInBounds_toArray, List.set]
        refine wpG_takeT (i := 15) (v := undef) rfl (fun L hc h => (hc.waits (n := 16) (i := 15) (by kernel_rfl) h)) (by kernel_rfl) (fun _ _ _ h => h) hA6 (.inr ⟨rfl, rfl⟩) ?_
        simp only [Act.put, List.setIfInBounds_toArray, List.set]
        refine wpG_tail_lit (k := 16) rfl rfl (by kernel_rfl) ?_
        simp only [List.drop]
        clear hz hz'
        go_wp2
        go_ret
        exact ⟨ret_bool (by rw [namedB, ← HT2.out, nms_no HBAD.out]; rfl), HU4.out.trans hA6⟩
    · obtain rfl : k = l.length := by omega
      have h1 := HT.out
      rw [List.drop_of_length_le (Nat.le_refl _)] at h1
      have HE := Lib.hid (show namedB l = decide (l.length ≤ 24) by rw [namedB, ← h1]; rfl)
      clear h1
      by_cases h24 : l.length ≤ 24
      · have h24' : (l.length : Int) ≤ 24 := by omega
        go_wp2
        go_ret
        exact ⟨ret_bool (by rw [HE.out]; simp [h24]), HR.out⟩
      · have h24' : ¬ (l.length : Int) ≤ 24 := by omega
        go_wp2
        go_ret
        exact ⟨ret_bool (by rw [HE.out]; simp [h24]), HR.out⟩
end Go.Proofs.YtbonfdkgkcbkmaaGreat
end

section
namespace Go.Proofs.YtbonfdkgkcbkmaaGreat
set_option maxRecDepth 100000
open Go.RowKit Go.Shelf

attribute [local go_sem] Oper.semAt_some
/-- A snapshot. -/
structure SnV where
  op : Int
  idx : Int
  wd : Int
  fin : Bool
  ta : Option Addr
  tc : Nat
  rows : List KcV
  offs : List Int
  na : Option Addr
  nc : Nat
  names : List NmV
def SnV.cells (s : SnV) : List Value := [.int .i64 s.op, .int .i64 s.idx, .int .i64 s.wd, .bool s.fin, .slice s.ta s.rows.length s.tc] ++ s.offs.map I ++ [.slice s.na s.names.length s.nc]
structure SnIn (w : World) (s : SnV) : Prop where
  rows : KcsIn w s.ta s.rows
  rl : s.rows.length ≤ 140737488351232
  names : NmsIn w s.na s.names
  nl : s.names.length ≤ 140737488351232
  o8 : s.offs.length = 8
theorem SnIn.kept {w w' : World} {s : SnV} (h : SnIn w s) (hu : Upd0 w w') : SnIn w' s := ⟨h.rows.kept hu, h.rl, h.names.kept hu, h.nl, h.o8⟩
theorem SnV.lit {s : SnV} {o0 o1 o2 o3 o4 o5 o6 o7 : Int} (h : (s.offs.map I).toArray = #[.int .i64 o0, .int .i64 o1, .int .i64 o2, .int .i64 o3, .int .i64 o4, .int .i64 o5, .int .i64 o6, .int .i64 o7]) :
    s.cells.toArray = #[.int .i64 s.op, .int .i64 s.idx, .int .i64 s.wd, .bool s.fin, .slice s.ta s.rows.length s.tc, .int .i64 o0, .int .i64 o1, .int .i64 o2, .int .i64 o3, .int .i64 o4, .int .i64 o5, .int .i64 o6, .int .i64 o7, .slice s.na s.names.length s.nc] := by
  have h2 : s.offs.map I = [.int .i64 o0, .int .i64 o1, .int .i64 o2, .int .i64 o3, .int .i64 o4, .int .i64 o5, .int .i64 o6, .int .i64 o7] := by
    have := congrArg Array.toList h
    simpa using this
  simp [SnV.cells, h2]
/-- What is left of offsets without some groups; nothing, if one of these is out of bounds. -/
def restR : List Int → List Int → Option (List Int)
  | o, [] => some o
  | o, g :: l => if o.getD g.toNat 0 < 0 ∨ 40 < o.getD g.toNat 0 then none else restR (o.set g.toNat 0) l
theorem restR_app : ∀ (l m o : List Int), restR o (l ++ m) = (restR o l).bind fun o' => restR o' m
  | [], m, o => rfl
  | g :: l, m, o => by
    rw [List.cons_append, restR, restR]
    split
    · rfl
    · exact restR_app l m _
def alienB (idx wd : Int) (x : KcV) : Bool := !mineB x.rec' idx wd
/-- May a snapshot be? -/
def chkSn (s : SnV) : Int := if shareB s.idx s.wd = false ∨ s.op < 0 ∨ 8 ≤ s.op ∨ chkT s.rows ≠ 0 ∨ namedB s.names = false then 280 else match restR s.offs (ownL s.idx s.wd) with
  | none => 280
  | some o => if o ≠ zer8 ∨ s.rows.any (alienB s.idx s.wd) = true then 280 else 0
set_option maxHeartbeats 1000000 in
theorem alien_any {sb : Nat} {cs : Array Value} {idx wd : Int} (x : KcV) (w : World) (h : w.heap[sb]? = some (.cells cs 80 (0, 0))) (h1 : cs[1]? = some (.int .i64 idx)) (h2 : cs[2]? = some (.int .i64 wd)) :
    Calls Tryz.prog 233 #[.agg #[.int .i64 x.src, .int .i64 x.key, .int .i64 x.count, .int .i64 x.sum], .pointer (some ⟨sb, 0, none⟩)] w fun e w' => e = .returned (.bool (alienB idx wd x)) ∧ Upd0 w w' := by
  obtain ⟨b, hb⟩ : ∃ b, b = w.heap.size := ⟨_, rfl⟩
  obtain ⟨w1, hw1⟩ : ∃ w1, w1 = w.alloc (.cells #[.int .i64 x.src, .int .i64 x.key, .int .i64 x.count, .int .i64 x.sum] 63) := ⟨_, rfl⟩
  have hu1 : Upd0 w w1 := by rw [hw1]; exact (Upd.refl _ w).alloc _
  have hx : w1.heap[b]? = some (.cells #[.int .i64 x.src, .int .i64 x.key, .int .i64 x.count, .int .i64 x.sum] 63 (0, 0)) := by rw [hw1]; exact alloc_at hb
  obtain ⟨x0, x1, _, _⟩ := cells4_at hx
  have hs := (hu1.block _ (lt_of_heap h) (fun e => e)).trans h
  have s1 : w1.cell? ⟨sb, 1, none⟩ = some (.int .i64 idx) := by rw [cell_of_heap hs]; exact h1
  have s2 : w1.cell? ⟨sb, 2, none⟩ = some (.int .i64 wd) := by rw [cell_of_heap hs]; exact h2
  have HM := Lib.hid (show Calls Tryz.prog 129 #[.agg #[.int .i64 x.src, .int .i64 x.key, .int .i64 0], .int .i64 idx, .int .i64 wd] w1 fun e w' => e = .returned (.bool (mineB x.rec' idx wd)) ∧ Upd0 w1 w' from mine_any x.rec' idx wd w1)
  have HA := Lib.hid (show alienB idx wd x = !mineB x.rec' idx wd from rfl)
  have HU := Lib.hid hu1
  obtain ⟨mb, hmb⟩ : ∃ mb, mb = mineB x.rec' idx wd := ⟨_, rfl⟩
  rw [← hmb] at HM HA
  clear h h1 h2 hu1 hx hs hmb
  go_enter Tryz.func233, Tryz.ntmps233
  go_upto_region 1 with fail
  rw [← hw1, ← hb]
  clear hw1 hb
  go_wp2_with (go_at_call 129; fail)
  (with_reducible refine HM.out.mono ?_)
  rintro _ w2 ⟨rfl, hu2⟩
  have HU2 := Lib.hid (HU.out.trans hu2)
  clear hu2 HM
  simp only []
  go_wp2
  go_ret
  exact ⟨ret_bool HA.out.symm, HU2.out⟩
theorem loadErr {W : World} {t : Nat} {x : Int} (h : W.heap[t]? = some (.cells #[.int .i64 x] 33 (0, 0))) : (loadVar 33 ⟨t, 0, none⟩).run Tryz.prog W = .ok (.int .i64 x) W := by
  have c := cells1_of h
  simp [loadVar, go_sem, c, Tryz.isAgg33]
theorem callAlien : ∀ args w, (callFunc 233 args).run Tryz.prog w = .ok (.enter 233 args) w := enters_of Tryz.func233 (by kernel_rfl) rfl
theorem callValues1 : ∀ args w, (callFunc 348 args).run Tryz.prog w = .ok (.enter 348 args) w := enters_of Tryz.func348 (by kernel_rfl) rfl
theorem items_off (w : World) (d : Nat) (xs ys : List Int) : ∀ (is : List Nat), (∀ i ∈ is, i < xs.length ∧ i < ys.length) →
    (Op.eqItems (d + 1) 3 1 (xs.map I).toArray (ys.map I).toArray is).run Tryz.prog w = .ok (is.all fun i => xs.getD i 0 == ys.getD i 0) w
  | [], _ => by simp [Op.eqItems]
  | i :: is, hi => by
    obtain ⟨h1, h2⟩ := hi i List.mem_cons_self
    have ih := items_off w d xs ys is (fun j hj => hi j (List.mem_cons_of_mem _ hj))
    have p1 : (part 3 (xs.map I).toArray (i * 1)).run Tryz.prog w = .ok (.int .i64 (xs.getD i 0)) w := run_part_plain w (by kernel_rfl) (by simp [h1, List.getD_eq_getElem?_getD])
    have p2 : (part 3 (ys.map I).toArray (i * 1)).run Tryz.prog w = .ok (.int .i64 (ys.getD i 0)) w := run_part_plain w (by kernel_rfl) (by simp [h2, List.getD_eq_getElem?_getD])
    have p3 := run_equalIn_int (P := Tryz.prog) w d 3 .i64 .i64 (xs.getD i 0) (ys.getD i 0) Tryz.underlying3
    simp only [Op.eqItems, Sem.run_bind, p1, p2, p3, Result.andThen_ok, List.all_cons]
    cases hb : (xs.getD i 0 == ys.getD i 0)
    · simp
    · simpa using ih
theorem all_eq8 {xs ys : List Int} {n : Nat} (hx : xs.length = n) (hy : ys.length = n) : ((List.range n).all fun i => xs.getD i 0 == ys.getD i 0) = (xs == ys) := by
  rw [Bool.eq_iff_iff]
  simp only [List.all_eq_true, List.mem_range, beq_iff_eq]
  constructor
  · intro h
    apply List.ext_getElem (by rw [hx, hy])
    intro i h1 h2
    have := h i (by omega)
    simpa [List.getD_eq_getElem?_getD, h1, h2] using this
  · rintro rfl i _; rfl
theorem eq_off (w : World) {xs ys : List Int} (hx : xs.length = 8) (hy : ys.length = 8) : (Op.equalIn 10000 43 (.agg (xs.map I).toArray) (.agg (ys.map I).toArray)).run Tryz.prog w = .ok (xs == ys) w := by
  obtain ⟨i, hi⟩ : ∃ i, Tryz.prog.info? 3 = some i := Option.isSome_iff_exists.1 (by kernel_rfl)
  rw [run_equalIn_array (P := Tryz.prog) w 9999 (n := 8) (e := 3) _ _ Tryz.underlying43 hi, show Tryz.prog.cellsOf 3 = 1 by kernel_rfl, items_off w 9998 xs ys _ (fun j hj => by have := List.mem_range.1 hj; omega), all_eq8 hx hy]
/-- Between the rounds of Check. -/
structure ScAt (w : World) (b : Nat) (cs : Array Value) (offs : List Int) (rb : Nat) (pre : List Int) (W : World) : Prop where
  rest : ∃ o, restR offs pre = some o ∧ o.length = 8 ∧ W.heap[rb]? = some (.cells (o.map I).toArray 43 (0, 0))
  box : W.heap[b]? = some (.cells cs 80 (0, 0))
  err : W.heap[b + 1]? = some (.cells #[.int .i64 0] 33 (0, 0))
  upd : Upd0 w W
def scB (b rb : Nat) : Nat → TypeId → Prop := fun k t => (k = rb ∧ t = 43) ∨ (k = b + 1 ∧ t = 33)
structure ScEnd (w : World) (b : Nat) (W : World) : Prop where
  err : W.heap[b + 1]? = some (.cells #[.int .i64 280] 33 (0, 0))
  upd : Upd0 w W
theorem ScAt.T {w W W' : World} {b rb : Nat} {cs : Array Value} {offs pre : List Int} (h : ScAt w b cs offs rb pre W) (hu : Upd0 W W') : ScAt w b cs offs rb pre W' := by
  have k : ∀ {j o}, W.heap[j]? = some o → W'.heap[j]? = some o := fun hj => (hu.block _ (lt_of_heap hj) (fun e => e)).trans hj
  obtain ⟨o, h1, h2, h3⟩ := h.rest
  exact ⟨⟨o, h1, h2, k h3⟩, k h.box, k h.err, h.upd.trans hu⟩
theorem ScAt.put {w W : World} {b rb : Nat} {cs : Array Value} {offs pre : List Int} (h : ScAt w b cs offs rb pre W) {l : Nat} {o : Loop} {o' : Obj} (hl : w.heap.size ≤ l) (ho : W.heap[l]? = some (.loop o)) : ScAt w b cs offs rb pre (W.putObj l o') := by
  obtain ⟨q, h1, h2, h3⟩ := h.rest
  exact ⟨⟨q, h1, h2, cells_put _ h3 rfl ho rfl⟩, cells_put _ h.box rfl ho rfl, cells_put _ h.err rfl ho rfl, h.upd.step (upd_put _) (fun k hk e => by omega)⟩
theorem ScEnd.T {w W W' : World} {b : Nat} (h : ScEnd w b W) (hu : Upd0 W W') : ScEnd w b W' := ⟨(hu.block _ (lt_of_heap h.err) (fun e => e)).trans h.err, h.upd.trans hu⟩
theorem ScEnd.put {w W : World} {b : Nat} (h : ScEnd w b W) {l : Nat} {o : Loop} {o' : Obj} (hl : w.heap.size ≤ l) (ho : W.heap[l]? = some (.loop o)) : ScEnd w b (W.putObj l o') :=
  ⟨cells_put _ h.err rfl ho rfl, h.upd.step (upd_put _) (fun k hk e => by omega)⟩
set_option maxHeartbeats 16000000 in
theorem scheck_any (s : SnV) (w : World) (h : SnIn w s) : Calls Tryz.prog 156 #[.agg s.cells.toArray] w fun e w' => e = .returned (.int .i64 (chkSn s)) ∧ Upd0 w w' := by
  obtain ⟨o0, o1, o2, o3, o4, o5, o6, o7, hmap⟩ := eight h.o8
  have hlit := SnV.lit hmap
  rw [hlit]
  obtain ⟨b, hb⟩ : ∃ b, b = w.heap.size := ⟨_, rfl⟩
  obtain ⟨cs, hcs⟩ : ∃ cs : Array Value, cs = #[.int .i64 s.op, .int .i64 s.idx, .int .i64 s.wd, .bool s.fin, .slice s.ta s.rows.length s.tc, .int .i64 o0, .int .i64 o1, .int .i64 o2, .int .i64 o3, .int .i64 o4, .int .i64 o5, .int .i64 o6, .int .i64 o7, .slice s.na s.names.length s.nc] := ⟨_, rfl⟩
  obtain ⟨w1, hw1⟩ : ∃ w1, w1 = (w.alloc (.cells #[.int .i64 s.op, .int .i64 s.idx, .int .i64 s.wd, .bool s.fin, .slice s.ta s.rows.length s.tc, .int .i64 o0, .int .i64 o1, .int .i64 o2, .int .i64 o3, .int .i64 o4, .int .i64 o5, .int .i64 o6, .int .i64 o7, .slice s.na s.names.length s.nc] 80)).alloc (.cells #[.int .i64 0] 33) := ⟨_, rfl⟩
  have hu1 : Upd0 w w1 := by rw [hw1]; exact ((Upd.refl _ w).alloc _).alloc _
  have HX := Lib.hid (show w1.heap[b]? = some (.cells cs 80 (0, 0)) by rw [hw1, hb, hcs]; exact (alloc_lt (by simp)).trans (alloc_at rfl))
  have HE := Lib.hid (show w1.heap[b + 1]? = some (.cells #[.int .i64 0] 33 (0, 0)) by rw [hw1, hb]; exact alloc_at (by simp))
  have HS := Lib.hid (h.kept hu1); have HU := Lib.hid hu1; have HB := Lib.hid hb; have HCS := Lib.hid hcs; have HMAP := Lib.hid hmap
  have HSE := Lib.hid h
  have HR := Lib.hid (chkSn.eq_1 s)
  obtain ⟨cr, hcr⟩ : ∃ cr, cr = chkSn s := ⟨_, rfl⟩
  rw [← hcr] at HR ⊢
  have HO := Lib.hid (bigowned_any s.idx s.wd w1)
  have cl : ∀ (W : World), W.heap[b]? = some (.cells cs 80 (0, 0)) → W.cell? ⟨b, 0, none⟩ = some (.int .i64 s.op) ∧ W.cell? ⟨b, 1, none⟩ = some (.int .i64 s.idx) ∧ W.cell? ⟨b, 2, none⟩ = some (.int .i64 s.wd) ∧ W.cell? ⟨b, 4, none⟩ = some (.slice s.ta s.rows.length s.tc) ∧ W.cell? ⟨b, 13, none⟩ = some (.slice s.na s.names.length s.nc) := fun W hW => by
    rw [cell_of_heap hW, cell_of_heap hW, cell_of_heap hW, cell_of_heap hW, cell_of_heap hW, hcs]
    exact ⟨rfl, rfl, rfl, rfl, rfl⟩
  have co : ∀ (W : World), W.heap[b]? = some (.cells cs 80 (0, 0)) → W.cell? ⟨b, 5, none⟩ = some (.int .i64 o0) ∧ W.cell? ⟨b, 6, none⟩ = some (.int .i64 o1) ∧ W.cell? ⟨b, 7, none⟩ = some (.int .i64 o2) ∧ W.cell? ⟨b, 8, none⟩ = some (.int .i64 o3) ∧ W.cell? ⟨b, 9, none⟩ = some (.int .i64 o4) ∧ W.cell? ⟨b, 10, none⟩ = some (.int .i64 o5) ∧ W.cell? ⟨b, 11, none⟩ = some (.int .i64 o6) ∧ W.cell? ⟨b, 12, none⟩ = some (.int .i64 o7) := fun W hW => by
    rw [cell_of_heap hW, cell_of_heap hW, cell_of_heap hW, cell_of_heap hW, cell_of_heap hW, cell_of_heap hW, cell_of_heap hW, cell_of_heap hW, hcs]
    exact ⟨rfl, rfl, rfl, rfl, rfl, rfl, rfl, rfl⟩
  have HCL := Lib.hid cl; have HCO := Lib.hid co
  obtain ⟨x0, x1, x2, x4, x13⟩ := cl _ HX.out
  clear h hmap hlit hu1 hcs hcr cl co
  refine (callsIn_wide (n := 5)).1 ?_
  refine callsIn_of_wp_marks Tryz.func156 rfl trivial ?_ rfl
  simp only [Tryz.ntmps156, List.size_toArray, List.length_cons, List.length_nil, Nat.reduceAdd, Nat.reduceSub, Array.replicate_succ, Array.replicate_zero, List.push_toArray, List.append_toArray, List.nil_append, List.cons_append]
  gi_wp2_with (gi_at_call 231; fail)
  rw [← hw1, ← hb]
  clear hw1 hb
  try simp only [Nat.add_assoc, Nat.reduceAdd]
  refine ⟨trivial, callsIn_wide.2 (HO.out.mono ?_)⟩
  rintro e w2 ⟨a2, c2, rfl, _, hu2⟩
  have HU2 := Lib.hid (HU.out.trans hu2)
  have HX2 := Lib.hid ((hu2.block _ (lt_of_heap HX.out) (fun e => e)).trans HX.out)
  have HE2 := Lib.hid ((hu2.block _ (lt_of_heap HE.out) (fun e => e)).trans HE.out)
  have HS2 := Lib.hid (HS.out.kept hu2)
  clear hu2 HO x0 x1 x2 x4 x13 HX HE
  obtain ⟨x0, x1, x2, x4, x13⟩ := HCL.out _ HX2.out
  have e0 := cells1_of HE2.out
  have ef : w2.frozen? ⟨b + 1, 0, none⟩ = false := frozen_of_heap HE2.out
  simp only []
  have HT := Lib.hid (fun (W : World) (hW : Upd0 w2 W) => tcheck_any (c := s.tc) W ((HS2.out.kept hW).rows) HS2.out.rl)
  have HN := Lib.hid (fun (W : World) (hW : Upd0 w2 W) => named_any (c := s.nc) W ((HS2.out.kept hW).names) HS2.out.nl)
  by_cases hsh : shareB s.idx s.wd = true
  · have hown : (OwnedR s.idx s.wd).2 = 0 := by simp [OwnedR, hsh]
    rw [hown]
    by_cases hop : s.op < 0
    · have HC := Lib.hid (show cr = 280 by rw [HR.out, if_pos]; simp_all)
      gi_wp2
      refine ⟨trivial, ?_⟩
      gi_wp2
      refine ⟨trivial, ?_⟩
      gi_wp2
      refine ⟨_, results_c (fn := Tryz.f156) rfl rfl (loadErr (x := 280) (by have := blk_set (i := 0) (v := .int .i64 280) HE2.out; simpa using this)), by rw [HC.out], HU2.out.cut (upd_own _ _ _ _) (fun q hq => by have := HB.out; omega)⟩
    · by_cases hop8 : 8 ≤ s.op
      · have HC := Lib.hid (show cr = 280 by rw [HR.out, if_pos]; simp_all)
        gi_wp2
        refine ⟨trivial, ?_⟩
        gi_wp2
        refine ⟨trivial, ?_⟩
        gi_wp2
        refine ⟨_, results_c (fn := Tryz.f156) rfl rfl (loadErr (x := 280) (by have := blk_set (i := 0) (v := .int .i64 280) HE2.out; simpa using this)), by rw [HC.out], HU2.out.cut (upd_own _ _ _ _) (fun q hq => by have := HB.out; omega)⟩
      · gi_wp2_with (gi_at_call 217; fail)
        refine ⟨trivial, callsIn_wide.2 ((HT.out _ (Upd.refl _ _)).mono ?_)⟩
        rintro e w3 ⟨rfl, hu3⟩
        have HU3 := Lib.hid (HU2.out.trans hu3)
        have HX3 := Lib.hid ((hu3.block _ (lt_of_heap HX2.out) (fun e => e)).trans HX2.out)
        have HE3 := Lib.hid ((hu3.block _ (lt_of_heap HE2.out) (fun e => e)).trans HE2.out)
        have HS3 := Lib.hid (HS2.out.kept hu3)
        have HN3 := Lib.hid (HN.out _ hu3)
        clear hu3 HT HN x0 x1 x2 x4 x13 e0 ef HX2 HE2
        obtain ⟨x0, x1, x2, x4, x13⟩ := HCL.out _ HX3.out
        have e0 := cells1_of HE3.out
        have ef : w3.frozen? ⟨b + 1, 0, none⟩ = false := frozen_of_heap HE3.out
        simp only []
        by_cases ht : chkT s.rows = 0
        · rw [ht]
          gi_wp2_with (gi_at_call 232; fail)
          refine ⟨trivial, callsIn_wide.2 (HN3.out.mono ?_)⟩
          rintro e w4 ⟨rfl, hu4⟩
          have HU4 := Lib.hid (HU3.out.trans hu4)
          have HX4 := Lib.hid ((hu4.block _ (lt_of_heap HX3.out) (fun e => e)).trans HX3.out)
          have HE4 := Lib.hid ((hu4.block _ (lt_of_heap HE3.out) (fun e => e)).trans HE3.out)
          have HS4 := Lib.hid (HS3.out.kept hu4)
          clear hu4 HN3 x0 x1 x2 x4 x13 e0 ef HX3 HE3
          have e0 := cells1_of HE4.out
          have ef : w4.frozen? ⟨b + 1, 0, none⟩ = false := frozen_of_heap HE4.out
          simp only []
          by_cases hnm : namedB s.names = true
          · have HR2 := Lib.hid (show cr = match restR s.offs (ownL s.idx s.wd) with | none => 280 | some o => if o ≠ zer8 ∨ s.rows.any (alienB s.idx s.wd) = true then 280 else 0 by rw [HR.out, if_neg]; simp_all)
            rw [hnm]
            obtain ⟨x5, x6, x7, x8, x9, x10, x11, x12⟩ := HCO.out _ HX4.out
            obtain ⟨w5, hw5⟩ : ∃ w5, w5 = w4.alloc (.cells #[.int .i64 o0, .int .i64 o1, .int .i64 o2, .int .i64 o3, .int .i64 o4, .int .i64 o5, .int .i64 o6, .int .i64 o7] 43) := ⟨_, rfl⟩
            obtain ⟨rb, hrb⟩ : ∃ rb, rb = w4.heap.size := ⟨_, rfl⟩
            have hu5 : Upd0 w4 w5 := by rw [hw5]; exact (Upd.refl _ w4).alloc _
            have HRB := Lib.hid (show w5.heap[rb]? = some (.cells (s.offs.map I).toArray 43 (0, 0)) by rw [hw5, HMAP.out]; exact alloc_at hrb)
            have HX5 := Lib.hid ((hu5.block _ (lt_of_heap HX4.out) (fun e => e)).trans HX4.out)
            have HE5 := Lib.hid ((hu5.block _ (lt_of_heap HE4.out) (fun e => e)).trans HE4.out)
            have HS5 := Lib.hid (HS4.out.kept hu5)
            have HU5 := Lib.hid (HU4.out.trans hu5)
            have HRL := Lib.hid (show b + 1 < rb by have := lt_of_heap HE4.out; omega)
            have HG := Lib.hid (sgroups_any s.idx s.wd w5)
            have hww := shareB_wide hsh
            rw [show (OwnedR s.idx s.wd).1 = ownL s.idx s.wd by simp [OwnedR, hsh]] at HG
            clear hu5 HX4 HE4 HS4 HU4 hop hop8 ht hnm hsh hown HR HS3 HS2 HS HU HU2 HU3 e0 ef
            gi_upto_region 6 with fail
            rw [← hw5, ← hrb]
            clear hw5 hrb x5 x6 x7 x8 x9 x10 x11 x12
            obtain ⟨x0, x1, x2, x4, x13⟩ := HCL.out _ HX5.out
            gi_wp2_with (gi_at_call 234; fail)
            refine ⟨trivial, callsIn_wide.2 (HG.out.mono ?_)⟩
            rintro e w6 ⟨vb, a6, c6, rfl, hv6, ho6, hlv, hu6⟩
            have HV6 := Lib.hid hv6
            have HO6 := Lib.hid ho6
            have HX6 := Lib.hid ((hu6.block _ (lt_of_heap HX5.out) (fun e => e)).trans HX5.out)
            have HE6 := Lib.hid ((hu6.block _ (lt_of_heap HE5.out) (fun e => e)).trans HE5.out)
            have HRB6 := Lib.hid ((hu6.block _ (lt_of_heap HRB.out) (fun e => e)).trans HRB.out)
            have HS6 := Lib.hid (HS5.out.kept hu6)
            have HU6 := Lib.hid (HU5.out.trans hu6)
            have HL6 := Lib.hid (show rb < w5.heap.size ∧ w5.heap.size ≤ vb ∧ vb < w6.heap.size from ⟨lt_of_heap HRB.out, hlv, lt_of_heap hv6⟩)
            clear hv6 ho6 hlv hu6 HX5 HE5 HRB HS5 HU5 HG x0 x1 x2 x4 x13
            simp only []
            have HAT := Lib.hid (show ScAt w b cs s.offs rb [] w6 from ⟨⟨s.offs, rfl, HS6.out.o8, HRB6.out⟩, HX6.out, HE6.out, HU6.out⟩)
            have HLB := Lib.hid (show w.heap.size ≤ w6.heap.size by have := HB.out; have := HL6.out; have := HRL.out; omega)
            have HWW := Lib.hid hww
            clear HX6 HE6 HRB6 hww
            gi_wp2
            refine wpIn_rangeFunc_T (α := Int) (encs := fun z => #[.int .i64 z]) rfl (by omega) (gf := 348) (lb := #[.pointer (some ⟨vb, 0, none⟩)]) rfl trivial callValues1 (fun _ => rfl) (fun _ _ => False) (scB b rb) (fun pre x' => ∃ rest, ownL s.idx s.wd = (pre ++ [x']) ++ rest) (fun xs _ => xs = ownL s.idx s.wd) (fun pre W => ScAt w b cs s.offs rb pre W) (fun c W => c = .ret ∧ restR s.offs (ownL s.idx s.wd) = none ∧ ScEnd w b W)
              ?hIU ?hIP ?hXU ?hXP HAT.out (fun _ _ _ _ _ e _ _ => e) ?hseq (fun z a' _ => a' = { tmps := #[.agg #[.int .i64 s.op, .int .i64 s.idx, .int .i64 s.wd, .bool s.fin, .slice s.ta s.rows.length s.tc, .int .i64 o0, .int .i64 o1, .int .i64 o2, .int .i64 o3, .int .i64 o4, .int .i64 o5, .int .i64 o6, .int .i64 o7, .slice s.na s.names.length s.nc], .pointer (some ⟨b, 0, none⟩), .pointer (some ⟨b + 1, 0, none⟩), .slice a2 (OwnedR s.idx s.wd).fst.length c2, .int .i64 0, .func (.func 233) #[] #[.pointer (some ⟨b, 0, none⟩)], .pointer (some ⟨rb, 0, none⟩), .int .i64 z, .tuple #[.slice a2 (OwnedR s.idx s.wd).fst.length c2, .int .i64 0], .pointer (some ⟨b, 1, none⟩), .int .i64 s.idx, .pointer (some ⟨b, 2, none⟩), .int .i64 s.wd, .tuple #[.slice a2 (OwnedR s.idx s.wd).fst.length c2, .int .i64 0], .slice a2 (OwnedR s.idx s.wd).fst.length c2, .int .i64 0, .int .i64 0, .bool false, .bool false, .pointer (some ⟨b, 0, none⟩), .int .i64 s.op, .bool false, .bool false, .bool false, .pointer (some ⟨b, 0, none⟩), .int .i64 s.op, .bool false, .bool false, .bool false, .pointer (some ⟨b, 4, none⟩), .agg #[.slice s.ta s.rows.length s.tc], .int .i64 0, .bool false, .bool false, .bool false, .pointer (some ⟨b, 13, none⟩), .slice s.na s.names.length s.nc, .bool true, .bool false, .bool false, .func (.func 233) #[] #[.pointer (some ⟨b, 0, none⟩)], .pointer (some ⟨b, 5, none⟩), .agg #[.int .i64 o0, .int .i64 o1, .int .i64 o2, .int .i64 o3, .int .i64 o4, .int .i64 o5, .int .i64 o6, .int .i64 o7], .pointer (some ⟨b, 1, none⟩), .int .i64 s.idx, .pointer (some ⟨b, 2, none⟩), .int .i64 s.wd, .func (.func 348) #[] #[.pointer (some ⟨vb, 0, none⟩)], .int .i64 z, undef, undef, undef, undef, undef, undef, undef, undef, undef, undef, undef, undef, undef, undef, undef, undef, undef, undef, undef, undef, undef, undef], defers := [] }) (fun _ _ _ _ _ _ e _ _ => e) ?hassign ?hbody ?hdone ?hstop
            case hIU =>
              rintro pre W W' hs h hu
              exact h.T (hu.mono (fun k hk ⟨_, _, _, _, p⟩ => p))
            case hIP =>
              rintro pre W l o o' h hl ho
              exact h.put (by have := HLB.out; omega) ho
            case hXU =>
              rintro c W W' hs ⟨h1, h2, h3⟩ hu
              exact ⟨h1, h2, h3.T (hu.mono (fun k hk ⟨_, _, _, _, p⟩ => p))⟩
            case hXP =>
              rintro c W l o o' ⟨h1, h2, h3⟩ hl ho
              exact ⟨h1, h2, h3.put (by have := HLB.out; omega) ho⟩
            case hseq =>
              intro l J Jx W h0 hu hJ hJx hY
              have hl6 := HL6.out
              refine valuesI_any (sa := a6) (xs := ownL s.idx s.wd) (sc := c6) (vb := vb) (B := w6.heap.size) (Φb := scB b rb) (by have := ownP_len s.idx s.wd 8; unfold ownL; omega) (fun W => OwnI W w5.heap.size 3 (.slice a6 (ownL s.idx s.wd).length c6) (ownL s.idx s.wd) ∧ W.heap[vb]? = some (.cells #[.slice a6 (ownL s.idx s.wd).length c6] 75 (0, 0)) ∧ w6.heap.size ≤ W.heap.size) (fun W h => ⟨OwnI.in' h.1, h.2.1, h.2.2⟩)
                (fun W W' h hu' => ⟨ownsRow_any h.1 hu' (fun _ _ e => e), (hu'.block _ (lt_of_heap h.2.1) (fun e => e)).trans h.2.1, Nat.le_trans h.2.2 hu'.size⟩)
                (fun W W' h hu' => ⟨ownsRow_T h.1 hu' (fun k hk p => by have := HRL.out; rcases p with ⟨p, _⟩ | ⟨p, _⟩ <;> omega), hu'.keep h.2.1 (fun cs t fr e p => by have := HRL.out; rcases p with ⟨p, _⟩ | ⟨p, _⟩ <;> omega), Nat.le_trans h.2.2 hu'.size⟩)
                l J Jx W ⟨ownsRow_any HO6.out hu (fun _ _ e => e), (hu.block _ (lt_of_heap HV6.out) (fun e => e)).trans HV6.out, hu.size⟩ h0 (fun pre W W' hs hj hu' => hJ pre W W' hs hj (UpdT.of0 hu'))
                (fun pre x W1 hg hj hp => hY pre x W1 hg.2.2 hj hp)
            case hassign =>
              intro l x W K _ hK
              have HK := Lib.hid (hK _ W (Upd.refl _ W) rfl)
              clear hK
              gi_wp2
              exact HK.out
            case hbody =>
              rintro l pre z a' W r hl hs hi ⟨rest, hpl⟩ rfl hlr
              obtain ⟨g, rfl, hg8, _⟩ := ownP_mem (show z ∈ ownP s.idx s.wd 8 by show z ∈ ownL s.idx s.wd; rw [hpl]; simp)
              obtain ⟨o, hro, ho8, hob⟩ := hi.rest
              obtain ⟨og, hog⟩ : ∃ og, og = o.getD g 0 := ⟨_, rfl⟩
              have HST := Lib.hid (show ∀ m, restR s.offs (pre ++ (g : Int) :: m) = if og < 0 ∨ 40 < og then none else restR (o.set g 0) m from fun m => by
                rw [restR_app, hro]
                simp only [Option.bind_some, restR, Int.toNat_natCast]
                rw [← hog])
              have cg : W.cell? ⟨rb, g, none⟩ = some (.int .i64 og) := by
                rw [cell_of_heap hob, hog]
                simp [List.getD, show g < o.length by omega]
              have fg : W.frozen? ⟨rb, g, none⟩ = false := frozen_of_heap hob
              have e0 := cells1_of hi.err
              have ef : W.frozen? ⟨b + 1, 0, none⟩ = false := frozen_of_heap hi.err
              have hg8i : (g : Int) < 8 := by omega
              have hne : rb ≠ b + 1 := by have := HRL.out; omega
              have HI := Lib.hid hi; have HOB := Lib.hid hob; have HRO := Lib.hid hro; have HO8 := Lib.hid ho8
              have HPL := Lib.hid (show ownL s.idx s.wd = pre ++ (g : Int) :: rest by rw [hpl]; simp)
              clear hi hpl hro ho8 hob hog hlr
              have hfail : (og < 0 ∨ 40 < og) → ScEnd w b (W.setCell ⟨b + 1, 0, none⟩ (.int .i64 280)) ∧ restR s.offs (ownL s.idx s.wd) = none ∧ UpdT (scB b rb) W (W.setCell ⟨b + 1, 0, none⟩ (.int .i64 280)) := fun hx => by
                have hu := upd_own W (b + 1) 0 (.int .i64 280)
                refine ⟨⟨by have := blk_set (i := 0) (v := .int .i64 280) HI.out.err; simpa using this, HI.out.upd.cut hu (fun q hq => by have := HB.out; omega)⟩, by rw [HPL.out, HST.out, if_pos hx], hu.mono (fun q hq e => ⟨_, _, _, by subst e; exact HI.out.err, .inr ⟨e, rfl⟩⟩)⟩
              have HFL := Lib.hid hfail
              clear hfail
              by_cases h1 : og < 0
              · gi_wp2
                have hf := HFL.out (.inl h1)
                exact ⟨⟨rfl, hf.2.1, hf.1⟩, hf.2.2⟩
              · by_cases h2 : 40 < og
                · gi_wp2
                  have hf := HFL.out (.inr h2)
                  exact ⟨⟨rfl, hf.2.1, hf.1⟩, hf.2.2⟩
                · gi_wp2
                  have hu := upd_own W rb g (.int .i64 0)
                  have hk : ∀ {j : Nat} {p : Obj}, j ≠ rb → W.heap[j]? = some p → (W.setCell ⟨rb, g, none⟩ (.int .i64 0)).heap[j]? = some p := fun hj hp => (set_ne hj).trans hp
                  have hrl := HRL.out
                  refine ⟨⟨⟨o.set g 0, ?_, by simp [HO8.out], put_off HOB.out⟩, hk (by omega) HI.out.box, hk (by omega) HI.out.err, HI.out.upd.cut hu (fun q hq => by have := HB.out; omega)⟩, hu.mono (fun q hq e => ⟨_, _, _, by subst e; exact HOB.out, .inl ⟨e, rfl⟩⟩)⟩
                  have := HST.out []
                  rw [if_neg (by omega)] at this
                  exact this
            case hdone =>
              rintro xs W hS h hD
              subst hS
              obtain ⟨o, hro, ho8, hob⟩ := h.rest
              have HC := Lib.hid (show cr = if o ≠ zer8 ∨ s.rows.any (alienB s.idx s.wd) = true then 280 else 0 by rw [HR2.out, hro])
              have HX := Lib.hid h.box; have HE := Lib.hid h.err; have HUW := Lib.hid h.upd; have HD := Lib.hid hD
              have HSW := Lib.hid (HS6.out)
              obtain ⟨p0, p1, p2, p3, p4, p5, p6, p7, hpm⟩ := eight ho8
              rw [hpm] at hob
              obtain ⟨r0, r1, r2, r3, r4, r5, r6, r7⟩ := cells8_of hob
              have HPM := Lib.hid hpm; have HO8 := Lib.hid ho8
              obtain ⟨x0, x1, x2, x4, x13⟩ := HCL.out _ HX.out
              have e0 := cells1_of HE.out
              have ef : W.frozen? ⟨b + 1, 0, none⟩ = false := frozen_of_heap HE.out
              clear h hD hro hob hpm
              have hq0 := eq_off W HO8.out (ys := zer8) rfl
              rw [HPM.out, show (zer8.map I).toArray = #[.int .i64 0, .int .i64 0, .int .i64 0, .int .i64 0, .int .i64 0, .int .i64 0, .int .i64 0, .int .i64 0] from rfl] at hq0
              obtain ⟨bz, hbz⟩ : ∃ bz, bz = (o == zer8) := ⟨_, rfl⟩
              rw [← hbz] at hq0
              have HBZ := Lib.hid hbz
              have HD8 := Lib.hid (fun (W2 : World) (x : Int) (hW : Upd0 W W2) => show (W2.setCell ⟨b + 1, 0, none⟩ (.int .i64 x)).heap[w6.heap.size]? = some (.deferred (some [])) from (set_ne (by show w6.heap.size ≠ b + 1; have := HL6.out; have := HRL.out; omega)).trans ((hW.block _ (lt_of_heap HD.out) (fun e => e)).trans HD.out))
              have HFIN := Lib.hid (fun (W2 : World) (x : Int) (hW : Upd0 W W2) => show (W2.setCell ⟨b + 1, 0, none⟩ (.int .i64 x)).heap[b + 1]? = some (.cells #[.int .i64 x] 33 (0, 0)) ∧ Upd0 w (W2.setCell ⟨b + 1, 0, none⟩ (.int .i64 x)) from
                ⟨by have := blk_set (i := 0) (v := .int .i64 x) ((hW.block _ (lt_of_heap HE.out) (fun e => e)).trans HE.out); simpa using this, (HUW.out.trans hW).cut (upd_own _ _ _ _) (fun q hq => by have := HB.out; omega)⟩)
              clear hbz
              cases bz
              · have HCC := Lib.hid (show cr = 280 by rw [HC.out, if_pos (.inl (fun e => by rw [e] at HBZ; simp at HBZ; exact absurd HBZ.out (by simp)))])
                gi_wp2
                refine ⟨trivial, ?_⟩
                gi_wp2
                refine ⟨by simp, .inl ⟨_, _, rfl, run_takeDeferred (HD8.out _ _ (Upd.refl _ _)), ?_⟩⟩
                have hf := HFIN.out W 280 (Upd.refl _ _)
                refine ⟨_, results_c (fn := Tryz.f156) rfl rfl (loadErr (cells_put _ hf.1 rfl (HD8.out _ _ (Upd.refl _ _)) rfl)), by rw [HCC.out], hf.2.step (upd_put _) (fun k hk e => by have := HLB.out; omega)⟩
              · have hoz : o = zer8 := by have := HBZ.out; simpa using this.symm
                have HCC := Lib.hid (show cr = if s.rows.any (alienB s.idx s.wd) = true then 280 else 0 by rw [HC.out]; simp [hoz])
                have HCF := Lib.hid (containsfC_any (g := 233) (lb := #[.pointer (some ⟨b, 0, none⟩)]) (c := s.tc) (p := alienB s.idx s.wd) W ((HSE.out.kept HUW.out).rows) HS6.out.rl callAlien (fun z W2 _ hW2 => alien_any z W2 ((hW2.block _ (lt_of_heap HX.out) (fun e => e)).trans HX.out) (by rw [HCS.out]; rfl) (by rw [HCS.out]; rfl)))
                gi_wp2_with (gi_at_call 160; fail)
                refine ⟨trivial, callsIn_wide.2 (HCF.out.mono ?_)⟩
                rintro e W2 ⟨rfl, hu2⟩
                have HU2 := Lib.hid hu2
                have HE2 := Lib.hid ((hu2.block _ (lt_of_heap HE.out) (fun e => e)).trans HE.out)
                clear hu2 HCF x0 x1 x2 x4 x13 e0 ef r0 r1 r2 r3 r4 r5 r6 r7 hq0
                have e0 := cells1_of HE2.out
                have ef : W2.frozen? ⟨b + 1, 0, none⟩ = false := frozen_of_heap HE2.out
                simp only []
                obtain ⟨bn, hbn⟩ : ∃ bn, bn = s.rows.any (alienB s.idx s.wd) := ⟨_, rfl⟩
                rw [← hbn] at HCC ⊢
                clear hbn
                cases bn
                · rw [if_neg (by simp)] at HCC
                  gi_wp2
                  refine ⟨by simp, .inl ⟨_, _, rfl, run_takeDeferred (HD8.out _ _ HU2.out), ?_⟩⟩
                  have hf := HFIN.out W2 0 HU2.out
                  refine ⟨_, results_c (fn := Tryz.f156) rfl rfl (loadErr (cells_put _ hf.1 rfl (HD8.out _ _ HU2.out) rfl)), by rw [HCC.out], hf.2.step (upd_put _) (fun k hk e => by have := HLB.out; omega)⟩
                · rw [if_pos rfl] at HCC
                  gi_wp2
                  refine ⟨by simp, .inl ⟨_, _, rfl, run_takeDeferred (HD8.out _ _ HU2.out), ?_⟩⟩
                  have hf := HFIN.out W2 280 HU2.out
                  refine ⟨_, results_c (fn := Tryz.f156) rfl rfl (loadErr (cells_put _ hf.1 rfl (HD8.out _ _ HU2.out) rfl)), by rw [HCC.out], hf.2.step (upd_put _) (fun k hk e => by have := HLB.out; omega)⟩
            case hstop =>
              rintro c W ⟨rfl, hn, h⟩ hD
              have HC := Lib.hid (show cr = 280 by rw [HR2.out, hn])
              have HE := Lib.hid h.err; have HUW := Lib.hid h.upd; have HD := Lib.hid hD
              clear h hD hn
              gi_wp2
              refine ⟨by simp, .inl ⟨_, _, rfl, run_takeDeferred HD.out, ?_⟩⟩
              refine ⟨_, results_c (fn := Tryz.f156) rfl rfl (loadErr (cells_put _ HE.out rfl HD.out rfl)), by rw [HC.out], HUW.out.step (upd_put _) (fun k hk e => by have := HLB.out; omega)⟩
          · have hnm' : namedB s.names = false := by simpa using hnm
            rw [hnm']
            have HC := Lib.hid (show cr = 280 by rw [HR.out, if_pos]; simp_all)
            gi_wp2
            refine ⟨_, results_c (fn := Tryz.f156) rfl rfl (loadErr (x := 280) (by have := blk_set (i := 0) (v := .int .i64 280) HE4.out; simpa using this)), by rw [HC.out], HU4.out.cut (upd_own _ _ _ _) (fun q hq => by have := HB.out; omega)⟩
        · have ht' : (chkT s.rows != 0) = true := by simpa using ht
          have HC := Lib.hid (show cr = 280 by rw [HR.out, if_pos]; simp_all)
          gi_wp2
          refine ⟨trivial, ?_⟩
          gi_wp2
          refine ⟨_, results_c (fn := Tryz.f156) rfl rfl (loadErr (x := 280) (by have := blk_set (i := 0) (v := .int .i64 280) HE3.out; simpa using this)), by rw [HC.out], HU3.out.cut (upd_own _ _ _ _) (fun q hq => by have := HB.out; omega)⟩
  · have hown : (OwnedR s.idx s.wd).2 = 2 := by simp [OwnedR, hsh]
    rw [hown]
    have HC := Lib.hid (show cr = 280 by rw [HR.out, if_pos]; simp_all)
    gi_wp2
    refine ⟨trivial, ?_⟩
    gi_wp2
    refine ⟨trivial, ?_⟩
    gi_wp2
    refine ⟨_, results_c (fn := Tryz.f156) rfl rfl (loadErr (x := 280) (by have := blk_set (i := 0) (v := .int .i64 280) HE2.out; simpa using this)), by rw [HC.out], HU2.out.cut (upd_own _ _ _ _) (fun q hq => by have := HB.out; omega)⟩
end Go.Proofs.YtbonfdkgkcbkmaaGreat
end

section
namespace Go.Proofs.YtbonfdkgkcbkmaaGreat
set_option maxRecDepth 100000
open Go.RowKit Go.Shelf

attribute [local go_sem] Oper.semAt_some
def wrongB (o : OpM) (x : KcV) : Bool := !(rightI o ⟨x.count, x.sum⟩ == 0)
def fitsOp (o : OpM) (s : SnV) : Bool := (o.width == s.wd) && !(!keepsB o && decide (0 < s.rows.length)) && !(o.tag != 7 && decide (0 < s.names.length)) && !(keepsB o && s.rows.any (wrongB o)) && (o.tag == 1 || s.offs == zer8)
/-- Does a snapshot fit a graph? -/
def fitsSn (os : List OpM) (s : SnV) : Bool := if (chkG os).2 ≠ 0 then false else if chkSn s ≠ 0 then false else match os[s.op.toNat]? with
  | none => false
  | some o => fitsOp o s
theorem chkSn_zero {s : SnV} (h : chkSn s = 0) : shareB s.idx s.wd = true ∧ 0 ≤ s.op ∧ s.op < 8 ∧ chkT s.rows = 0 ∧ namedB s.names = true := by
  unfold chkSn at h
  split at h
  · simp at h
  · rename_i h1
    have h2 : ¬ shareB s.idx s.wd = false := fun e => h1 (.inl e)
    have h3 : ¬ s.op < 0 := fun e => h1 (.inr (.inl e))
    have h4 : ¬ 8 ≤ s.op := fun e => h1 (.inr (.inr (.inl e)))
    have h5 : chkT s.rows = 0 := Classical.byContradiction (fun e => h1 (.inr (.inr (.inr (.inl e)))))
    have h6 : ¬ namedB s.names = false := fun e => h1 (.inr (.inr (.inr (.inr e))))
    exact ⟨by simpa using h2, by omega, by omega, h5, by simpa using h6⟩
theorem callFits1 : ∀ args w, (callFunc 158 args).run Tryz.prog w = .ok (.enter 158 args) w := enters_of Tryz.func158 (by kernel_rfl) rfl
theorem cells14_of {w : World} {b : Nat} {x0 x1 x2 x3 x4 x5 x6 x7 x8 x9 x10 x11 x12 x13 : Value} {t : TypeId} (h : w.heap[b]? = some (.cells #[x0, x1, x2, x3, x4, x5, x6, x7, x8, x9, x10, x11, x12, x13] t (0, 0))) :
    w.cell? ⟨b, 0, none⟩ = some x0 ∧ w.cell? ⟨b, 1, none⟩ = some x1 ∧ w.cell? ⟨b, 2, none⟩ = some x2 ∧ w.cell? ⟨b, 3, none⟩ = some x3 ∧ w.cell? ⟨b, 4, none⟩ = some x4 ∧ w.cell? ⟨b, 5, none⟩ = some x5 ∧ w.cell? ⟨b, 6, none⟩ = some x6 ∧ w.cell? ⟨b, 7, none⟩ = some x7 ∧ w.cell? ⟨b, 8, none⟩ = some x8 ∧ w.cell? ⟨b, 9, none⟩ = some x9 ∧ w.cell? ⟨b, 10, none⟩ = some x10 ∧ w.cell? ⟨b, 11, none⟩ = some x11 ∧ w.cell? ⟨b, 12, none⟩ = some x12 ∧ w.cell? ⟨b, 13, none⟩ = some x13 := by simp [World.cell?, h]
set_option maxHeartbeats 16000000 in
theorem sfits_any {oa : Option Addr} {os : List OpM} {oc : Nat} (s : SnV) (w : World) (h : OpsIn w oa os) (hol : os.length ≤ 50) (hoc : os.length ≤ oc) (hom : oc ≤ maxLen) (hs : SnIn w s) :
    Calls Tryz.prog 84 #[.agg #[.slice oa os.length oc], .agg s.cells.toArray] w fun e w' => e = .returned (.bool (fitsSn os s)) ∧ Upd0 w w' := by
  obtain ⟨o0, o1, o2, o3, o4, o5, o6, o7, hmap⟩ := eight hs.o8
  have hlit := SnV.lit hmap
  obtain ⟨b, hb⟩ : ∃ b, b = w.heap.size := ⟨_, rfl⟩
  obtain ⟨w1, hw1⟩ : ∃ w1, w1 = (w.alloc (.cells #[.slice oa os.length oc] 24)).alloc (.cells #[.int .i64 s.op, .int .i64 s.idx, .int .i64 s.wd, .bool s.fin, .slice s.ta s.rows.length s.tc, .int .i64 o0, .int .i64 o1, .int .i64 o2, .int .i64 o3, .int .i64 o4, .int .i64 o5, .int .i64 o6, .int .i64 o7, .slice s.na s.names.length s.nc] 80) := ⟨_, rfl⟩
  have hu1 : Upd0 w w1 := by rw [hw1]; exact ((Upd.refl _ w).alloc _).alloc _
  have HG := Lib.hid (show w1.heap[b]? = some (.cells #[.slice oa os.length oc] 24 (0, 0)) by rw [hw1, hb]; exact (alloc_lt (by simp)).trans (alloc_at rfl))
  have HX := Lib.hid (show w1.heap[b + 1]? = some (.cells #[.int .i64 s.op, .int .i64 s.idx, .int .i64 s.wd, .bool s.fin, .slice s.ta s.rows.length s.tc, .int .i64 o0, .int .i64 o1, .int .i64 o2, .int .i64 o3, .int .i64 o4, .int .i64 o5, .int .i64 o6, .int .i64 o7, .slice s.na s.names.length s.nc] 80 (0, 0)) by rw [hw1, hb]; exact alloc_at (by simp))
  have HCK := Lib.hid (gcheck_any (oc := oc) w1 (h.kept hu1) (by omega) hoc hom)
  have HSC := Lib.hid (fun (W : World) (hW : Upd0 w1 W) => scheck_any s W (hs.kept (hu1.trans hW)))
  rw [hlit] at HSC ⊢
  have HO := Lib.hid (h.kept hu1); have HU := Lib.hid hu1; have HS := Lib.hid (hs.kept hu1)
  have HR := Lib.hid (fitsSn.eq_1 os s)
  have HZ := Lib.hid (fun (e : chkSn s = 0) => chkSn_zero e)
  have hq : ∀ W : World, (Op.equalIn 10000 43 (.agg #[.int .i64 o0, .int .i64 o1, .int .i64 o2, .int .i64 o3, .int .i64 o4, .int .i64 o5, .int .i64 o6, .int .i64 o7]) (.agg #[.int .i64 0, .int .i64 0, .int .i64 0, .int .i64 0, .int .i64 0, .int .i64 0, .int .i64 0, .int .i64 0])).run Tryz.prog W = .ok (s.offs == zer8) W := fun W => by
    have := eq_off W hs.o8 (ys := zer8) rfl
    rw [hmap] at this
    exact this
  have HQ := Lib.hid hq
  obtain ⟨fr, hfr⟩ : ∃ fr, fr = fitsSn os s := ⟨_, rfl⟩
  rw [← hfr] at HR ⊢
  obtain ⟨ck, hck⟩ : ∃ ck, ck = chkG os := ⟨_, rfl⟩
  rw [← hck] at HCK HR
  obtain ⟨ck1, ck2⟩ := ck
  simp only at HR
  obtain ⟨sn, hsn⟩ : ∃ sn, sn = chkSn s := ⟨_, rfl⟩
  rw [← hsn] at HR HSC HZ
  have c0 := cells1_of HG.out
  clear h hs hu1 hmap hlit hq hfr hck hsn
  go_enter Tryz.func84, Tryz.ntmps84
  go_wp2_with (go_at_call 82; fail)
  rw [← hw1, ← hb]
  clear hw1 hb
  (with_reducible refine HCK.out.mono ?_)
  rintro _ w2 ⟨rfl, hu2⟩
  have HU2 := Lib.hid (HU.out.trans hu2)
  have HX2 := Lib.hid ((hu2.block _ (lt_of_heap HX.out) (fun e => e)).trans HX.out)
  have HG2 := Lib.hid ((hu2.block _ (lt_of_heap HG.out) (fun e => e)).trans HG.out)
  have HS2 := Lib.hid (HSC.out w2 hu2)
  have HO2 := Lib.hid (HO.out.kept hu2); have HSI2 := Lib.hid (HS.out.kept hu2)
  clear hu2 HCK c0 HX HG HSC HO HS
  simp only []
  by_cases hg : ck2 = 0
  · subst hg
    rw [if_neg (by simp)] at HR
    obtain ⟨x0, x1, x2, x3, x4, x5, x6, x7, x8, x9, x10, x11, x12, x13⟩ := cells14_of HX2.out
    go_wp2_with (go_at_call 156; fail)
    (with_reducible refine HS2.out.mono ?_)
    rintro _ w3 ⟨rfl, hu3⟩
    have HU3 := Lib.hid (HU2.out.trans hu3)
    have HX3 := Lib.hid ((hu3.block _ (lt_of_heap HX2.out) (fun e => e)).trans HX2.out)
    have HG3 := Lib.hid ((hu3.block _ (lt_of_heap HG2.out) (fun e => e)).trans HG2.out)
    have HO3 := Lib.hid (HO2.out.kept hu3); have HSI3 := Lib.hid (HSI2.out.kept hu3)
    clear hu3 HS2 x0 x1 x2 x3 x4 x5 x6 x7 x8 x9 x10 x11 x12 x13 HX2 HG2 HO2 HSI2
    simp only []
    by_cases hz : sn = 0
    · subst hz
      rw [if_neg (by simp)] at HR
      obtain ⟨_, hop0, hop8, _, _⟩ := HZ.out rfl
      obtain ⟨j, hj⟩ : ∃ j : Nat, s.op = j := ⟨s.op.toNat, by omega⟩
      rw [hj] at HR HX3 hop8
      rw [show ((j : Nat) : Int).toNat = j from rfl] at HR
      obtain ⟨x0, x1, x2, x3, x4, x5, x6, x7, x8, x9, x10, x11, x12, x13⟩ := cells14_of HX3.out
      have g0 := cells1_of HG3.out
      clear HZ hop0
      by_cases hjl : j < os.length
      · obtain ⟨o, ho⟩ : ∃ o, os[j]? = some o := ⟨_, List.getElem?_eq_getElem hjl⟩
        rw [ho] at HR
        simp only [fitsOp] at HR
        obtain ⟨⟨q, qf, rfl, d0, d1, d2, d3, d4⟩, hoi, hoil⟩ := HO3.out.at ho
        have hql := lt_of_cell d0
        obtain ⟨w4, hw4⟩ : ∃ w4, w4 = w3.alloc (.cells #[.int .i64 o.tag, .int .i64 o.width, .slice o.ia o.ins.length o.ic, .int .i64 o.a, .int .i64 o.b] 89) := ⟨_, rfl⟩
        obtain ⟨ob, hob⟩ : ∃ ob, ob = w3.heap.size := ⟨_, rfl⟩
        have hu4 : Upd0 w3 w4 := by rw [hw4]; exact (Upd.refl _ w3).alloc _
        have HB4 := Lib.hid (show w4.heap[ob]? = some (.cells #[.int .i64 o.tag, .int .i64 o.width, .slice o.ia o.ins.length o.ic, .int .i64 o.a, .int .i64 o.b] 89 (0, 0)) by rw [hw4]; exact alloc_at hob)
        have HX4 := Lib.hid ((hu4.block _ (lt_of_heap HX3.out) (fun e => e)).trans HX3.out)
        have HU4 := Lib.hid (HU3.out.trans hu4)
        have HSI4 := Lib.hid (HSI3.out.kept hu4)
        have HOI := Lib.hid (And.intro (hoi.kept hu4) hoil)
        clear ho hoi hoil hu4 HX3 HU3 HSI3 HO3 HG3
        go_upto_region 5 with fail
        rw [← hw4, ← hob]
        clear hw4 hob x0 x1 x2 x3 x4 x5 x6 x7 x8 x9 x10 x11 x12 x13 g0 d0 d1 d2 d3 d4 hql
        obtain ⟨x0, x1, x2, x3, x4, x5, x6, x7, x8, x9, x10, x11, x12, x13⟩ := cells14_of HX4.out
        obtain ⟨b0, b1, b2, b3, b4⟩ := cells5_of HB4.out
        by_cases hwd : o.width = s.wd
        · have hne : (o.width != s.wd) = false := by simp [hwd]
          have HWD := Lib.hid (show (o.width == s.wd) = true by simp [hwd])
          clear hwd
          go_wp2_with (go_at_call 157; fail)
          (with_reducible refine (keeps_any o w4).mono ?_)
          rintro _ w5 ⟨rfl, hu5⟩
          have HU5 := Lib.hid (HU4.out.trans hu5)
          have HX5 := Lib.hid ((hu5.block _ (lt_of_heap HX4.out) (fun e => e)).trans HX4.out)
          have HB5 := Lib.hid ((hu5.block _ (lt_of_heap HB4.out) (fun e => e)).trans HB4.out)
          have HSI5 := Lib.hid (HSI4.out.kept hu5)
          have HOI5 := Lib.hid (And.intro (HOI.out.1.kept hu5) HOI.out.2)
          clear hu5 HU4 HX4 HB4 HSI4 HOI x0 x1 x2 x3 x4 x5 x6 x7 x8 x9 x10 x11 x12 x13 b0 b1 b2 b3 b4
          obtain ⟨x0, x1, x2, x3, x4, x5, x6, x7, x8, x9, x10, x11, x12, x13⟩ := cells14_of HX5.out
          obtain ⟨b0, b1, b2, b3, b4⟩ := cells5_of HB5.out
          simp only []
          obtain ⟨kb, hkb⟩ : ∃ kb, kb = keepsB o := ⟨_, rfl⟩
          rw [← hkb] at HR ⊢
          have HKB := Lib.hid hkb
          clear hkb
          cases kb
          · by_cases hrl : 0 < s.rows.length
            · have hrlI : (0 : Int) < s.rows.length := by omega
              go_wp2
              go_ret
              exact ⟨ret_bool (by rw [HR.out]; simp [hrl]), HU5.out⟩
            · have hrlI : ¬ (0 : Int) < s.rows.length := by omega
              by_cases ht7 : o.tag = 7
              · have h7 : (o.tag != 7) = false := by simp [ht7]
                have HT7 := Lib.hid ht7
                clear ht7
                go_wp2_with (go_at_call 157; fail)
                (with_reducible refine (keeps_any o w5).mono ?_)
                rintro _ w6 ⟨rfl, hu6⟩
                have HU6 := Lib.hid (HU5.out.trans hu6)
                have HX6 := Lib.hid ((hu6.block _ (lt_of_heap HX5.out) (fun e => e)).trans HX5.out)
                have HB6 := Lib.hid ((hu6.block _ (lt_of_heap HB5.out) (fun e => e)).trans HB5.out)
                clear hu6 HU5 HX5 HB5 HSI5 HOI5 x0 x1 x2 x3 x4 x5 x6 x7 x8 x9 x10 x11 x12 x13 b0 b1 b2 b3 b4
                obtain ⟨x0, x1, x2, x3, x4, x5, x6, x7, x8, x9, x10, x11, x12, x13⟩ := cells14_of HX6.out
                obtain ⟨b0, b1, b2, b3, b4⟩ := cells5_of HB6.out
                simp only []
                rw [← HKB.out]
                by_cases ht1 : o.tag = 1
                · go_wp2
                  go_ret
                  exact ⟨ret_bool (by rw [HR.out]; have := HWD.out; have := HT7.out; simp_all), HU6.out⟩
                · have hq := HQ.out
                  go_wp2
                  go_ret
                  exact ⟨ret_bool (by rw [HR.out]; have := HWD.out; have := HT7.out; simp_all), HU6.out⟩
              · by_cases hnl : 0 < s.names.length
                · have hnlI : (0 : Int) < s.names.length := by omega
                  go_wp2
                  go_ret
                  exact ⟨ret_bool (by rw [HR.out]; simp [hnl, ht7]), HU5.out⟩
                · have hnlI : ¬ (0 : Int) < s.names.length := by omega
                  go_wp2_with (go_at_call 157; fail)
                  (with_reducible refine (keeps_any o w5).mono ?_)
                  rintro _ w6 ⟨rfl, hu6⟩
                  have HU6 := Lib.hid (HU5.out.trans hu6)
                  have HX6 := Lib.hid ((hu6.block _ (lt_of_heap HX5.out) (fun e => e)).trans HX5.out)
                  have HB6 := Lib.hid ((hu6.block _ (lt_of_heap HB5.out) (fun e => e)).trans HB5.out)
                  clear hu6 HU5 HX5 HB5 HSI5 HOI5 x0 x1 x2 x3 x4 x5 x6 x7 x8 x9 x10 x11 x12 x13 b0 b1 b2 b3 b4
                  obtain ⟨x0, x1, x2, x3, x4, x5, x6, x7, x8, x9, x10, x11, x12, x13⟩ := cells14_of HX6.out
                  obtain ⟨b0, b1, b2, b3, b4⟩ := cells5_of HB6.out
                  simp only []
                  rw [← HKB.out]
                  by_cases ht1 : o.tag = 1
                  · go_wp2
                    go_ret
                    exact ⟨ret_bool (by rw [HR.out]; have := HWD.out; simp_all), HU6.out⟩
                  · have hq := HQ.out
                    go_wp2
                    go_ret
                    exact ⟨ret_bool (by rw [HR.out]; have := HWD.out; simp_all), HU6.out⟩
          · have ht : o.tag = 4 ∨ o.tag = 5 := by have := HKB.out; simp [keepsB] at this; omega
            have ht7 : ¬ o.tag = 7 := by omega
            have ht1 : ¬ o.tag = 1 := by omega
            by_cases hnl : 0 < s.names.length
            · have hnlI : (0 : Int) < s.names.length := by omega
              go_wp2
              go_ret
              exact ⟨ret_bool (by rw [HR.out]; simp [hnl, ht7]), HU5.out⟩
            · have hnlI : ¬ (0 : Int) < s.names.length := by omega
              go_wp2_with (go_at_call 157; fail)
              (with_reducible refine (keeps_any o w5).mono ?_)
              rintro _ w6 ⟨rfl, hu6⟩
              have HU6 := Lib.hid (HU5.out.trans hu6)
              have HX6 := Lib.hid ((hu6.block _ (lt_of_heap HX5.out) (fun e => e)).trans HX5.out)
              have HB6 := Lib.hid ((hu6.block _ (lt_of_heap HB5.out) (fun e => e)).trans HB5.out)
              have HCF := Lib.hid (containsfC_any (g := 158) (lb := #[.pointer (some ⟨ob, 0, none⟩)]) (c := s.tc) (p := wrongB o) w6 ((HSI5.out.kept hu6).rows) HSI5.out.rl callFits1 (fun z W2 _ hW2 => snapfits1_any o z W2 (HOI5.out.1.kept (hu6.trans hW2)) HOI5.out.2 ((hW2.block _ (lt_of_heap HB6.out) (fun e => e)).trans HB6.out)))
              clear hu6 HU5 HX5 HB5 HSI5 HOI5 x0 x1 x2 x3 x4 x5 x6 x7 x8 x9 x10 x11 x12 x13 b0 b1 b2 b3 b4
              obtain ⟨x0, x1, x2, x3, x4, x5, x6, x7, x8, x9, x10, x11, x12, x13⟩ := cells14_of HX6.out
              simp only []
              rw [← HKB.out]
              go_wp2_with (go_at_call 160; fail)
              (with_reducible refine HCF.out.mono ?_)
              rintro _ w7 ⟨rfl, hu7⟩
              have HU7 := Lib.hid (HU6.out.trans hu7)
              have HX7 := Lib.hid ((hu7.block _ (lt_of_heap HX6.out) (fun e => e)).trans HX6.out)
              have HB7 := Lib.hid ((hu7.block _ (lt_of_heap HB6.out) (fun e => e)).trans HB6.out)
              clear hu7 HCF HU6 HX6 HB6 x0 x1 x2 x3 x4 x5 x6 x7 x8 x9 x10 x11 x12 x13
              obtain ⟨x0, x1, x2, x3, x4, x5, x6, x7, x8, x9, x10, x11, x12, x13⟩ := cells14_of HX7.out
              obtain ⟨b0, b1, b2, b3, b4⟩ := cells5_of HB7.out
              simp only []
              obtain ⟨an, han⟩ : ∃ an, an = s.rows.any (wrongB o) := ⟨_, rfl⟩
              rw [← han] at HR ⊢
              clear han
              cases an
              · have hq := HQ.out
                go_wp2
                go_ret
                exact ⟨ret_bool (by rw [HR.out]; simp [HWD.out, hnl, ht1]), HU7.out⟩
              · go_wp2
                go_ret
                exact ⟨ret_bool (by rw [HR.out]; simp), HU7.out⟩
        · go_wp2
          go_ret
          exact ⟨ret_bool (by rw [HR.out]; simp [hwd]), HU4.out⟩
      · have hjI : (os.length : Int) ≤ j := by omega
        rw [List.getElem?_eq_none (by omega)] at HR
        go_wp2
        go_ret
        exact ⟨ret_bool HR.out.symm, HU3.out⟩
    · rw [if_pos hz] at HR
      go_wp2
      go_ret
      exact ⟨ret_bool HR.out.symm, HU3.out⟩
  · rw [if_pos hg] at HR
    go_wp2
    go_ret
    exact ⟨ret_bool HR.out.symm, HU2.out⟩
end Go.Proofs.YtbonfdkgkcbkmaaGreat
end

section
namespace Go.Proofs.YtbonfdkgkcbkmaaGreat
set_option maxRecDepth 100000
open Go.RowKit Go.Shelf

attribute [local go_sem] Oper.semAt_some
abbrev OwnNm (w : World) (B : Nat) (v : Value) (l : List NmV) : Prop := w.ownsRow B 215 3 v l.length (l.map NmV.cells).flatten
theorem mapNm_lens (l : List NmV) : ∀ y ∈ l.map NmV.cells, y.length = 3 := fun y hy => by obtain ⟨r, _, rfl⟩ := List.mem_map.1 hy; rfl
theorem OwnNm.in' {w : World} {B : Nat} {a : Option Addr} {c : Nat} {l : List NmV} (h : OwnNm w B (.slice a l.length c) l) : NmsIn w a l := Row.of_ownK (by omega) h (mapNm_lens l) (by simp)
theorem oneNm (l : List NmV) : ∀ u ∈ (l.map NmV.cells).flatten, u.oneCell' = true := by
  intro u hu
  obtain ⟨y, hy, hu⟩ := List.mem_flatten.1 hu
  obtain ⟨r, _, rfl⟩ := List.mem_map.1 hy
  simp [NmV.cells] at hu
  rcases hu with rfl | rfl | rfl <;> rfl
theorem infoNm : (Tryz.prog.info? 215).map (fun i => (i.zero, i.size, i.bytes)) = some (some (.agg #[.int .i64 0, .int .i64 0, .int .i64 0]), 3, 24) := by kernel_rfl
theorem appNm {w : World} {B : Nat} {v : Value} {l : List NmV} (h : w.ownsRow B 215 3 v (0 + l.length) ([] ++ (l.map NmV.cells).flatten)) : ∃ a c, v = .slice a l.length c ∧ OwnNm w B (.slice a l.length c) l := by
  rw [List.nil_append, Nat.zero_add] at h
  obtain ⟨a, c, rfl⟩ := rowV h
  exact ⟨a, c, rfl, h⟩
theorem flatI (l : List Int) : (l.map fun z => [Value.int .i64 z]).flatten = l.map I := by
  induction l with
  | nil => rfl
  | cons z l ih => simp only [List.map_cons, List.flatten_cons, ih]; rfl
theorem oneI (l : List Int) : ∀ u ∈ (l.map fun z => [Value.int .i64 z]).flatten, u.oneCell' = true := by
  intro u hu
  rw [flatI] at hu
  obtain ⟨z, _, rfl⟩ := List.mem_map.1 hu
  rfl
theorem appI0 {w : World} {B : Nat} {v : Value} {l : List Int} (h : w.ownsRow B 3 1 v (0 + l.length) ([] ++ (l.map fun z => [Value.int .i64 z]).flatten)) : ∃ a c, v = .slice a l.length c ∧ OwnI w B 3 (.slice a l.length c) l := by
  rw [List.nil_append, Nat.zero_add, flatI] at h
  obtain ⟨a, c, rfl⟩ := rowV h
  exact ⟨a, c, rfl, h⟩
abbrev OwnInt (w : World) (B : Nat) (v : Value) (l : List Int) : Prop := OwnI w B 3 v l

set_option maxHeartbeats 1000000 in
theorem cloneNm_any {a : Option Addr} {l : List NmV} {c : Nat} (w : World) (h : NmsIn w a l) (hl : l.length ≤ 1000000) :
    Calls Tryz.prog 185 #[.slice a l.length c] w fun e w' => ∃ a' c', e = .returned (.slice a' l.length c') ∧ OwnNm w' w.heap.size (.slice a' l.length c') l ∧ Upd0 w w' := by
  cases a with
  | none =>
    have hn : l = [] := by
      match l, h with
      | [], _ => rfl
      | r :: l, h => obtain ⟨_, b, o, e, _⟩ := h 0 (NmV.cells r) rfl; cases e
    subst hn
    have q22 : (binOp .eql 70 (.slice none 0 c) (.slice none 0 0)).run Tryz.prog w = .ok (.bool true) w := Lib.run_eql_slice_nil w _ _ _ _ _ _ _ Tryz.underlying70
    go_enter Tryz.func185, Tryz.ntmps185
    go_wp2
    go_ret
    exact ⟨none, 0, rfl, World.ownsRow_nil _ _ _ _, Upd.refl _ _⟩
  | some ad =>
    obtain ⟨w1, hw1⟩ : ∃ w1, w1 = w.alloc (.cells #[] 215) := ⟨_, rfl⟩
    have hu1 : Upd0 w w1 := by rw [hw1]; exact (Upd.refl _ w).alloc _
    have HE := Lib.hid (show w1.ownsRow w.heap.size 215 3 (.slice (some ⟨w.heap.size, 0, none⟩) 0 0) 0 [] by rw [hw1]; exact own_empty w 215 3 (Nat.le_refl _))
    have HI := Lib.hid (h.kept hu1)
    have HZ := Lib.hid (show w.heap.size ≤ w1.heap.size from hu1.size)
    have HU := Lib.hid hu1
    have q22 : (binOp .eql 70 (.slice (some ad) l.length c) (.slice none 0 0)).run Tryz.prog w = .ok (.bool false) w := Lib.run_eql_slice_nil w _ _ _ _ _ _ _ Tryz.underlying70
    clear h hu1
    go_enter Tryz.func185, Tryz.ntmps185
    go_wp2_with (at_builtin; obtain ⟨i0, hi, hz0, hs, hb⟩ := info_parts infoNm; rw [← hw1]; refine wpList_appR rfl (.tmp 5) (.tmp 6) 70 rfl w.heap.size 215 i0 (.agg #[.int .i64 0, .int .i64 0, .int .i64 0]) 3 24 Tryz.underlying70 hi hz0 hs hb rfl (by decide) (.slice (some ⟨w.heap.size, 0, none⟩) 0 0) 0 [] rfl HE.out (some ad) l.length c (l.map NmV.cells) rfl HI.out (by simp) (oneNm _) (by unfold maxLen; omega) (by omega) HZ.out ?_; clear hi hz0 hs hb; intro v5 w5 hown5 hu5; obtain ⟨a5, c5, rfl, hi5⟩ := appNm hown5; clear hown5)
    go_ret
    exact ⟨a5, c5, rfl, hi5, HU.out.cut hu5 (fun j hj => by simp [Value.ownBlock] at hj; omega)⟩

set_option maxHeartbeats 1000000 in
theorem cloneI_any {a : Option Addr} {l : List Int} {c : Nat} (w : World) (h : IntsIn w a l) (hl : l.length ≤ 1000000) :
    Calls Tryz.prog 146 #[.slice a l.length c] w fun e w' => ∃ a' c', e = .returned (.slice a' l.length c') ∧ OwnInt w' w.heap.size (.slice a' l.length c') l ∧ Upd0 w w' := by
  cases a with
  | none =>
    have hn : l = [] := by
      match l, h with
      | [], _ => rfl
      | r :: l, h => obtain ⟨_, b, o, e, _⟩ := h 0 ((fun z : Int => [Value.int .i64 z]) r) rfl; cases e
    subst hn
    have q22 : (binOp .eql 75 (.slice none 0 c) (.slice none 0 0)).run Tryz.prog w = .ok (.bool true) w := Lib.run_eql_slice_nil w _ _ _ _ _ _ _ Tryz.underlying75
    go_enter Tryz.func146, Tryz.ntmps146
    go_wp2
    go_ret
    exact ⟨none, 0, rfl, World.ownsRow_nil _ _ _ _, Upd.refl _ _⟩
  | some ad =>
    obtain ⟨w1, hw1⟩ : ∃ w1, w1 = w.alloc (.cells #[] 3) := ⟨_, rfl⟩
    have hu1 : Upd0 w w1 := by rw [hw1]; exact (Upd.refl _ w).alloc _
    have HE := Lib.hid (show w1.ownsRow w.heap.size 3 1 (.slice (some ⟨w.heap.size, 0, none⟩) 0 0) 0 [] by rw [hw1]; exact own_empty w 3 1 (Nat.le_refl _))
    have HI := Lib.hid (h.kept hu1)
    have HZ := Lib.hid (show w.heap.size ≤ w1.heap.size from hu1.size)
    have HU := Lib.hid hu1
    have q22 : (binOp .eql 75 (.slice (some ad) l.length c) (.slice none 0 0)).run Tryz.prog w = .ok (.bool false) w := Lib.run_eql_slice_nil w _ _ _ _ _ _ _ Tryz.underlying75
    clear h hu1
    go_enter Tryz.func146, Tryz.ntmps146
    go_wp2_with (at_builtin; obtain ⟨i0, hi, hz0, hs, hb⟩ := info_parts infoI; rw [← hw1]; refine wpList_appR rfl (.tmp 5) (.tmp 6) 75 rfl w.heap.size 3 i0 (.int .i64 0) 1 8 Tryz.underlying75 hi hz0 hs hb rfl (by decide) (.slice (some ⟨w.heap.size, 0, none⟩) 0 0) 0 [] rfl HE.out (some ad) l.length c (l.map (fun z : Int => [Value.int .i64 z])) rfl HI.out (by simp) (oneI _) (by unfold maxLen; omega) (by omega) HZ.out ?_; clear hi hz0 hs hb; intro v5 w5 hown5 hu5; obtain ⟨a5, c5, rfl, hi5⟩ := appI0 hown5; clear hown5)
    go_ret
    exact ⟨a5, c5, rfl, hi5, HU.out.cut hu5 (fun j hj => by simp [Value.ownBlock] at hj; omega)⟩

/-! ### What is not there -/
theorem eqfQ0_any {qa : Option Addr} {n qc : Nat} {f : Value} (w : World) : Calls Tryz.prog 349 #[.slice qa n qc, .slice none 0 0, f] w fun e w' => e = .returned (.bool (decide (n = 0))) ∧ Upd0 w w' := by
  by_cases hn : n = 0
  · subst hn
    go_enter Tryz.func349, Tryz.ntmps349
    go_wp2_with (fail)
    go_loopw [17] (fun i wr => i = .int .i64 0 ∧ wr = w) (fun _ _ => 0)
    case atStart => exact ⟨rfl, rfl⟩
    case round =>
      obtain ⟨rfl, rfl⟩ := hrel
      go_wp2
      go_ret
      exact ⟨rfl, Upd.refl _ _⟩
  · have hnI : ¬ (n : Int) = 0 := by omega
    go_enter Tryz.func349, Tryz.ntmps349
    go_wp2
    go_ret
    exact ⟨ret_bool (by simp [hn]), Upd.refl _ _⟩
theorem eqNm0_any {na : Option Addr} {n nc : Nat} (w : World) : Calls Tryz.prog 305 #[.slice na n nc, .slice none 0 0] w fun e w' => e = .returned (.bool (decide (n = 0))) ∧ Upd0 w w' := by
  by_cases hn : n = 0
  · subst hn
    go_enter Tryz.func305, Tryz.ntmps305
    go_wp2_with (fail)
    go_loopw [13] (fun i wr => i = .int .i64 0 ∧ wr = w) (fun _ _ => 0)
    case atStart => exact ⟨rfl, rfl⟩
    case round =>
      obtain ⟨rfl, rfl⟩ := hrel
      go_wp2
      go_ret
      exact ⟨rfl, Upd.refl _ _⟩
  · have hnI : ¬ (n : Int) = 0 := by omega
    go_enter Tryz.func305, Tryz.ntmps305
    go_wp2
    go_ret
    exact ⟨ret_bool (by simp [hn]), Upd.refl _ _⟩
/-- Is a gate not there? -/
def zeroG (n : Nat) (num gd : Nat) : Bool := decide (num = 0) && decide (gd = 0) && decide (n = 0)
set_option maxHeartbeats 1000000 in
theorem gsame0_any {qa : Option Addr} {n qc num gd : Nat} (w : World) : Calls Tryz.prog 304 #[.agg #[.slice qa n qc, .int .u64 num, .int .u64 gd], .agg #[.slice none 0 0, .int .u64 0, .int .u64 0]] w fun e w' => e = .returned (.bool (zeroG n num gd)) ∧ Upd0 w w' := by
  obtain ⟨b, hb⟩ : ∃ b, b = w.heap.size := ⟨_, rfl⟩
  obtain ⟨w1, hw1⟩ : ∃ w1, w1 = (w.alloc (.cells #[.slice qa n qc, .int .u64 num, .int .u64 gd] 69)).alloc (.cells #[.slice none 0 0, .int .u64 0, .int .u64 0] 69) := ⟨_, rfl⟩
  have hu1 : Upd0 w w1 := by rw [hw1]; exact ((Upd.refl _ w).alloc _).alloc _
  obtain ⟨a0, a1, a2⟩ := cells3_of (show w1.heap[b]? = some (.cells #[.slice qa n qc, .int .u64 num, .int .u64 gd] 69 (0, 0)) by rw [hw1, hb]; exact (alloc_lt (by simp)).trans (alloc_at rfl))
  obtain ⟨c0, c1, c2⟩ := cells3_of (show w1.heap[b + 1]? = some (.cells #[.slice none 0 0, .int .u64 0, .int .u64 0] 69 (0, 0)) by rw [hw1, hb]; exact alloc_at (by simp))
  have HU := Lib.hid hu1
  clear hu1
  have HE := Lib.hid (eqfQ0_any (qa := qa) (n := n) (qc := qc) (f := .func (.func 350) #[] #[]) w1)
  go_enter Tryz.func304, Tryz.ntmps304
  go_upto_region 1 with fail
  rw [← hw1, ← hb]
  clear hw1 hb
  by_cases h1 : num = 0
  · have h1I : (num : Int) = 0 := by omega
    by_cases h2 : gd = 0
    · have h2I : (gd : Int) = 0 := by omega
      go_wp2_with (go_at_call 349; fail)
      (with_reducible refine HE.out.mono ?_)
      rintro _ w2 ⟨rfl, hu2⟩
      have HU2 := Lib.hid (HU.out.trans hu2)
      clear hu2 HE
      simp only []
      go_wp2
      go_ret
      exact ⟨ret_bool (by simp [zeroG, h1, h2]), HU2.out⟩
    · have h2I : ¬ (gd : Int) = 0 := by omega
      go_wp2
      go_ret
      exact ⟨ret_bool (by simp [zeroG, h2]), HU.out⟩
  · have h1I : ¬ (num : Int) = 0 := by omega
    go_wp2
    go_ret
    exact ⟨ret_bool (by simp [zeroG, h1]), HU.out⟩
theorem zerogate_any {qa : Option Addr} {n qc num gd : Nat} (w : World) : Calls Tryz.prog 237 #[.agg #[.slice qa n qc, .int .u64 num, .int .u64 gd]] w fun e w' => e = .returned (.bool (zeroG n num gd)) ∧ Upd0 w w' := by
  obtain ⟨w1, hw1⟩ : ∃ w1, w1 = w.alloc (.cells #[.slice qa n qc, .int .u64 num, .int .u64 gd] 69) := ⟨_, rfl⟩
  have hu1 : Upd0 w w1 := by rw [hw1]; exact (Upd.refl _ w).alloc _
  obtain ⟨a0, a1, a2⟩ := cells3_of (show w1.heap[w.heap.size]? = some (.cells #[.slice qa n qc, .int .u64 num, .int .u64 gd] 69 (0, 0)) by rw [hw1]; exact alloc_at rfl)
  have HU := Lib.hid hu1
  clear hu1
  have HE := Lib.hid (gsame0_any (qa := qa) (n := n) (qc := qc) (num := num) (gd := gd) w1)
  go_enter Tryz.func237, Tryz.ntmps237
  go_wp2_with (go_at_call 304; fail)
  rw [← hw1]
  clear hw1
  (with_reducible refine HE.out.mono ?_)
  rintro _ w2 ⟨rfl, hu2⟩
  have HU2 := Lib.hid (HU.out.trans hu2)
  clear hu2 HE
  simp only []
  go_wp2
  go_ret
  exact ⟨rfl, HU2.out⟩
/-- Is a sink not there? -/
def zeroS (x : SkV) : Bool := decide (x.sub = 0) && decide (x.att = 0) && decide (x.ser = 0) && !x.opn && decide (x.names.length = 0)
set_option maxHeartbeats 2000000 in
theorem ssame0_any (x : SkV) (w : World) : Calls Tryz.prog 240 #[.agg #[.int .i64 x.sub, .int .i64 x.att, .int .i64 x.ser, .bool x.opn, .slice x.na x.names.length x.nc], .agg #[.int .i64 0, .int .i64 0, .int .i64 0, .bool false, .slice none 0 0]] w fun e w' => e = .returned (.bool (zeroS x)) ∧ Upd0 w w' := by
  obtain ⟨b, hb⟩ : ∃ b, b = w.heap.size := ⟨_, rfl⟩
  obtain ⟨w1, hw1⟩ : ∃ w1, w1 = (w.alloc (.cells #[.int .i64 x.sub, .int .i64 x.att, .int .i64 x.ser, .bool x.opn, .slice x.na x.names.length x.nc] 72)).alloc (.cells #[.int .i64 0, .int .i64 0, .int .i64 0, .bool false, .slice none 0 0] 72) := ⟨_, rfl⟩
  have hu1 : Upd0 w w1 := by rw [hw1]; exact ((Upd.refl _ w).alloc _).alloc _
  obtain ⟨a0, a1, a2, a3, a4⟩ := cells5_of (show w1.heap[b]? = some (.cells #[.int .i64 x.sub, .int .i64 x.att, .int .i64 x.ser, .bool x.opn, .slice x.na x.names.length x.nc] 72 (0, 0)) by rw [hw1, hb]; exact (alloc_lt (by simp)).trans (alloc_at rfl))
  obtain ⟨c0, c1, c2, c3, c4⟩ := cells5_of (show w1.heap[b + 1]? = some (.cells #[.int .i64 0, .int .i64 0, .int .i64 0, .bool false, .slice none 0 0] 72 (0, 0)) by rw [hw1, hb]; exact alloc_at (by simp))
  have HU := Lib.hid hu1
  have HZ := Lib.hid (show zeroS x = (decide (x.sub = 0) && decide (x.att = 0) && decide (x.ser = 0) && !x.opn && decide (x.names.length = 0)) from rfl)
  obtain ⟨zs, hzs⟩ : ∃ zs, zs = zeroS x := ⟨_, rfl⟩
  rw [← hzs] at HZ ⊢
  clear hu1 hzs
  have HE := Lib.hid (eqNm0_any (na := x.na) (n := x.names.length) (nc := x.nc) w1)
  obtain ⟨op, hop⟩ : ∃ op, op = x.opn := ⟨_, rfl⟩
  rw [← hop] at a3 hw1 HZ ⊢
  clear hop
  go_enter Tryz.func240, Tryz.ntmps240
  go_upto_region 1 with fail
  rw [← hw1, ← hb]
  clear hw1 hb
  by_cases h1 : x.sub = 0
  · by_cases h2 : x.att = 0
    · by_cases h3 : x.ser = 0
      · cases op
        · go_wp2_with (go_at_call 305; fail)
          (with_reducible refine HE.out.mono ?_)
          rintro _ w2 ⟨rfl, hu2⟩
          have HU2 := Lib.hid (HU.out.trans hu2)
          clear hu2 HE
          simp only []
          go_wp2
          go_ret
          exact ⟨ret_bool (by rw [HZ.out]; simp [h1, h2, h3]), HU2.out⟩
        · go_wp2
          go_ret
          exact ⟨ret_bool (by rw [HZ.out]; simp), HU.out⟩
      · go_wp2
        go_ret
        exact ⟨ret_bool (by rw [HZ.out]; simp [h3]), HU.out⟩
    · go_wp2
      go_ret
      exact ⟨ret_bool (by rw [HZ.out]; simp [h2]), HU.out⟩
  · go_wp2
    go_ret
    exact ⟨ret_bool (by rw [HZ.out]; simp [h1]), HU.out⟩
theorem zerosink_any (x : SkV) (w : World) : Calls Tryz.prog 165 #[.agg #[.int .i64 x.sub, .int .i64 x.att, .int .i64 x.ser, .bool x.opn, .slice x.na x.names.length x.nc]] w fun e w' => e = .returned (.bool (zeroS x)) ∧ Upd0 w w' := by
  obtain ⟨w1, hw1⟩ : ∃ w1, w1 = w.alloc (.cells #[.int .i64 x.sub, .int .i64 x.att, .int .i64 x.ser, .bool x.opn, .slice x.na x.names.length x.nc] 72) := ⟨_, rfl⟩
  have hu1 : Upd0 w w1 := by rw [hw1]; exact (Upd.refl _ w).alloc _
  obtain ⟨a0, a1, a2, a3, a4⟩ := cells5_of (show w1.heap[w.heap.size]? = some (.cells #[.int .i64 x.sub, .int .i64 x.att, .int .i64 x.ser, .bool x.opn, .slice x.na x.names.length x.nc] 72 (0, 0)) by rw [hw1]; exact alloc_at rfl)
  have HU := Lib.hid hu1
  clear hu1
  have HE := Lib.hid (ssame0_any x w1)
  go_enter Tryz.func165, Tryz.ntmps165
  go_wp2_with (go_at_call 240; fail)
  rw [← hw1]
  clear hw1
  (with_reducible refine HE.out.mono ?_)
  rintro _ w2 ⟨rfl, hu2⟩
  have HU2 := Lib.hid (HU.out.trans hu2)
  clear hu2 HE
  simp only []
  go_wp2
  go_ret
  exact ⟨rfl, HU2.out⟩
end Go.Proofs.YtbonfdkgkcbkmaaGreat
end

section
namespace Go.Proofs.YtbonfdkgkcbkmaaGreat
set_option maxRecDepth 100000
open Go.RowKit Go.Shelf

attribute [local go_sem] Oper.semAt_some
/-- A task. -/
structure TkV where
  oa : Option Addr
  oc : Nat
  os : List OpM
  sub : Int
  att : Int
  inp : InM
  offs : List Int
  qa : Option Addr
  qc : Nat
  qs : List QuV
  num : Nat
  gd : Nat
  ta : Option Addr
  tc : Nat
  rows : List KcV
  snk : SkV
  done : Nat
  fin : Bool
def TkV.cells (t : TkV) : List Value := [.slice t.oa t.os.length t.oc, .int .i64 t.sub, .int .i64 t.att, .int .i64 t.inp.src, .slice t.inp.ra t.inp.recs.length t.inp.rc] ++ t.offs.map I ++ [.slice t.qa t.qs.length t.qc, .int .u64 t.num, .int .u64 t.gd, .slice t.ta t.rows.length t.tc, .int .i64 t.snk.sub, .int .i64 t.snk.att, .int .i64 t.snk.ser, .bool t.snk.opn, .slice t.snk.na t.snk.names.length t.snk.nc, .int .u64 t.done, .bool t.fin]
/-- What a task leads to, but its queues. -/
structure TkIn (w : World) (t : TkV) : Prop where
  ops : OpsIn w t.oa t.os
  ol : t.os.length ≤ 50
  oc1 : t.os.length ≤ t.oc
  oc2 : t.oc ≤ maxLen
  recs : RecsIn w t.inp.ra t.inp.recs
  rl : t.inp.recs.length ≤ 140737488351232
  o8 : t.offs.length = 8
  rows : KcsIn w t.ta t.rows
  tl : t.rows.length ≤ 1000000
  names : NmsIn w t.snk.na t.snk.names
  nl : t.snk.names.length ≤ 1000000
theorem TkIn.kept {w w' : World} {t : TkV} (h : TkIn w t) (hu : Upd0 w w') : TkIn w' t := ⟨h.ops.kept hu, h.ol, h.oc1, h.oc2, h.recs.kept hu, h.rl, h.o8, h.rows.kept hu, h.tl, h.names.kept hu, h.nl⟩
theorem TkV.lit {t : TkV} {o0 o1 o2 o3 o4 o5 o6 o7 : Int} (h : (t.offs.map I).toArray = #[.int .i64 o0, .int .i64 o1, .int .i64 o2, .int .i64 o3, .int .i64 o4, .int .i64 o5, .int .i64 o6, .int .i64 o7]) :
    t.cells.toArray = #[.slice t.oa t.os.length t.oc, .int .i64 t.sub, .int .i64 t.att, .int .i64 t.inp.src, .slice t.inp.ra t.inp.recs.length t.inp.rc, .int .i64 o0, .int .i64 o1, .int .i64 o2, .int .i64 o3, .int .i64 o4, .int .i64 o5, .int .i64 o6, .int .i64 o7, .slice t.qa t.qs.length t.qc, .int .u64 t.num, .int .u64 t.gd, .slice t.ta t.rows.length t.tc, .int .i64 t.snk.sub, .int .i64 t.snk.att, .int .i64 t.snk.ser, .bool t.snk.opn, .slice t.snk.na t.snk.names.length t.snk.nc, .int .u64 t.done, .bool t.fin] := by
  have h2 : t.offs.map I = [.int .i64 o0, .int .i64 o1, .int .i64 o2, .int .i64 o3, .int .i64 o4, .int .i64 o5, .int .i64 o6, .int .i64 o7] := by
    have := congrArg Array.toList h
    simpa using this
  simp [TkV.cells, h2]
theorem cells24_of {w : World} {b : Nat} {x0 x1 x2 x3 x4 x5 x6 x7 x8 x9 x10 x11 x12 x13 x14 x15 x16 x17 x18 x19 x20 x21 x22 x23 : Value} {t : TypeId} (h : w.heap[b]? = some (.cells #[x0, x1, x2, x3, x4, x5, x6, x7, x8, x9, x10, x11, x12, x13, x14, x15, x16, x17, x18, x19, x20, x21, x22, x23] t (0, 0))) :
    w.cell? ⟨b, 0, none⟩ = some x0 ∧ w.cell? ⟨b, 1, none⟩ = some x1 ∧ w.cell? ⟨b, 2, none⟩ = some x2 ∧ w.cell? ⟨b, 3, none⟩ = some x3 ∧ w.cell? ⟨b, 4, none⟩ = some x4 ∧ w.cell? ⟨b, 5, none⟩ = some x5 ∧ w.cell? ⟨b, 6, none⟩ = some x6 ∧ w.cell? ⟨b, 7, none⟩ = some x7 ∧ w.cell? ⟨b, 8, none⟩ = some x8 ∧ w.cell? ⟨b, 9, none⟩ = some x9 ∧ w.cell? ⟨b, 10, none⟩ = some x10 ∧ w.cell? ⟨b, 11, none⟩ = some x11 ∧ w.cell? ⟨b, 12, none⟩ = some x12 ∧ w.cell? ⟨b, 13, none⟩ = some x13 ∧ w.cell? ⟨b, 14, none⟩ = some x14 ∧ w.cell? ⟨b, 15, none⟩ = some x15 ∧ w.cell? ⟨b, 16, none⟩ = some x16 ∧ w.cell? ⟨b, 17, none⟩ = some x17 ∧ w.cell? ⟨b, 18, none⟩ = some x18 ∧ w.cell? ⟨b, 19, none⟩ = some x19 ∧ w.cell? ⟨b, 20, none⟩ = some x20 ∧ w.cell? ⟨b, 21, none⟩ = some x21 ∧ w.cell? ⟨b, 22, none⟩ = some x22 ∧ w.cell? ⟨b, 23, none⟩ = some x23 := by simp [World.cell?, h]
theorem setCells_midd {p : Nat} {t : TypeId} : ∀ (vs : List Value) (o : Nat) (w : World) (old : Array Value), w.heap[p]? = some (.cells old t (0, 0)) → o + vs.length ≤ old.size →
    ∃ new, (w.setCells p o vs).heap[p]? = some (.cells new t (0, 0)) ∧ new.size = old.size ∧ (∀ j, j < o → new[j]? = old[j]?) ∧ (∀ j, j < vs.length → new[o + j]? = vs[j]?) ∧ (∀ j, o + vs.length ≤ j → new[j]? = old[j]?)
  | [], o, w, old, h, hl => ⟨old, h, rfl, fun _ _ => rfl, fun j hj => by simp at hj, fun _ _ => rfl⟩
  | v :: r, o, w, old, h, hl => by
    have h1 := blk_set (i := o) (v := v) h
    simp only [List.length_cons] at hl
    obtain ⟨new, n1, n2, n3, n4, n5⟩ := setCells_midd r (o + 1) (w.setCell ⟨p, o, none⟩ v) _ h1 (by simp; omega)
    refine ⟨new, n1, by rw [n2]; simp, fun j hj => ?_, fun j hj => ?_, fun j hj => ?_⟩
    · rw [n3 j (by omega), Array.getElem?_setIfInBounds, if_neg (by omega)]
    · cases j with
      | zero =>
        rw [Nat.add_zero, n3 o (by omega), Array.getElem?_setIfInBounds, if_pos rfl, if_pos (by omega)]
        rfl
      | succ j =>
        have := n4 j (by simp only [List.length_cons] at hj; omega)
        rw [show o + (j + 1) = o + 1 + j by omega, this]
        rfl
    · simp only [List.length_cons] at hj
      rw [n5 j (by omega), Array.getElem?_setIfInBounds, if_neg (by omega)]
theorem setCells_all {w : World} {p : Nat} {old : Array Value} {t : TypeId} (h : w.heap[p]? = some (.cells old t (0, 0))) {vs : List Value} (hl : vs.length = old.size) : (w.setCells p 0 vs).heap[p]? = some (.cells vs.toArray t (0, 0)) := by
  obtain ⟨new, n1, n2, n3, n4, n5⟩ := setCells_midd vs 0 w old h (by omega)
  rw [n1]
  have e : new = vs.toArray := by
    apply Array.ext_getElem?
    intro j
    by_cases hj : j < vs.length
    · have := n4 j hj
      rw [Nat.zero_add] at this
      rw [this]; simp
    · rw [Array.getElem?_eq_none (by omega), Array.getElem?_eq_none (by simp; omega)]
  rw [e]
theorem results_cct {P : Program} {fn : Func} {ts : Array Value} {w : World} {a u x : Nat} {t t2 : TypeId} {p q : Addr} {v v2 : Value} (hr : fn.results = #[.cell a t, .cell u t2, .tmp x]) (ha : ts.getD a undef = .pointer (some p)) (hl : (loadVar t p).run P w = .ok v w) (hb : ts.getD u undef = .pointer (some q)) (hl2 : (loadVar t2 q).run P w = .ok v2 w) :
    (Go.results fn ts).run P w = .ok (.tuple #[v, v2, ts.getD x undef]) w := by
  unfold Go.results
  rw [hr]
  have ha' : ts[a]?.getD undef = .pointer (some p) := by simpa using ha
  have hb' : ts[u]?.getD undef = .pointer (some q) := by simpa using hb
  simp [asAddr, ha', hl, hb', hl2]
theorem sizeOp : (Tryz.prog.info? 89).map (·.size) = some 5 := by kernel_rfl
theorem loadOp {W : World} {q : Nat} {u v x y z : Value} (h : W.heap[q]? = some (.cells #[u, v, x, y, z] 89 (0, 0))) : (loadVar 89 ⟨q, 0, none⟩).run Tryz.prog W = .ok (.agg #[u, v, x, y, z]) W :=
  run_loadVar_mid (P := Tryz.prog) _ q 0 89 [_, _, _, _, _] _ (rangeAt_block h) Tryz.underlying89 rfl sizeOp
def zeroOp : OpM := ⟨0, 0, none, 0, [], 0, 0⟩
theorem OwnS.blk {w : World} {B sb sf c : Nat} {l : List (Int × Int)} (h : w.ownsRow B 124 2 (.slice (some ⟨sb, sf, none⟩) l.length c) l.length (l.map subC).flatten) : (Value.slice (some ⟨sb, sf, none⟩) l.length c).ownBlock = some sb := by
  rcases h.2 with ⟨h1, _⟩ | ⟨g, cap, cur, h1, _⟩
  · cases h1
  · injection h1 with e1
    injection e1 with e1
    injection e1 with e1 e2
    subst e1
    rfl
/-- A task's operator, and which subtask of it the task is. -/
def selfR (t : TkV) : OpM × (Int × Int) × Bool := if (chkG t.os).2 ≠ 0 ∨ t.sub < 0 then (zeroOp, (0, 0), false) else match (subsL t.os)[t.sub.toNat]? with
  | none => (zeroOp, (0, 0), false)
  | some x => match t.os[x.1.toNat]? with
    | none => (zeroOp, (0, 0), false)
    | some o => (o, x, true)
set_option maxHeartbeats 16000000 in
theorem self_any (t : TkV) (w : World) (h : TkIn w t) : Calls Tryz.prog 83 #[.agg t.cells.toArray] w fun e w' => e = .returned (.tuple #[.agg #[.int .i64 (selfR t).1.tag, .int .i64 (selfR t).1.width, .slice (selfR t).1.ia (selfR t).1.ins.length (selfR t).1.ic, .int .i64 (selfR t).1.a, .int .i64 (selfR t).1.b], .agg #[.int .i64 (selfR t).2.1.1, .int .i64 (selfR t).2.1.2], .bool (selfR t).2.2]) ∧ Upd0 w w' := by
  obtain ⟨o0, o1, o2, o3, o4, o5, o6, o7, hmap⟩ := eight h.o8
  rw [TkV.lit hmap]
  obtain ⟨b, hb⟩ : ∃ b, b = w.heap.size := ⟨_, rfl⟩
  obtain ⟨w1, hw1⟩ : ∃ w1, w1 = ((w.alloc (.cells #[.slice t.oa t.os.length t.oc, .int .i64 t.sub, .int .i64 t.att, .int .i64 t.inp.src, .slice t.inp.ra t.inp.recs.length t.inp.rc, .int .i64 o0, .int .i64 o1, .int .i64 o2, .int .i64 o3, .int .i64 o4, .int .i64 o5, .int .i64 o6, .int .i64 o7, .slice t.qa t.qs.length t.qc, .int .u64 t.num, .int .u64 t.gd, .slice t.ta t.rows.length t.tc, .int .i64 t.snk.sub, .int .i64 t.snk.att, .int .i64 t.snk.ser, .bool t.snk.opn, .slice t.snk.na t.snk.names.length t.snk.nc, .int .u64 t.done, .bool t.fin] 74)).alloc (.cells #[.int .i64 0, .int .i64 0, .slice none 0 0, .int .i64 0, .int .i64 0] 89)).alloc (.cells #[.int .i64 0, .int .i64 0] 124) := ⟨_, rfl⟩
  have hu1 : Upd0 w w1 := by rw [hw1]; exact (((Upd.refl _ w).alloc _).alloc _).alloc _
  have HT := Lib.hid (show w1.heap[b]? = some (.cells #[.slice t.oa t.os.length t.oc, .int .i64 t.sub, .int .i64 t.att, .int .i64 t.inp.src, .slice t.inp.ra t.inp.recs.length t.inp.rc, .int .i64 o0, .int .i64 o1, .int .i64 o2, .int .i64 o3, .int .i64 o4, .int .i64 o5, .int .i64 o6, .int .i64 o7, .slice t.qa t.qs.length t.qc, .int .u64 t.num, .int .u64 t.gd, .slice t.ta t.rows.length t.tc, .int .i64 t.snk.sub, .int .i64 t.snk.att, .int .i64 t.snk.ser, .bool t.snk.opn, .slice t.snk.na t.snk.names.length t.snk.nc, .int .u64 t.done, .bool t.fin] 74 (0, 0)) by rw [hw1, hb]; exact (alloc_lt (by simp <;> omega)).trans ((alloc_lt (by simp)).trans (alloc_at rfl)))
  have HP := Lib.hid (show w1.heap[b + 1]? = some (.cells #[.int .i64 0, .int .i64 0, .slice none 0 0, .int .i64 0, .int .i64 0] 89 (0, 0)) by rw [hw1, hb]; exact (alloc_lt (by simp)).trans (alloc_at (by simp)))
  have HS := Lib.hid (show w1.heap[b + 2]? = some (.cells #[.int .i64 0, .int .i64 0] 124 (0, 0)) by rw [hw1, hb]; exact alloc_at (by simp))
  have HU := Lib.hid hu1; have HB := Lib.hid hb
  have HSU := Lib.hid (subsx_any (oc := t.oc) w1 (h.ops.kept hu1) h.ol h.oc1 h.oc2)
  have HLO := Lib.hid (fun (i : Nat) (o : OpM) (hi : t.os[i]? = some o) (q qf : Nat) (e : t.oa = some ⟨q, qf, none⟩) => show q < w.heap.size by
    obtain ⟨⟨q2, qf2, e2, d0, _⟩, _⟩ := h.ops.at hi
    rw [e] at e2
    injection e2 with e2
    injection e2 with e3 e4
    subst e3
    exact lt_of_cell d0)
  have HZ1 := Lib.hid (show w1.heap.size = b + 3 by rw [hw1, hb]; simp)
  have HO := Lib.hid (h.ops.kept hu1); have HOL := Lib.hid h.ol
  have HR := Lib.hid (selfR.eq_1 t)
  obtain ⟨sr, hsr⟩ : ∃ sr, sr = selfR t := ⟨_, rfl⟩
  rw [← hsr] at HR ⊢
  have HMEM := Lib.hid (fun (x : Int × Int) (hx : x ∈ subsL t.os) => subsL_mem hx)
  have HSR := Lib.hid (fun (e : (chkG t.os).2 = 0) => show SubsR t.os = subsL t.os by simp [SubsR, e])
  have HLE := Lib.hid (fun (e : (chkG t.os).2 = 0) => show (subsL t.os).length ≤ 50000 by have := subsF_le t.os 0 (fun o ho => by have := chkG_wide e o ho; omega); have := h.ol; unfold subsL; omega)
  obtain ⟨ss, hss⟩ : ∃ ss, ss = SubsR t.os := ⟨_, rfl⟩
  rw [← hss] at HSU HSR
  obtain ⟨sl, hsl⟩ : ∃ sl, sl = subsL t.os := ⟨_, rfl⟩
  rw [← hsl] at HR HMEM HSR HLE
  obtain ⟨ck, hck⟩ : ∃ ck, ck = (chkG t.os).2 := ⟨_, rfl⟩
  rw [← hck] at HSU HSR HR HLE
  obtain ⟨x0, x1, -⟩ := cells24_of HT.out
  have HF := Lib.hid (fun (W : World) (hP : W.heap[b + 1]? = some (.cells #[.int .i64 0, .int .i64 0, .slice none 0 0, .int .i64 0, .int .i64 0] 89 (0, 0))) (hS : W.heap[b + 2]? = some (.cells #[.int .i64 0, .int .i64 0] 124 (0, 0))) (v0 v1 v2 v3 v4 u0 u1 : Value) =>
    show (((((((W.setCell ⟨b + 1, 0, none⟩ v0).setCell ⟨b + 1, 1, none⟩ v1).setCell ⟨b + 1, 2, none⟩ v2).setCell ⟨b + 1, 3, none⟩ v3).setCell ⟨b + 1, 4, none⟩ v4).setCell ⟨b + 2, 0, none⟩ u0).setCell ⟨b + 2, 1, none⟩ u1).heap[b + 1]? = some (.cells #[v0, v1, v2, v3, v4] 89 (0, 0)) ∧ (((((((W.setCell ⟨b + 1, 0, none⟩ v0).setCell ⟨b + 1, 1, none⟩ v1).setCell ⟨b + 1, 2, none⟩ v2).setCell ⟨b + 1, 3, none⟩ v3).setCell ⟨b + 1, 4, none⟩ v4).setCell ⟨b + 2, 0, none⟩ u0).setCell ⟨b + 2, 1, none⟩ u1).heap[b + 2]? = some (.cells #[u0, u1] 124 (0, 0)) ∧ Upd (fun q => q = b + 1 ∨ q = b + 2) W (((((((W.setCell ⟨b + 1, 0, none⟩ v0).setCell ⟨b + 1, 1, none⟩ v1).setCell ⟨b + 1, 2, none⟩ v2).setCell ⟨b + 1, 3, none⟩ v3).setCell ⟨b + 1, 4, none⟩ v4).setCell ⟨b + 2, 0, none⟩ u0).setCell ⟨b + 2, 1, none⟩ u1) by
      have q1 := upd_setCells W (b + 1) 0 [v0, v1, v2, v3, v4]
      have q2 := upd_setCells (W.setCells (b + 1) 0 [v0, v1, v2, v3, v4]) (b + 2) 0 [u0, u1]
      have p1 := setCells_all hP (vs := [v0, v1, v2, v3, v4]) rfl
      have p2 := (q1.block (b + 2) (lt_of_heap hS) (by omega)).trans hS
      have h3 := And.intro ((q2.block (b + 1) (lt_of_heap p1) (by omega)).trans p1) (And.intro (setCells_all p2 (vs := [u0, u1]) rfl) ((q1.mono (G := fun q => q = b + 1 ∨ q = b + 2) (fun _ _ e => .inl e)).trans (q2.mono (fun _ _ e => .inr e))))
      simp only [World.setCells, Nat.zero_add, Nat.reduceAdd] at h3
      exact h3)
  clear h hmap hu1 hsr hss hsl hck
  go_enter Tryz.func83, Tryz.ntmps83
  go_wp2_with (go_at_call 155; fail)
  rw [← hw1, ← hb]
  clear hw1 hb
  try simp only [Nat.add_assoc, Nat.reduceAdd]
  (with_reducible refine HSU.out.mono ?_)
  rintro _ w2 ⟨a2, c2, rfl, ho2, hu2⟩
  have HU2 := Lib.hid (HU.out.trans hu2)
  have HT2 := Lib.hid ((hu2.block _ (lt_of_heap HT.out) (fun e => e)).trans HT.out)
  have HP2 := Lib.hid ((hu2.block _ (lt_of_heap HP.out) (fun e => e)).trans HP.out)
  have HS2 := Lib.hid ((hu2.block _ (lt_of_heap HS.out) (fun e => e)).trans HS.out)
  have HO2 := Lib.hid (HO.out.kept hu2)
  have HW2 := Lib.hid ho2
  clear ho2 hu2 HSU x0 x1 HT HP HS HO
  obtain ⟨x0, x1, -⟩ := cells24_of HT2.out
  obtain ⟨p0, p1, p2, p3, p4⟩ := cells5_of HP2.out
  obtain ⟨s0, s1⟩ := cells2_of HS2.out
  have fp : ∀ j, w2.frozen? ⟨b + 1, j, none⟩ = false := fun j => frozen_of_heap HP2.out
  have fs : ∀ j, w2.frozen? ⟨b + 2, j, none⟩ = false := fun j => frozen_of_heap HS2.out
  have fp0 := fp 0; have fp1 := fp 1; have fp2 := fp 2; have fp3 := fp 3; have fp4 := fp 4; have fs0 := fs 0; have fs1 := fs 1
  clear fp fs
  simp only []
  by_cases he : ck = 0
  · subst he
    have hss := HSR.out rfl
    subst hss
    have hle := HLE.out rfl
    clear HSR HLE
    by_cases hn : t.sub < 0
    · rw [if_pos (.inr hn)] at HR
      go_wp2
      obtain ⟨g1, g2, g3⟩ := HF.out w2 HP2.out HS2.out (.int .i64 0) (.int .i64 0) (.slice none 0 0) (.int .i64 0) (.int .i64 0) (.int .i64 0) (.int .i64 0)
      refine bodyPost_ret (results_cct (fn := Tryz.f83) rfl rfl (loadOp g1) rfl (loadSub g2)) rfl ⟨?_, HU2.out.cut g3 (fun q hq => by have := HB.out; omega)⟩
      rw [HR.out]; rfl
    · rw [if_neg (by omega)] at HR
      obtain ⟨n, hnn⟩ : ∃ n : Nat, t.sub = n := ⟨t.sub.toNat, by omega⟩
      rw [hnn] at HR x1 HT2
      rw [show ((n : Nat) : Int).toNat = n from rfl] at HR
      by_cases hnl : n < ss.length
      · obtain ⟨x, hx⟩ : ∃ x, ss[n]? = some x := ⟨_, List.getElem?_eq_getElem hnl⟩
        obtain ⟨i, k, o, hi, rfl, _⟩ := HMEM.out x (List.mem_of_getElem? hx)
        rw [hx] at HR
        simp only at HR
        rw [show ((i : Nat) : Int).toNat = i from rfl, hi] at HR
        obtain ⟨q, qf, hoa, -⟩ := (HO2.out.at hi).1
        have HOA := Lib.hid hoa
        obtain ⟨sb, sf, rfl, r0, r1⟩ := subAt (OwnS.in' HW2.out) hx
        have hil := (List.getElem?_eq_some_iff.1 hi).1
        have hilI : (i : Int) < t.os.length := by omega
        have hnlI : (n : Int) < ss.length := by omega
        have hqw := HLO.out i o hi q qf hoa
        have hsb := (World.ownsRow.lt HW2.out sb (OwnS.blk HW2.out)).1
        have HNE := Lib.hid (show q ≠ b + 1 ∧ sb ≠ b + 1 by have := HB.out; have := HU.out.size; have := HZ1.out; exact ⟨by omega, by omega⟩)
        obtain ⟨⟨q2, qf2, e2, d0, d1, d2, d3, d4⟩, _⟩ := HO2.out.at hi
        rw [hoa] at e2
        injection e2 with e2
        injection e2 with e3 e4
        subst e3 e4
        have HC := Lib.hid (And.intro r0 (And.intro r1 (And.intro d0 (And.intro d1 (And.intro d2 (And.intro d3 d4))))))
        clear hi hx r0 r1 d0 d1 d2 d3 d4 hqw hsb hn hnn p0 p1 p2 p3 p4 s0 s1 fp0 fp1 fp2 fp3 fp4 fs0 fs1
        go_upto_region 4 with fail
        have hA : Upd (fun q => q = b + 1) w2 w2.drew := (Upd.refl _ _).drew
        have HPw := Lib.hid (show w2.drew.heap[b + 1]? = some (.cells #[.int .i64 0, .int .i64 0, .slice none 0 0, .int .i64 0, .int .i64 0] 89 (0, 0)) from HP2.out)
        have HSw := Lib.hid (show w2.drew.heap[b + 2]? = some (.cells #[.int .i64 0, .int .i64 0] 124 (0, 0)) from HS2.out)
        refine wp_region_G 17 (fun W => Upd (fun q => q = b + 1) w2 W) [false, false, false, false, false, false, false, false, false, false, false, false, false, false, false, false, false, false, false] rfl (by kernel_rfl) ?_
        generalize w2.drew = we at hA HPw HSw ⊢
        refine wpG_takeT (i := 0) (v := .pointer (some ⟨b, 0, none⟩)) rfl (fun L hc h => (hc.waits (n := 17) (i := 0) (by kernel_rfl) h)) (by kernel_rfl) (fun _ _ _ h => h) hA (.inl ⟨rfl, fun w5 q1 => ?_⟩) ?_
        · go_simp
        simp only [Act.put, List.setIfInBounds_toArray, List.set]
        refine wpG_takeT (i := 1) (v := .pointer (some ⟨b, 0, none⟩)) rfl (fun L hc h => (hc.waits (n := 17) (i := 1) (by kernel_rfl) h)) (by kernel_rfl) (fun _ _ _ h => h) hA (.inl ⟨rfl, fun w5 q1 => ?_⟩) ?_
        · go_simp
        simp only [Act.put, List.setIfInBounds_toArray, List.set]
        refine wpG_takeT (i := 2) (v := .slice (some ⟨q, qf, none⟩) t.os.length t.oc) rfl (fun L hc h => (hc.waits (n := 17) (i := 2) (by kernel_rfl) h)) (by kernel_rfl) (fun _ _ _ h => h) hA (.inl ⟨rfl, fun w5 q1 => ?_⟩) ?_
        · obtain ⟨x0, x1, -⟩ := cells24_of ((q1.block b (lt_of_heap HT2.out) (by omega)).trans HT2.out)
          have hoa := HOA.out
          go_simp
        simp only [Act.put, List.setIfInBounds_toArray, List.set]
        refine wpG_takeT (i := 3) (v := .slice (some ⟨sb, sf, none⟩) ss.length c2) rfl (fun L hc h => (hc.waits (n := 17) (i := 3) (by kernel_rfl) h)) (by kernel_rfl) (fun _ _ _ h => h) hA (.inl ⟨rfl, fun w5 q1 => ?_⟩) ?_
        · go_simp
        simp only [Act.put, List.setIfInBounds_toArray, List.set]
        refine wpG_takeT (i := 4) (v := .pointer (some ⟨b, 1, none⟩)) rfl (fun L hc h => (hc.waits (n := 17) (i := 4) (by kernel_rfl) h)) (by kernel_rfl) (fun _ _ _ h => h) hA (.inl ⟨rfl, fun w5 q1 => ?_⟩) ?_
        · go_simp
        simp only [Act.put, List.setIfInBounds_toArray, List.set]
        refine wpG_takeT (i := 5) (v := .int .i64 n) rfl (fun L hc h => (hc.waits (n := 17) (i := 5) (by kernel_rfl) h)) (by kernel_rfl) (fun _ _ _ h => h) hA (.inl ⟨rfl, fun w5 q1 => ?_⟩) ?_
        · obtain ⟨x0, x1, -⟩ := cells24_of ((q1.block b (lt_of_heap HT2.out) (by omega)).trans HT2.out)
          go_simp
        simp only [Act.put, List.setIfInBounds_toArray, List.set]
        refine wpG_takeT (i := 6) (v := .pointer (some ⟨sb, sf + n * 2, none⟩)) rfl (fun L hc h => (hc.waits (n := 17) (i := 6) (by kernel_rfl) h)) (by kernel_rfl) (fun _ _ _ h => h) hA (.inl ⟨rfl, fun w5 q1 => ?_⟩) ?_
        · go_simp
        simp only [Act.put, List.setIfInBounds_toArray, List.set]
        refine wpG_takeT (i := 7) (v := .pointer (some ⟨sb, sf + n * 2, none⟩)) rfl (fun L hc h => (hc.waits (n := 17) (i := 7) (by kernel_rfl) h)) (by kernel_rfl) (fun _ _ _ h => h) hA (.inl ⟨rfl, fun w5 q1 => ?_⟩) ?_
        · go_simp
        simp only [Act.put, List.setIfInBounds_toArray, List.set]
        refine wpG_takeT (i := 8) (v := .int .i64 i) rfl (fun L hc h => (hc.waits (n := 17) (i := 8) (by kernel_rfl) h)) (by kernel_rfl) (fun _ _ _ h => h) hA (.inl ⟨rfl, fun w5 q1 => ?_⟩) ?_
        · obtain ⟨r0, r1, -⟩ := HC.out
          have r0 := cell_keptF q1 HNE.out.2 r0
          have r1 := cell_keptF q1 HNE.out.2 r1
          go_simp
        simp only [Act.put, List.setIfInBounds_toArray, List.set]
        refine wpG_takeT (i := 9) (v := .pointer (some ⟨q, qf + i * 5, none⟩)) rfl (fun L hc h => (hc.waits (n := 17) (i := 9) (by kernel_rfl) h)) (by kernel_rfl) (fun _ _ _ h => h) hA (.inl ⟨rfl, fun w5 q1 => ?_⟩) ?_
        · go_simp
        simp only [Act.put, List.setIfInBounds_toArray, List.set]
        refine wpG_takeT (i := 10) (v := .agg #[.int .i64 o.tag, .int .i64 o.width, .slice o.ia o.ins.length o.ic, .int .i64 o.a, .int .i64 o.b]) rfl (fun L hc h => (hc.waits (n := 17) (i := 10) (by kernel_rfl) h)) (by kernel_rfl) (fun _ _ _ h => h) hA (.inl ⟨rfl, fun w5 q1 => ?_⟩) ?_
        · obtain ⟨-, -, d0, d1, d2, d3, d4⟩ := HC.out
          have d0 := cell_keptF q1 HNE.out.1 d0
          have d1 := cell_keptF q1 HNE.out.1 d1
          have d2 := cell_keptF q1 HNE.out.1 d2
          have d3 := cell_keptF q1 HNE.out.1 d3
          have d4 := cell_keptF q1 HNE.out.1 d4
          go_simp
        simp only [Act.put, List.setIfInBounds_toArray, List.set]
        refine wpG_takeT (i := 11) (v := .slice (some ⟨sb, sf, none⟩) ss.length c2) rfl (fun L hc h => (hc.waits (n := 17) (i := 11) (by kernel_rfl) h)) (by kernel_rfl) (fun _ _ _ h => h) hA (.inl ⟨rfl, fun w5 q1 => ?_⟩) ?_
        · go_simp
        simp only [Act.put, List.setIfInBounds_toArray, List.set]
        refine wpG_takeT (i := 12) (v := .pointer (some ⟨b, 1, none⟩)) rfl (fun L hc h => (hc.waits (n := 17) (i := 12) (by kernel_rfl) h)) (by kernel_rfl) (fun _ _ _ h => h) hA (.inl ⟨rfl, fun w5 q1 => ?_⟩) ?_
        · go_simp
        simp only [Act.put, List.setIfInBounds_toArray, List.set]
        refine wpG_takeT (i := 13) (v := .int .i64 n) rfl (fun L hc h => (hc.waits (n := 17) (i := 13) (by kernel_rfl) h)) (by kernel_rfl) (fun _ _ _ h => h) hA (.inl ⟨rfl, fun w5 q1 => ?_⟩) ?_
        · obtain ⟨x0, x1, -⟩ := cells24_of ((q1.block b (lt_of_heap HT2.out) (by omega)).trans HT2.out)
          go_simp
        simp only [Act.put, List.setIfInBounds_toArray, List.set]
        refine wpG_takeT (i := 14) (v := .pointer (some ⟨sb, sf + n * 2, none⟩)) rfl (fun L hc h => (hc.waits (n := 17) (i := 14) (by kernel_rfl) h)) (by kernel_rfl) (fun _ _ _ h => h) hA (.inl ⟨rfl, fun w5 q1 => ?_⟩) ?_
        · go_simp
        simp only [Act.put, List.setIfInBounds_toArray, List.set]
        refine wpG_takeT (i := 15) (v := .agg #[.int .i64 i, .int .i64 k]) rfl (fun L hc h => (hc.waits (n := 17) (i := 15) (by kernel_rfl) h)) (by kernel_rfl) (fun _ _ _ h => h) hA (.inl ⟨rfl, fun w5 q1 => ?_⟩) ?_
        · obtain ⟨r0, r1, -⟩ := HC.out
          have r0 := cell_keptF q1 HNE.out.2 r0
          have r1 := cell_keptF q1 HNE.out.2 r1
          go_simp
        simp only [Act.put, List.setIfInBounds_toArray, List.set]
        refine wpG_doIf (i := 16) rfl (by kernel_rfl) rfl (fun K hK => ?_)
        have HKK := Lib.hid hK
        clear hK
        have HPd := Lib.hid (show we.heap[b + 1]? = some (.cells #[.int .i64 0, .int .i64 0, .slice none 0 0, .int .i64 0, .int .i64 0] 89 (0, 0)) from HPw.out)
        refine wp_store_mid 89 (.tmp 2) (.tmp 39) rfl (b + 1) 0 #[.int .i64 o.tag, .int .i64 o.width, .slice o.ia o.ins.length o.ic, .int .i64 o.a, .int .i64 o.b] rfl rfl (by have q := there_block HPd.out; exact q) (by kernel_rfl) (by simp [Value.oneCell']) ?_
        have hA2 : Upd (fun q => q = b + 1) w2 (we.setCells (b + 1) 0 [.int .i64 o.tag, .int .i64 o.width, .slice o.ia o.ins.length o.ic, .int .i64 o.a, .int .i64 o.b]) := hA.trans (upd_setCells we (b + 1) 0 [.int .i64 o.tag, .int .i64 o.width, .slice o.ia o.ins.length o.ic, .int .i64 o.a, .int .i64 o.b])
        have HPx := Lib.hid (setCells_all HPd.out (vs := [.int .i64 o.tag, .int .i64 o.width, .slice o.ia o.ins.length o.ic, .int .i64 o.a, .int .i64 o.b]) rfl)
        have HSx := Lib.hid (((upd_setCells we (b + 1) 0 [.int .i64 o.tag, .int .i64 o.width, .slice o.ia o.ins.length o.ic, .int .i64 o.a, .int .i64 o.b]).block (b + 2) (lt_of_heap HSw.out) (by omega)).trans HSw.out)
        generalize (we.setCells (b + 1) 0 [.int .i64 o.tag, .int .i64 o.width, .slice o.ia o.ins.length o.ic, .int .i64 o.a, .int .i64 o.b]) = w5 at hA2 HPx HSx ⊢
        refine HKK.out _ _ hA2 ?_
        clear HKK
        simp only [Act.put, List.setIfInBounds_toArray, List.set]
        refine wpG_tail_lit (k := 17) rfl rfl (by kernel_rfl) ?_
        simp only [List.drop]
        have HPy := HPx.out
        have HSy := HSx.out
        obtain ⟨s0, s1⟩ := cells2_of HSy
        have fs0 : w5.frozen? ⟨b + 2, 0, none⟩ = false := frozen_of_heap HSy
        have fs1 : w5.frozen? ⟨b + 2, 1, none⟩ = false := frozen_of_heap HSy
        have HA2 := Lib.hid hA2
        clear hA hA2 HPw HSw HPx HSx HC HNE HOA HO2 HW2 HT2 x0 x1
        have hp2 := blk_set (i := 1) (v := .int .i64 k) (blk_set (i := 0) (v := .int .i64 i) HSy)
        have q2 := (upd_own w5 (b + 2) 0 (.int .i64 i)).trans (upd_own _ (b + 2) 1 (.int .i64 k))
        have HQ2 := Lib.hid q2
        have HPZ := Lib.hid ((q2.block (b + 1) (lt_of_heap HPy) (by omega)).trans HPy)
        have HSZ := Lib.hid (show ((w5.setCell ⟨b + 2, 0, none⟩ (.int .i64 i)).setCell ⟨b + 2, 1, none⟩ (.int .i64 k)).heap[b + 2]? = some (.cells #[.int .i64 i, .int .i64 k] 124 (0, 0)) by simpa using hp2)
        clear HPy HSy hp2 q2
        go_wp2
        refine bodyPost_ret (results_cct (fn := Tryz.f83) rfl rfl (loadOp HPZ.out) rfl (loadSub HSZ.out)) rfl ?_
        refine ⟨?_, (HU2.out.cut HA2.out (fun q hq => by have := HB.out; omega)).cut HQ2.out (fun q hq => by have := HB.out; omega)⟩
        rw [HR.out]; rfl
      · have hnlI : (ss.length : Int) ≤ n := by omega
        rw [List.getElem?_eq_none (by omega)] at HR
        go_wp2
        obtain ⟨g1, g2, g3⟩ := HF.out w2 HP2.out HS2.out (.int .i64 0) (.int .i64 0) (.slice none 0 0) (.int .i64 0) (.int .i64 0) (.int .i64 0) (.int .i64 0)
        refine bodyPost_ret (results_cct (fn := Tryz.f83) rfl rfl (loadOp g1) rfl (loadSub g2)) rfl ⟨?_, HU2.out.cut g3 (fun q hq => by have := HB.out; omega)⟩
        rw [HR.out]; rfl
  · rw [if_pos (.inl he)] at HR
    go_wp2
    obtain ⟨g1, g2, g3⟩ := HF.out w2 HP2.out HS2.out (.int .i64 0) (.int .i64 0) (.slice none 0 0) (.int .i64 0) (.int .i64 0) (.int .i64 0) (.int .i64 0)
    refine bodyPost_ret (results_cct (fn := Tryz.f83) rfl rfl (loadOp g1) rfl (loadSub g2)) rfl ⟨?_, HU2.out.cut g3 (fun q hq => by have := HB.out; omega)⟩
    rw [HR.out]; rfl
end Go.Proofs.YtbonfdkgkcbkmaaGreat
end

section
namespace Go.Proofs.YtbonfdkgkcbkmaaGreat
set_option maxRecDepth 100000
open Go.RowKit Go.Shelf

attribute [local go_sem] Oper.semAt_some
/-- A task's snapshot, its names in memory of its own. -/
def snapOf (t : TkV) (o : OpM) (s : Int × Int) (na : Option Addr) (nc : Nat) : SnV := ⟨s.1, s.2, o.width, t.fin, t.ta, t.tc, t.rows, t.offs, na, nc, t.snk.names⟩
theorem sizeSn : (Tryz.prog.info? 80).map (·.size) = some 14 := by kernel_rfl
theorem loadSn {W : World} {q : Nat} {l : List Value} (h : W.heap[q]? = some (.cells l.toArray 80 (0, 0))) (hl : l.length = 14) : (loadVar 80 ⟨q, 0, none⟩).run Tryz.prog W = .ok (.agg l.toArray) W :=
  run_loadVar_mid (P := Tryz.prog) _ q 0 80 l _ (rangeAt_block h) Tryz.underlying80 rfl (by rw [sizeSn, hl])
set_option maxHeartbeats 16000000 in
theorem snapshot_any (t : TkV) (o : OpM) (s : Int × Int) (w : World) (h : TkIn w t) : Calls Tryz.prog 104 #[.agg t.cells.toArray, .agg #[.int .i64 o.tag, .int .i64 o.width, .slice o.ia o.ins.length o.ic, .int .i64 o.a, .int .i64 o.b], .agg #[.int .i64 s.1, .int .i64 s.2]] w fun e w' => ∃ na nc, e = .returned (.agg (snapOf t o s na nc).cells.toArray) ∧ OwnNm w' w.heap.size (.slice na t.snk.names.length nc) t.snk.names ∧ Upd0 w w' := by
  obtain ⟨o0, o1, o2, o3, o4, o5, o6, o7, hmap⟩ := eight h.o8
  rw [TkV.lit hmap]
  obtain ⟨b, hb⟩ : ∃ b, b = w.heap.size := ⟨_, rfl⟩
  obtain ⟨w1, hw1⟩ : ∃ w1, w1 = (((w.alloc (.cells #[.slice t.oa t.os.length t.oc, .int .i64 t.sub, .int .i64 t.att, .int .i64 t.inp.src, .slice t.inp.ra t.inp.recs.length t.inp.rc, .int .i64 o0, .int .i64 o1, .int .i64 o2, .int .i64 o3, .int .i64 o4, .int .i64 o5, .int .i64 o6, .int .i64 o7, .slice t.qa t.qs.length t.qc, .int .u64 t.num, .int .u64 t.gd, .slice t.ta t.rows.length t.tc, .int .i64 t.snk.sub, .int .i64 t.snk.att, .int .i64 t.snk.ser, .bool t.snk.opn, .slice t.snk.na t.snk.names.length t.snk.nc, .int .u64 t.done, .bool t.fin] 74)).alloc (.cells #[.int .i64 o.tag, .int .i64 o.width, .slice o.ia o.ins.length o.ic, .int .i64 o.a, .int .i64 o.b] 89)).alloc (.cells #[.int .i64 s.1, .int .i64 s.2] 124)).alloc (.cells #[.int .i64 0, .int .i64 0, .int .i64 0, .bool false, .slice none 0 0, .int .i64 0, .int .i64 0, .int .i64 0, .int .i64 0, .int .i64 0, .int .i64 0, .int .i64 0, .int .i64 0, .slice none 0 0] 80) := ⟨_, rfl⟩
  have hu1 : Upd0 w w1 := by rw [hw1]; exact ((((Upd.refl _ w).alloc _).alloc _).alloc _).alloc _
  have HT := Lib.hid (show w1.heap[b]? = some (.cells #[.slice t.oa t.os.length t.oc, .int .i64 t.sub, .int .i64 t.att, .int .i64 t.inp.src, .slice t.inp.ra t.inp.recs.length t.inp.rc, .int .i64 o0, .int .i64 o1, .int .i64 o2, .int .i64 o3, .int .i64 o4, .int .i64 o5, .int .i64 o6, .int .i64 o7, .slice t.qa t.qs.length t.qc, .int .u64 t.num, .int .u64 t.gd, .slice t.ta t.rows.length t.tc, .int .i64 t.snk.sub, .int .i64 t.snk.att, .int .i64 t.snk.ser, .bool t.snk.opn, .slice t.snk.na t.snk.names.length t.snk.nc, .int .u64 t.done, .bool t.fin] 74 (0, 0)) by rw [hw1, hb]; exact (alloc_lt (by simp <;> omega)).trans ((alloc_lt (by simp <;> omega)).trans ((alloc_lt (by simp)).trans (alloc_at rfl))))
  have HP := Lib.hid (show w1.heap[b + 1]? = some (.cells #[.int .i64 o.tag, .int .i64 o.width, .slice o.ia o.ins.length o.ic, .int .i64 o.a, .int .i64 o.b] 89 (0, 0)) by rw [hw1, hb]; exact (alloc_lt (by simp <;> omega)).trans ((alloc_lt (by simp)).trans (alloc_at (by simp))))
  have HS := Lib.hid (show w1.heap[b + 2]? = some (.cells #[.int .i64 s.1, .int .i64 s.2] 124 (0, 0)) by rw [hw1, hb]; exact (alloc_lt (by simp)).trans (alloc_at (by simp)))
  have HZ := Lib.hid (show w1.heap[b + 3]? = some (.cells #[.int .i64 0, .int .i64 0, .int .i64 0, .bool false, .slice none 0 0, .int .i64 0, .int .i64 0, .int .i64 0, .int .i64 0, .int .i64 0, .int .i64 0, .int .i64 0, .int .i64 0, .slice none 0 0] 80 (0, 0)) by rw [hw1, hb]; exact alloc_at (by simp))
  have HU := Lib.hid hu1; have HB := Lib.hid hb; have HMAP := Lib.hid hmap
  have HCN := Lib.hid (fun (W : World) (hW : Upd0 w1 W) => cloneNm_any (c := t.snk.nc) W (h.names.kept (hu1.trans hW)) h.nl)
  have HLIT := Lib.hid (fun (na : Option Addr) (nc : Nat) => SnV.lit (s := snapOf t o s na nc) hmap)
  clear h hmap hu1
  go_enter Tryz.func104, Tryz.ntmps104
  go_upto_region 1 with fail
  rw [← hw1, ← hb]
  clear hw1 hb
  try simp only [Nat.add_assoc, Nat.reduceAdd]
  have hA : Upd0 w1 w1.drew := (Upd.refl _ _).drew
  refine wp_region_G 16 (fun W => Upd0 w1 W) [false, false, false, false, false, false, false, false, false, false, false, false, false, false, false, false, false, false] rfl (by kernel_rfl) ?_
  generalize w1.drew = we at hA ⊢
  refine wpG_takeT (i := 0) (v := .pointer (some ⟨b + 2, 0, none⟩)) rfl (fun L hc h => (hc.waits (n := 16) (i := 1) (by kernel_rfl) (hc.waits (n := 1) (i := 0) (by kernel_rfl) h))) (by kernel_rfl) (fun _ _ _ h => h) hA (.inl ⟨rfl, fun w5 q1 => ?_⟩) ?_
  · go_simp
  simp only [Act.put, List.setIfInBounds_toArray, List.set]
  refine wpG_takeT (i := 1) (v := .int .i64 s.1) rfl (fun L hc h => (hc.waits (n := 16) (i := 1) (by kernel_rfl) h)) (by kernel_rfl) (fun _ _ _ h => h) hA (.inl ⟨rfl, fun w5 q1 => ?_⟩) ?_
  · obtain ⟨c0, c1⟩ := cells2_of ((q1.block _ (lt_of_heap HS.out) (fun e => e)).trans HS.out)
    go_simp
  simp only [Act.put, List.setIfInBounds_toArray, List.set]
  refine wpG_takeT (i := 2) (v := .pointer (some ⟨b + 2, 1, none⟩)) rfl (fun L hc h => (hc.waits (n := 16) (i := 3) (by kernel_rfl) (hc.waits (n := 3) (i := 2) (by kernel_rfl) h))) (by kernel_rfl) (fun _ _ _ h => h) hA (.inl ⟨rfl, fun w5 q1 => ?_⟩) ?_
  · go_simp
  simp only [Act.put, List.setIfInBounds_toArray, List.set]
  refine wpG_takeT (i := 3) (v := .int .i64 s.2) rfl (fun L hc h => (hc.waits (n := 16) (i := 3) (by kernel_rfl) h)) (by kernel_rfl) (fun _ _ _ h => h) hA (.inl ⟨rfl, fun w5 q1 => ?_⟩) ?_
  · obtain ⟨c0, c1⟩ := cells2_of ((q1.block _ (lt_of_heap HS.out) (fun e => e)).trans HS.out)
    go_simp
  simp only [Act.put, List.setIfInBounds_toArray, List.set]
  refine wpG_takeT (i := 4) (v := .pointer (some ⟨b + 1, 1, none⟩)) rfl (fun L hc h => (hc.waits (n := 16) (i := 5) (by kernel_rfl) (hc.waits (n := 5) (i := 4) (by kernel_rfl) h))) (by kernel_rfl) (fun _ _ _ h => h) hA (.inl ⟨rfl, fun w5 q1 => ?_⟩) ?_
  · go_simp
  simp only [Act.put, List.setIfInBounds_toArray, List.set]
  refine wpG_takeT (i := 5) (v := .int .i64 o.width) rfl (fun L hc h => (hc.waits (n := 16) (i := 5) (by kernel_rfl) h)) (by kernel_rfl) (fun _ _ _ h => h) hA (.inl ⟨rfl, fun w5 q1 => ?_⟩) ?_
  · obtain ⟨c0, c1, c2, c3, c4⟩ := cells5_of ((q1.block _ (lt_of_heap HP.out) (fun e => e)).trans HP.out)
    go_simp
  simp only [Act.put, List.setIfInBounds_toArray, List.set]
  refine wpG_takeT (i := 6) (v := .pointer (some ⟨b, 23, none⟩)) rfl (fun L hc h => (hc.waits (n := 16) (i := 7) (by kernel_rfl) (hc.waits (n := 7) (i := 6) (by kernel_rfl) h))) (by kernel_rfl) (fun _ _ _ h => h) hA (.inl ⟨rfl, fun w5 q1 => ?_⟩) ?_
  · go_simp
  simp only [Act.put, List.setIfInBounds_toArray, List.set]
  refine wpG_takeT (i := 7) (v := .bool t.fin) rfl (fun L hc h => (hc.waits (n := 16) (i := 7) (by kernel_rfl) h)) (by kernel_rfl) (fun _ _ _ h => h) hA (.inl ⟨rfl, fun w5 q1 => ?_⟩) ?_
  · obtain ⟨c0, c1, c2, c3, c4, c5, c6, c7, c8, c9, c10, c11, c12, c13, c14, c15, c16, c17, c18, c19, c20, c21, c22, c23⟩ := cells24_of ((q1.block _ (lt_of_heap HT.out) (fun e => e)).trans HT.out)
    go_simp
  simp only [Act.put, List.setIfInBounds_toArray, List.set]
  refine wpG_takeT (i := 8) (v := .pointer (some ⟨b, 16, none⟩)) rfl (fun L hc h => (hc.waits (n := 16) (i := 9) (by kernel_rfl) (hc.waits (n := 9) (i := 8) (by kernel_rfl) h))) (by kernel_rfl) (fun _ _ _ h => h) hA (.inl ⟨rfl, fun w5 q1 => ?_⟩) ?_
  · go_simp
  simp only [Act.put, List.setIfInBounds_toArray, List.set]
  refine wpG_takeT (i := 9) (v := .agg #[.slice t.ta t.rows.length t.tc]) rfl (fun L hc h => (hc.waits (n := 16) (i := 9) (by kernel_rfl) h)) (by kernel_rfl) (fun _ _ _ h => h) hA (.inl ⟨rfl, fun w5 q1 => ?_⟩) ?_
  · obtain ⟨c0, c1, c2, c3, c4, c5, c6, c7, c8, c9, c10, c11, c12, c13, c14, c15, c16, c17, c18, c19, c20, c21, c22, c23⟩ := cells24_of ((q1.block _ (lt_of_heap HT.out) (fun e => e)).trans HT.out)
    go_simp
  simp only [Act.put, List.setIfInBounds_toArray, List.set]
  refine wpG_takeT (i := 10) (v := .pointer (some ⟨b, 5, none⟩)) rfl (fun L hc h => (hc.waits (n := 16) (i := 11) (by kernel_rfl) (hc.waits (n := 11) (i := 10) (by kernel_rfl) h))) (by kernel_rfl) (fun _ _ _ h => h) hA (.inl ⟨rfl, fun w5 q1 => ?_⟩) ?_
  · go_simp
  simp only [Act.put, List.setIfInBounds_toArray, List.set]
  refine wpG_takeT (i := 11) (v := .agg #[.int .i64 o0, .int .i64 o1, .int .i64 o2, .int .i64 o3, .int .i64 o4, .int .i64 o5, .int .i64 o6, .int .i64 o7]) rfl (fun L hc h => (hc.waits (n := 16) (i := 11) (by kernel_rfl) h)) (by kernel_rfl) (fun _ _ _ h => h) hA (.inl ⟨rfl, fun w5 q1 => ?_⟩) ?_
  · obtain ⟨c0, c1, c2, c3, c4, c5, c6, c7, c8, c9, c10, c11, c12, c13, c14, c15, c16, c17, c18, c19, c20, c21, c22, c23⟩ := cells24_of ((q1.block _ (lt_of_heap HT.out) (fun e => e)).trans HT.out)
    go_simp
  simp only [Act.put, List.setIfInBounds_toArray, List.set]
  refine wpG_takeT (i := 12) (v := .pointer (some ⟨b, 17, none⟩)) rfl (fun L hc h => (hc.waits (n := 16) (i := 15) (by kernel_rfl) (hc.waits (n := 15) (i := 14) (by kernel_rfl) (hc.waits (n := 14) (i := 13) (by kernel_rfl) (hc.waits (n := 13) (i := 12) (by kernel_rfl) h))))) (by kernel_rfl) (fun _ _ _ h => h) hA (.inl ⟨rfl, fun w5 q1 => ?_⟩) ?_
  · go_simp
  simp only [Act.put, List.setIfInBounds_toArray, List.set]
  refine wpG_takeT (i := 13) (v := .pointer (some ⟨b, 21, none⟩)) rfl (fun L hc h => (hc.waits (n := 16) (i := 15) (by kernel_rfl) (hc.waits (n := 15) (i := 14) (by kernel_rfl) (hc.waits (n := 14) (i := 13) (by kernel_rfl) h)))) (by kernel_rfl) (fun _ _ _ h => h) hA (.inl ⟨rfl, fun w5 q1 => ?_⟩) ?_
  · go_simp
  simp only [Act.put, List.setIfInBounds_toArray, List.set]
  refine wpG_takeT (i := 14) (v := .slice t.snk.na t.snk.names.length t.snk.nc) rfl (fun L hc h => (hc.waits (n := 16) (i := 15) (by kernel_rfl) (hc.waits (n := 15) (i := 14) (by kernel_rfl) h))) (by kernel_rfl) (fun _ _ _ h => h) hA (.inl ⟨rfl, fun w5 q1 => ?_⟩) ?_
  · obtain ⟨c0, c1, c2, c3, c4, c5, c6, c7, c8, c9, c10, c11, c12, c13, c14, c15, c16, c17, c18, c19, c20, c21, c22, c23⟩ := cells24_of ((q1.block _ (lt_of_heap HT.out) (fun e => e)).trans HT.out)
    go_simp
  simp only [Act.put, List.setIfInBounds_toArray, List.set]
  refine wpG_doIf (i := 15) rfl (by kernel_rfl) rfl (fun K hK => ?_)
  have HKK := Lib.hid hK
  clear hK
  go_step
  refine (HCN.out _ hA).mono ?_
  rintro _ w7 ⟨a5, c5, rfl, ho7, hu7⟩
  have hA2 := hA.trans hu7
  clear hu7
  simp only []
  refine HKK.out _ _ hA2 ?_
  clear HKK
  simp only [Act.put, List.setIfInBounds_toArray, List.set]
  refine wpG_tail_lit (k := 16) rfl rfl (by kernel_rfl) ?_
  simp only [List.drop]
  have HA2 := Lib.hid (HU.out.trans hA2)
  have hz := (hA2.block _ (lt_of_heap HZ.out) (fun e => e)).trans HZ.out
  have HNM := Lib.hid (ownsRow_low ho7 (Nat.le_trans HU.out.size hA.size))
  have HBW := Lib.hid (show ∀ q, (Value.slice a5 t.snk.names.length c5).ownBlock = some q → q ≠ b + 3 from fun q hq => by have := (World.ownsRow.lt ho7 q hq).1; have := lt_of_heap HZ.out; have := hA.size; omega)
  clear ho7 hA hA2
  iterate 3 go_step
  refine wpList_store_mid rfl 80 (.tmp 6) (.tmp 23) rfl (b + 3) 0 #[.int .i64 s.1, .int .i64 s.2, .int .i64 o.width, .bool t.fin, .slice t.ta t.rows.length t.tc, .int .i64 o0, .int .i64 o1, .int .i64 o2, .int .i64 o3, .int .i64 o4, .int .i64 o5, .int .i64 o6, .int .i64 o7, .slice a5 t.snk.names.length c5] rfl rfl (by have q := there_block hz; exact q) (by kernel_rfl) (by simp [Value.oneCell']) ?_
  have hq := upd_setCells w7 (b + 3) 0 [.int .i64 s.1, .int .i64 s.2, .int .i64 o.width, .bool t.fin, .slice t.ta t.rows.length t.tc, .int .i64 o0, .int .i64 o1, .int .i64 o2, .int .i64 o3, .int .i64 o4, .int .i64 o5, .int .i64 o6, .int .i64 o7, .slice a5 t.snk.names.length c5]
  have hr := setCells_all hz (vs := [.int .i64 s.1, .int .i64 s.2, .int .i64 o.width, .bool t.fin, .slice t.ta t.rows.length t.tc, .int .i64 o0, .int .i64 o1, .int .i64 o2, .int .i64 o3, .int .i64 o4, .int .i64 o5, .int .i64 o6, .int .i64 o7, .slice a5 t.snk.names.length c5]) rfl
  have HQ := Lib.hid hq
  generalize hw8 : w7.setCells (b + 3) 0 [.int .i64 s.1, .int .i64 s.2, .int .i64 o.width, .bool t.fin, .slice t.ta t.rows.length t.tc, .int .i64 o0, .int .i64 o1, .int .i64 o2, .int .i64 o3, .int .i64 o4, .int .i64 o5, .int .i64 o6, .int .i64 o7, .slice a5 t.snk.names.length c5] = w8 at hq hr HQ
  try rw [show (#[.int .i64 s.1, .int .i64 s.2, .int .i64 o.width, .bool t.fin, .slice t.ta t.rows.length t.tc, .int .i64 o0, .int .i64 o1, .int .i64 o2, .int .i64 o3, .int .i64 o4, .int .i64 o5, .int .i64 o6, .int .i64 o7, .slice a5 t.snk.names.length c5] : Array Value).toList = [.int .i64 s.1, .int .i64 s.2, .int .i64 o.width, .bool t.fin, .slice t.ta t.rows.length t.tc, .int .i64 o0, .int .i64 o1, .int .i64 o2, .int .i64 o3, .int .i64 o4, .int .i64 o5, .int .i64 o6, .int .i64 o7, .slice a5 t.snk.names.length c5] from rfl, hw8]
  clear hq hw8 hz
  have HR8 := Lib.hid hr
  clear hr
  go_wp2
  refine bodyPost_ret (results_c (fn := Tryz.f104) rfl rfl (loadSn (l := [.int .i64 s.1, .int .i64 s.2, .int .i64 o.width, .bool t.fin, .slice t.ta t.rows.length t.tc, .int .i64 o0, .int .i64 o1, .int .i64 o2, .int .i64 o3, .int .i64 o4, .int .i64 o5, .int .i64 o6, .int .i64 o7, .slice a5 t.snk.names.length c5]) HR8.out rfl)) rfl ?_
  refine ⟨a5, c5, ?_, ?_, HA2.out.cut HQ.out (fun q hq => by have := HB.out; omega)⟩
  · rw [HLIT.out a5 c5]; rfl
  · exact ownsRow_any HNM.out HQ.out (fun q hq e => HBW.out q hq e)
/-- May a source's parts be? -/
def srcB (t : TkV) (o : OpM) (s : Int × Int) : Bool := (t.inp.src == o.a) && (chkOff t.inp t.offs == 0) && zeroG t.qs.length t.num t.gd && (!t.fin || !(NextR t.inp t.offs s.2 o.width).2.2.1)
set_option maxHeartbeats 16000000 in
theorem source_any (t : TkV) (o : OpM) (s : Int × Int) (w : World) (h : TkIn w t) : Calls Tryz.prog 163 #[.agg t.cells.toArray, .agg #[.int .i64 o.tag, .int .i64 o.width, .slice o.ia o.ins.length o.ic, .int .i64 o.a, .int .i64 o.b], .agg #[.int .i64 s.1, .int .i64 s.2]] w fun e w' => e = .returned (.bool (srcB t o s)) ∧ Upd0 w w' := by
  have HCO := Lib.hid (fun (W : World) (hW : Upd0 w W) => checkoffsets_any t.inp t.offs W (h.recs.kept hW) h.rl h.o8)
  have HNX := Lib.hid (fun (W : World) (hW : Upd0 w W) => knext_any t.inp t.offs s.2 o.width W (h.recs.kept hW) h.rl h.o8)
  obtain ⟨o0, o1, o2, o3, o4, o5, o6, o7, hmap⟩ := eight h.o8
  rw [TkV.lit hmap]
  rw [hmap] at HCO HNX
  obtain ⟨b, hb⟩ : ∃ b, b = w.heap.size := ⟨_, rfl⟩
  obtain ⟨w1, hw1⟩ : ∃ w1, w1 = ((w.alloc (.cells #[.slice t.oa t.os.length t.oc, .int .i64 t.sub, .int .i64 t.att, .int .i64 t.inp.src, .slice t.inp.ra t.inp.recs.length t.inp.rc, .int .i64 o0, .int .i64 o1, .int .i64 o2, .int .i64 o3, .int .i64 o4, .int .i64 o5, .int .i64 o6, .int .i64 o7, .slice t.qa t.qs.length t.qc, .int .u64 t.num, .int .u64 t.gd, .slice t.ta t.rows.length t.tc, .int .i64 t.snk.sub, .int .i64 t.snk.att, .int .i64 t.snk.ser, .bool t.snk.opn, .slice t.snk.na t.snk.names.length t.snk.nc, .int .u64 t.done, .bool t.fin] 74)).alloc (.cells #[.int .i64 o.tag, .int .i64 o.width, .slice o.ia o.ins.length o.ic, .int .i64 o.a, .int .i64 o.b] 89)).alloc (.cells #[.int .i64 s.1, .int .i64 s.2] 124) := ⟨_, rfl⟩
  have hu1 : Upd0 w w1 := by rw [hw1]; exact (((Upd.refl _ w).alloc _).alloc _).alloc _
  have HT := Lib.hid (show w1.heap[b]? = some (.cells #[.slice t.oa t.os.length t.oc, .int .i64 t.sub, .int .i64 t.att, .int .i64 t.inp.src, .slice t.inp.ra t.inp.recs.length t.inp.rc, .int .i64 o0, .int .i64 o1, .int .i64 o2, .int .i64 o3, .int .i64 o4, .int .i64 o5, .int .i64 o6, .int .i64 o7, .slice t.qa t.qs.length t.qc, .int .u64 t.num, .int .u64 t.gd, .slice t.ta t.rows.length t.tc, .int .i64 t.snk.sub, .int .i64 t.snk.att, .int .i64 t.snk.ser, .bool t.snk.opn, .slice t.snk.na t.snk.names.length t.snk.nc, .int .u64 t.done, .bool t.fin] 74 (0, 0)) by rw [hw1, hb]; exact (alloc_lt (by simp <;> omega)).trans ((alloc_lt (by simp)).trans (alloc_at rfl)))
  have HP := Lib.hid (show w1.heap[b + 1]? = some (.cells #[.int .i64 o.tag, .int .i64 o.width, .slice o.ia o.ins.length o.ic, .int .i64 o.a, .int .i64 o.b] 89 (0, 0)) by rw [hw1, hb]; exact (alloc_lt (by simp)).trans (alloc_at (by simp)))
  have HS := Lib.hid (show w1.heap[b + 2]? = some (.cells #[.int .i64 s.1, .int .i64 s.2] 124 (0, 0)) by rw [hw1, hb]; exact alloc_at (by simp))
  have HU := Lib.hid hu1
  have HR := Lib.hid (srcB.eq_1 t o s)
  obtain ⟨sr, hsr⟩ : ∃ sr, sr = srcB t o s := ⟨_, rfl⟩
  rw [← hsr] at HR ⊢
  obtain ⟨co, hco⟩ : ∃ co, co = chkOff t.inp t.offs := ⟨_, rfl⟩
  rw [← hco] at HCO HR
  obtain ⟨nx, hnx⟩ : ∃ nx, nx = NextR t.inp t.offs s.2 o.width := ⟨_, rfl⟩
  rw [← hnx] at HNX HR
  obtain ⟨zg, hzg⟩ : ∃ zg, zg = zeroG t.qs.length t.num t.gd := ⟨_, rfl⟩
  have HZG := Lib.hid (fun (W : World) => zerogate_any (qa := t.qa) (n := t.qs.length) (qc := t.qc) (num := t.num) (gd := t.gd) W)
  rw [← hzg] at HR HZG
  obtain ⟨fi, hfi⟩ : ∃ fi, fi = t.fin := ⟨_, rfl⟩
  rw [← hfi] at HR HT hw1 ⊢
  clear h hmap hu1 hsr hco hnx hzg hfi
  obtain ⟨x0, x1, x2, x3, x4, x5, x6, x7, x8, x9, x10, x11, x12, x13, x14, x15, x16, x17, x18, x19, x20, x21, x22, x23⟩ := cells24_of HT.out
  obtain ⟨p0, p1, p2, p3, p4⟩ := cells5_of HP.out
  obtain ⟨s0, s1⟩ := cells2_of HS.out
  go_enter Tryz.func163, Tryz.ntmps163
  go_upto_region 1 with fail
  rw [← hw1, ← hb]
  clear hw1 hb
  try simp only [Nat.add_assoc, Nat.reduceAdd]
  cases hse : (t.inp.src == o.a)
  · have hne : (t.inp.src != o.a) = true := by simp [bne, hse]
    go_wp2
    go_ret
    exact ⟨ret_bool (by rw [HR.out, hse]; simp), HU.out⟩
  · have hne : (t.inp.src != o.a) = false := by simp [bne, hse]
    have HSE := Lib.hid hse
    clear hse
    go_wp2_with (go_at_call 53; fail)
    (with_reducible refine (HCO.out w1 HU.out).mono ?_)
    rintro _ w2 ⟨rfl, hu2⟩
    have HU2 := Lib.hid (HU.out.trans hu2)
    have HT2 := Lib.hid ((hu2.block _ (lt_of_heap HT.out) (fun e => e)).trans HT.out)
    have HP2 := Lib.hid ((hu2.block _ (lt_of_heap HP.out) (fun e => e)).trans HP.out)
    have HS2 := Lib.hid ((hu2.block _ (lt_of_heap HS.out) (fun e => e)).trans HS.out)
    clear hu2 HCO x0 x1 x2 x3 x4 x5 x6 x7 x8 x9 x10 x11 x12 x13 x14 x15 x16 x17 x18 x19 x20 x21 x22 x23 p0 p1 p2 p3 p4 s0 s1 HT HP HS
    obtain ⟨x0, x1, x2, x3, x4, x5, x6, x7, x8, x9, x10, x11, x12, x13, x14, x15, x16, x17, x18, x19, x20, x21, x22, x23⟩ := cells24_of HT2.out
    obtain ⟨p0, p1, p2, p3, p4⟩ := cells5_of HP2.out
    obtain ⟨s0, s1⟩ := cells2_of HS2.out
    simp only []
    by_cases hc : co = 0
    · subst hc
      go_wp2_with (go_at_call 237; fail)
      (with_reducible refine (HZG.out w2).mono ?_)
      rintro _ w3 ⟨rfl, hu3⟩
      have HU3 := Lib.hid (HU2.out.trans hu3)
      have HT3 := Lib.hid ((hu3.block _ (lt_of_heap HT2.out) (fun e => e)).trans HT2.out)
      have HP3 := Lib.hid ((hu3.block _ (lt_of_heap HP2.out) (fun e => e)).trans HP2.out)
      have HS3 := Lib.hid ((hu3.block _ (lt_of_heap HS2.out) (fun e => e)).trans HS2.out)
      clear hu3 HZG x0 x1 x2 x3 x4 x5 x6 x7 x8 x9 x10 x11 x12 x13 x14 x15 x16 x17 x18 x19 x20 x21 x22 x23 p0 p1 p2 p3 p4 s0 s1 HT2 HP2 HS2
      obtain ⟨x0, x1, x2, x3, x4, x5, x6, x7, x8, x9, x10, x11, x12, x13, x14, x15, x16, x17, x18, x19, x20, x21, x22, x23⟩ := cells24_of HT3.out
      obtain ⟨p0, p1, p2, p3, p4⟩ := cells5_of HP3.out
      obtain ⟨s0, s1⟩ := cells2_of HS3.out
      simp only []
      cases zg
      · go_wp2
        go_ret
        exact ⟨ret_bool (by rw [HR.out]; simp), HU3.out⟩
      · go_wp2_with (go_at_call 12; fail)
        (with_reducible refine (HNX.out w3 HU3.out).mono ?_)
        rintro _ w4 ⟨rfl, hu4⟩
        obtain ⟨w5, hw5⟩ : ∃ w5, w5 = w4.alloc (.cells #[.int .i64 nx.1.src, .int .i64 nx.1.key, .int .i64 nx.1.val] 36) := ⟨_, rfl⟩
        have hu5 : Upd0 w3 w5 := by rw [hw5]; exact hu4.alloc _
        have HU5 := Lib.hid (HU3.out.trans hu5)
        have HT5 := Lib.hid ((hu5.block _ (lt_of_heap HT3.out) (fun e => e)).trans HT3.out)
        clear hu4 hu5 HNX x0 x1 x2 x3 x4 x5 x6 x7 x8 x9 x10 x11 x12 x13 x14 x15 x16 x17 x18 x19 x20 x21 x22 x23 p0 p1 p2 p3 p4 s0 s1 HT3 HP3 HS3
        obtain ⟨x0, x1, x2, x3, x4, x5, x6, x7, x8, x9, x10, x11, x12, x13, x14, x15, x16, x17, x18, x19, x20, x21, x22, x23⟩ := cells24_of HT5.out
        simp only []
        go_upto_region 4 with fail
        rw [← hw5]
        clear hw5
        cases fi
        · go_wp2
          go_ret
          exact ⟨ret_bool (by rw [HR.out, HSE.out]; simp), HU5.out⟩
        · go_wp2
          go_ret
          exact ⟨ret_bool (by rw [HR.out, HSE.out]; simp), HU5.out⟩
    · have hc' : (co != 0) = true := by simpa using hc
      go_wp2
      go_ret
      exact ⟨ret_bool (by rw [HR.out]; simp [hc]), HU2.out⟩
end Go.Proofs.YtbonfdkgkcbkmaaGreat
end

