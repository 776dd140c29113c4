/- Walks: Format on any disk. -/
import Derived.Test.YtbimkhdiplnbfaaGreatY3
import Derived.Test.YtbimkhdiplnbfaaGreatY5
import Derived.Test.YtbimkhdiplnbfaaGreatY21
import Derived.Test.YtbimkhdiplnbfaaGreatY23
import Derived.Test.YtbimkhdiplnbfaaGreatY24
set_option linter.unusedVariables false
set_option linter.unusedSimpArgs false
namespace Go.Proofs.YtbimkhdiplnbfaaGreat
set_option maxRecDepth 1000000
set_option maxHeartbeats 16000000
section
open Go.RowKit Go.Shelf
noncomputable def fmtG (D : Dk) (area : Nat) : Option Lg × Int × Dk :=
 if D.laysE (fmt1 area) = 0 then
  if (fmtD D area 1).laysE (fmt2 area) = 0 then
   if (fmtD D area 2).laysE (fmt3 area) = 0 then (some (fmtX area), 0, fmtD D area 3) else (none, (fmtD D area 2).laysE (fmt3 area), fmtD D area 3)
  else (none, (fmtD D area 1).laysE (fmt2 area), fmtD D area 2)
 else (none, D.laysE (fmt1 area), fmtD D area 1)
noncomputable def fmtR (D : Dk) (n : Int) : Option Lg × Int × Dk := if n < 4 ∨ 1000 < n ∨ (D.arr.length : Int) < 2 + 2 * n then (none, 2, D) else fmtG D n.toNat
theorem fmtX_ok {area : Nat} (ha : 4 ≤ area ∧ area ≤ 1000) : (fmtX area).Ok :=
 ⟨by show (0 : Int) ≤ 1 ∧ (1 : Int) ≤ 1073741824; omega, by show 4 ≤ (area : Int) ∧ (area : Int) ≤ 1000; omega, by show (0 : Int) ≤ 0 ∧ (0 : Int) ≤ 100000; omega, by show (0 : Int) ≤ 1 ∧ (1 : Int) ≤ 1073741825; omega, by show (0 : Int) ≤ 1 ∧ (1 : Int) ≤ 1000; omega, by show 1 ≤ 1000; omega, fun b hb => by
  have : b = [] := by simpa [fmtX] using hb
  subst this
  exact ⟨bytes_nil, by decide⟩⟩
theorem format_all {p area : Nat} {D : Dk} {F : Nat → Prop} {M : Nat} (w : World) (hD : Dsk w p D F) (hok : D.Ok M) (hK : M ≤ 1000000000) (ha : 4 ≤ area ∧ area ≤ 1000) (hlen : 2 + 2 * area ≤ D.arr.length) :
  Calls Tryz.prog 41 #[.pointer (some ⟨p, 0, none⟩), .int .i64 area] w fun e w' => OpenAns w p F (fmtG D area) M e w' := by
 have hFl := hD.lt
 have HD := Lib.hid hD; have HOK := Lib.hid hok; have HFL := Lib.hid hFl; obtain ⟨R, hR⟩ : ∃ R, R = fmtG D area := ⟨_, rfl⟩
 rw [← hR]
 have hR0 : D.laysE (fmt1 area) ≠ 0 → R = (none, D.laysE (fmt1 area), fmtD D area 1) := fun e => by rw [hR]; unfold fmtG; rw [if_neg e]
 have hR1 : D.laysE (fmt1 area) = 0 → (fmtD D area 1).laysE (fmt2 area) ≠ 0 → R = (none, (fmtD D area 1).laysE (fmt2 area), fmtD D area 2) := fun e1 e => by rw [hR]; unfold fmtG; rw [if_pos e1, if_neg e]
 have hR2 : D.laysE (fmt1 area) = 0 → (fmtD D area 1).laysE (fmt2 area) = 0 → (fmtD D area 2).laysE (fmt3 area) ≠ 0 → R = (none, (fmtD D area 2).laysE (fmt3 area), fmtD D area 3) := fun e1 e2 e => by rw [hR]; unfold fmtG; rw [if_pos e1, if_pos e2, if_neg e]
 have hR3 : D.laysE (fmt1 area) = 0 → (fmtD D area 1).laysE (fmt2 area) = 0 → (fmtD D area 2).laysE (fmt3 area) = 0 → R = (some (fmtX area), 0, fmtD D area 3) := fun e1 e2 e => by rw [hR]; unfold fmtG; rw [if_pos e1, if_pos e2, if_pos e]
 have HR0 := Lib.hid hR0; have HR1 := Lib.hid hR1; have HR2 := Lib.hid hR2; have HR3 := Lib.hid hR3
 obtain ⟨w2, hw2⟩ : ∃ w2, w2 = (w.alloc (.cells #[.pointer (some ⟨p, 0, none⟩)] 25)).alloc (.cells #[.int .i64 area] 3) := ⟨_, rfl⟩
 have hu2 : Upd (fun _ => False) w w2 := by rw [hw2]; exact ((Upd.refl _ w).alloc _).alloc _
 have h0 : w2.heap[w.heap.size]? = some (.cells #[.pointer (some ⟨p, 0, none⟩)] 25 (0, 0)) := by rw [hw2]; exact (alloc_lt (by simp)).trans (alloc_at rfl)
 have h1 : w2.heap[w.heap.size + 1]? = some (.cells #[.int .i64 area] 3 (0, 0)) := by rw [hw2]; exact alloc_at (by simp)
 have hs2 : w2.heap.size = w.heap.size + 2 := by rw [hw2]; simp
 have HU2 := Lib.hid hu2; have H0 := Lib.hid h0; have H1 := Lib.hid h1; have HS2 := Lib.hid hs2
 have c0 := cells1_of h0; have c1 := cells1_of h1
 clear hD hok hFl hR hR0 hR1 hR2 hR3 hu2 h0 h1 hs2
 go_enter Tryz.func41, Tryz.ntmps41
 go_upto_region 1 with fail
 rw [← hw2]
 clear hw2
 go_upto_region 3 with fail
 clear c0 c1
 have hA : Upd (fun _ => False) w2 w2.drew := (Upd.refl _ w2).drew
 have n1 : ¬ (area : Int) < 4 := by omega
 have n2 : ¬ (area : Int) > 1000 := by omega
 have n3 : ¬ (D.arr.length : Int) < 2 + 2 * area := by omega
 have v1 : IntKind.i64.wrap (2 * (area : Int)) = 2 * area := by rw [IntKind.wrap_i64]; omega
 have v2 : IntKind.i64.wrap (2 + 2 * (area : Int)) = 2 + 2 * area := by rw [IntKind.wrap_i64]; omega
 refine wp_region_G 13 (fun W => Upd (fun _ => False) w2 W) [false, false, false, false, false, false, false, false, false, false, false, false, false, false] rfl (by kernel_rfl) ?_
 refine wpG_takeT (i := 0) (v := .int .i64 area) rfl (fun L hc h => (hc.waits (n := 13) (i := 6) (by kernel_rfl) (hc.waits (n := 6) (i := 2) (by kernel_rfl) (hc.waits (n := 2) (i := 1) (by kernel_rfl) (hc.waits (n := 1) (i := 0) (by kernel_rfl) h))))) (by kernel_rfl) (fun _ _ _ h => h) hA (.inl ⟨rfl, fun w5 q1 => ?_⟩) ?_
 ·have cc := cells1_of ((q1.block _ (lt_of_heap H1.out) (fun e => e)).trans H1.out)
  go_simp
 simp only [Act.put, List.setIfInBounds_toArray, List.set]
 refine wpG_takeT (i := 1) (v := .bool false) rfl (fun L hc h => (hc.waits (n := 13) (i := 6) (by kernel_rfl) (hc.waits (n := 6) (i := 2) (by kernel_rfl) (hc.waits (n := 2) (i := 1) (by kernel_rfl) h)))) (by kernel_rfl) (fun _ _ _ h => h) hA (.inl ⟨rfl, fun w5 q1 => ?_⟩) ?_
 ·go_simp
 simp only [Act.put, List.setIfInBounds_toArray, List.set]
 refine wpG_takeT (i := 2) (v := .bool false) rfl (fun L hc h => (hc.waits (n := 13) (i := 6) (by kernel_rfl) (hc.waits (n := 6) (i := 2) (by kernel_rfl) h))) (by kernel_rfl) (fun _ _ _ h => h) hA (.inl ⟨rfl, fun w5 q1 => ?_⟩) ?_
 ·go_simp
 simp only [Act.put, List.setIfInBounds_toArray, List.set]
 refine wpG_takeT (i := 3) (v := .int .i64 area) rfl (fun L hc h => (hc.waits (n := 13) (i := 6) (by kernel_rfl) (hc.waits (n := 6) (i := 5) (by kernel_rfl) (hc.waits (n := 5) (i := 4) (by kernel_rfl) (hc.waits (n := 4) (i := 3) (by kernel_rfl) h))))) (by kernel_rfl) (fun _ _ _ h => h) hA (.inl ⟨rfl, fun w5 q1 => ?_⟩) ?_
 ·have cc := cells1_of ((q1.block _ (lt_of_heap H1.out) (fun e => e)).trans H1.out)
  go_simp
 simp only [Act.put, List.setIfInBounds_toArray, List.set]
 refine wpG_takeT (i := 4) (v := .bool false) rfl (fun L hc h => (hc.waits (n := 13) (i := 6) (by kernel_rfl) (hc.waits (n := 6) (i := 5) (by kernel_rfl) (hc.waits (n := 5) (i := 4) (by kernel_rfl) h)))) (by kernel_rfl) (fun _ _ _ h => h) hA (.inl ⟨rfl, fun w5 q1 => ?_⟩) ?_
 ·go_simp
 simp only [Act.put, List.setIfInBounds_toArray, List.set]
 refine wpG_takeT (i := 5) (v := .bool false) rfl (fun L hc h => (hc.waits (n := 13) (i := 6) (by kernel_rfl) (hc.waits (n := 6) (i := 5) (by kernel_rfl) h))) (by kernel_rfl) (fun _ _ _ h => h) hA (.inl ⟨rfl, fun w5 q1 => ?_⟩) ?_
 ·go_simp
 simp only [Act.put, List.setIfInBounds_toArray, List.set]
 refine wpG_takeT (i := 6) (v := .bool false) rfl (fun L hc h => (hc.waits (n := 13) (i := 6) (by kernel_rfl) h)) (by kernel_rfl) (fun _ _ _ h => h) hA (.inl ⟨rfl, fun w5 q1 => ?_⟩) ?_
 ·go_simp
 simp only [Act.put, List.setIfInBounds_toArray, List.set]
 refine wpG_takeT (i := 7) (v := .pointer (some ⟨p, 0, none⟩)) rfl (fun L hc h => (hc.waits (n := 13) (i := 12) (by kernel_rfl) (hc.waits (n := 12) (i := 8) (by kernel_rfl) (hc.waits (n := 8) (i := 7) (by kernel_rfl) h)))) (by kernel_rfl) (fun _ _ _ h => h) hA (.inl ⟨rfl, fun w5 q1 => ?_⟩) ?_
 ·have cc := cells1_of ((q1.block _ (lt_of_heap H0.out) (fun e => e)).trans H0.out)
  go_simp
 simp only [Act.put, List.setIfInBounds_toArray, List.set]
 refine wpG_takeT (i := 9) (v := .int .i64 area) rfl (fun L hc h => (hc.waits (n := 13) (i := 12) (by kernel_rfl) (hc.waits (n := 12) (i := 11) (by kernel_rfl) (hc.waits (n := 11) (i := 10) (by kernel_rfl) (hc.waits (n := 10) (i := 9) (by kernel_rfl) h))))) (by kernel_rfl) (fun _ _ _ h => h) hA (.inl ⟨rfl, fun w5 q1 => ?_⟩) ?_
 ·have cc := cells1_of ((q1.block _ (lt_of_heap H1.out) (fun e => e)).trans H1.out)
  go_simp
 simp only [Act.put, List.setIfInBounds_toArray, List.set]
 refine wpG_takeT (i := 10) (v := .int .i64 (2 * area)) rfl (fun L hc h => (hc.waits (n := 13) (i := 12) (by kernel_rfl) (hc.waits (n := 12) (i := 11) (by kernel_rfl) (hc.waits (n := 11) (i := 10) (by kernel_rfl) h)))) (by kernel_rfl) (fun _ _ _ h => h) hA (.inl ⟨rfl, fun w5 q1 => ?_⟩) ?_
 ·go_simp
 simp only [Act.put, List.setIfInBounds_toArray, List.set]
 refine wpG_takeT (i := 11) (v := .int .i64 (2 + 2 * area)) rfl (fun L hc h => (hc.waits (n := 13) (i := 12) (by kernel_rfl) (hc.waits (n := 12) (i := 11) (by kernel_rfl) h))) (by kernel_rfl) (fun _ _ _ h => h) hA (.inl ⟨rfl, fun w5 q1 => ?_⟩) ?_
 ·go_simp
 simp only [Act.put, List.setIfInBounds_toArray, List.set]
 refine wpG_doIf (i := 8) rfl (by kernel_rfl) rfl (fun K hK => ?_)
 have HKK := Lib.hid hK
 clear hK
 go_step
 refine (len_any _ ((HD.out.kept HU2.out (fun _ _ e => e)).kept hA (fun _ _ e => e))).mono ?_
 rintro e W3 ⟨rfl, rfl⟩
 simp only []
 refine HKK.out _ _ hA ?_
 clear HKK
 simp only [List.setIfInBounds_toArray, List.set]
 refine wpG_takeT (i := 12) (v := .bool false) rfl (fun L hc h => (hc.waits (n := 13) (i := 12) (by kernel_rfl) h)) (by kernel_rfl) (fun _ _ _ h => h) hA (.inl ⟨rfl, fun w5 q1 => ?_⟩) ?_
 ·go_simp
 simp only [Act.put, List.setIfInBounds_toArray, List.set]
 refine wpG_tail_lit (k := 13) rfl rfl (by kernel_rfl) ?_
 simp only [List.drop]
 have HA := Lib.hid (HU2.out.trans hA)
 have H0' := Lib.hid ((hA.block _ (lt_of_heap H0.out) (fun e => e)).trans H0.out); have H1' := Lib.hid ((hA.block _ (lt_of_heap H1.out) (fun e => e)).trans H1.out)
 have c1 := cells1_of H1'.out
 clear hA HU2 H0 H1
 have j0 : ∀ W, (Instr.index 190 (.agg #[.func (.func 106) #[] #[.pointer (some ⟨w.heap.size, 0, none⟩), .pointer (some ⟨w.heap.size + 1, 0, none⟩)], .func (.func 109) #[] #[.pointer (some ⟨w2.heap.size, 0, none⟩), .pointer (some ⟨w.heap.size, 0, none⟩)], .func (.func 111) #[] #[.pointer (some ⟨w2.heap.size, 0, none⟩), .pointer (some ⟨w.heap.size, 0, none⟩)]]) (.int .i64 0)).run Tryz.prog W = .ok (.func (.func 106) #[] #[.pointer (some ⟨w.heap.size, 0, none⟩), .pointer (some ⟨w.heap.size + 1, 0, none⟩)]) W := fun W => by kernel_rfl
 have j1 : ∀ W, (Instr.index 190 (.agg #[.func (.func 106) #[] #[.pointer (some ⟨w.heap.size, 0, none⟩), .pointer (some ⟨w.heap.size + 1, 0, none⟩)], .func (.func 109) #[] #[.pointer (some ⟨w2.heap.size, 0, none⟩), .pointer (some ⟨w.heap.size, 0, none⟩)], .func (.func 111) #[] #[.pointer (some ⟨w2.heap.size, 0, none⟩), .pointer (some ⟨w.heap.size, 0, none⟩)]]) (.int .i64 1)).run Tryz.prog W = .ok (.func (.func 109) #[] #[.pointer (some ⟨w2.heap.size, 0, none⟩), .pointer (some ⟨w.heap.size, 0, none⟩)]) W := fun W => by kernel_rfl
 have j2 : ∀ W, (Instr.index 190 (.agg #[.func (.func 106) #[] #[.pointer (some ⟨w.heap.size, 0, none⟩), .pointer (some ⟨w.heap.size + 1, 0, none⟩)], .func (.func 109) #[] #[.pointer (some ⟨w2.heap.size, 0, none⟩), .pointer (some ⟨w.heap.size, 0, none⟩)], .func (.func 111) #[] #[.pointer (some ⟨w2.heap.size, 0, none⟩), .pointer (some ⟨w.heap.size, 0, none⟩)]]) (.int .i64 2)).run Tryz.prog W = .ok (.func (.func 111) #[] #[.pointer (some ⟨w2.heap.size, 0, none⟩), .pointer (some ⟨w.heap.size, 0, none⟩)]) W := fun W => by kernel_rfl
 go_upto_region 7 with fail
 obtain ⟨w3, hw3⟩ : ∃ w3, w3 = w2.drew.alloc (.cells #[.int .i64 1, .int .i64 area, .int .i64 0, .int .i64 1] 184) := ⟨_, rfl⟩
 refine (?_ : Code.wp _ _ _ _ (w2.drew.alloc (.cells #[.int .i64 1, .int .i64 area, .int .i64 0, .int .i64 1] 184)))
 rw [← hw3]
 have hs3 : w3.heap.size = w.heap.size + 3 := by rw [hw3]; have := HS2.out; simp; omega
 have hu3 : Upd (fun _ => False) w w3 := by rw [hw3]; exact HA.out.alloc _
 have hat : FmtAt w w3 p w.heap.size (w.heap.size + 1) w2.heap.size area D F w3 := by
  refine ⟨⟨F, HD.out.kept hu3 (fun _ _ e => e), fun k hk => .inl hk⟩, hu3.mono (fun _ _ e => e.elim), Nat.le_refl _, ?_, ?_, ?_⟩
  ·rw [hw3]; exact (alloc_lt (lt_of_heap H0'.out)).trans H0'.out
  ·rw [hw3]; exact (alloc_lt (lt_of_heap H1'.out)).trans H1'.out
  ·rw [hw3]; exact alloc_at rfl
 have HAT := Lib.hid hat; have HS3 := Lib.hid hs3
 have HBB : RowKit.Hid (∀ k, (k = w.heap.size ∨ k = w.heap.size + 1 ∨ k = w2.heap.size) → w.heap.size ≤ k ∧ k < w3.heap.size) := Lib.hid (fun k hk => by have := HS2.out; omega)
 have HOKS : RowKit.Hid (∀ k, k ≤ 3 → (fmtD D area k).Ok (M + 5000 * k)) := Lib.hid (by
  have z1 := Dk.lays_ok (zl area) HOK.out
  have z2 := Dk.lays_ok (partSc (fmtH area) 1 0 true [] bytes_nil) z1
  have z3 := Dk.lays_ok [headSc (fmtH area)] z2
  rw [zl_length] at z1 z2 z3
  rw [partSc_length] at z2 z3
  have hq1 : secsN ([] : List Int).length = 1 := rfl
  rw [hq1] at z2 z3
  intro k hk
  have : k = 0 ∨ k = 1 ∨ k = 2 ∨ k = 3 := by omega
  rcases this with rfl | rfl | rfl | rfl
  ·exact HOK.out
  ·exact Dk.Ok.mono z1 (by omega)
  ·exact Dk.Ok.mono z2 (by omega)
  ·exact Dk.Ok.mono z3 (by simp; omega))
 clear hat hs3 hu3 hw3 HA H0' H1' c1 HOK HD
 go_loopg [32] 3 (fun gk i wr => ∃ k : Nat, k ≤ 3 ∧ gk = 3 - k ∧ i = .int .i64 k ∧ FmtAt w w3 p w.heap.size (w.heap.size + 1) w2.heap.size area (fmtD D area k) F wr ∧ ((1 ≤ k → D.laysE (fmt1 area) = 0) ∧ (2 ≤ k → (fmtD D area 1).laysE (fmt2 area) = 0) ∧ (3 ≤ k → (fmtD D area 2).laysE (fmt3 area) = 0)))
 case atStart => exact ⟨0, by omega, rfl, rfl, HAT.out, fun e => absurd e (by omega), fun e => absurd e (by omega), fun e => absurd e (by omega)⟩
 case round =>
  obtain ⟨k, hk, rfl, rfl, hs, hz1, hz2, hz3⟩ := hrel
  have HZ1 := Lib.hid hz1; have HZ2 := Lib.hid hz2; have HZ3 := Lib.hid hz3
  clear hz1 hz2 hz3
  obtain ⟨wo, rfl⟩ : ∃ wo, wo = wr := ⟨_, rfl⟩
  have HS := Lib.hid hs
  clear hs HAT
  by_cases hk3 : k < 3
  ·have hk3' : k = 0 ∨ k = 1 ∨ k = 2 := by omega
   obtain ⟨F', d1, d2⟩ := HS.out.dsk
   have hw3s : w.heap.size ≤ w3.heap.size := by have := HS3.out; omega
   have hnb : ¬ F' (w.heap.size + 1) := fun e => by
    rcases d2 _ e with q | q
    ·have := HFL.out _ q; omega
    ·have := HS3.out; omega
   have D1 := Lib.hid d1; have D2 := Lib.hid d2; have HNB := Lib.hid hnb
   clear d1 d2 hnb
   rcases hk3' with rfl | rfl | rfl
   ·
    go_wp2_with (go_at_call 106; fail)
    refine (fmt1_any (D := fmtD D area 0) wo D1.out (HOKS.out 0 (by omega)) (by omega) ha.2 HS.out.c0 HS.out.c1 HNB.out).mono ?_
    rintro e W3 ⟨rfl, hl⟩
    have HS2' := Lib.hid (HS.out.step hw3s HBB.out HFL.out D1.out D2.out hl)
    clear hl D1 D2 HNB
    obtain ⟨E, hE⟩ : ∃ E, E = (fmtD D area 0).laysE (fmt1 area) := ⟨_, rfl⟩
    rw [← hE]
    have HE := Lib.hid hE
    clear hE
    by_cases hE0 : E = 0
    rotate_left
    ·have hEb : (E != 0) = true := by simpa using hE0
     have HRE := Lib.hid (show R = (none, E, fmtD D area (0 + 1)) by rw [HE.out]; exact HR0.out (by show (fmtD D area 0).laysE (fmt1 area) ≠ 0; rw [← HE.out]; exact hE0))
     clear hE0
     simp only []
     go_wp2
     go_returns
     obtain ⟨F2, e1, e2⟩ := HS2'.out.dsk
     refine ⟨F2, ?_, fun k hk => (e2 k hk).imp id (fun z => by have := HS3.out; omega), HS2'.out.upd, ?_, ?_⟩
     ·rw [HRE.out]; exact e1
     ·rw [HRE.out]; exact Dk.Ok.mono (HOKS.out (0 + 1) (by omega)) (by omega)
     ·rw [HRE.out]; rfl
    subst hE0
    have HEZ := Lib.hid (show D.laysE (fmt1 area) = 0 from HE.out.symm)
    simp only []
    go_wp2
    go_roundg (3 - (0 + 1))
    case measure => omega
    case rel => exact ⟨0 + 1, by omega, rfl, rfl, HS2'.out, fun _ => HEZ.out, fun e => absurd e (by omega), fun e => absurd e (by omega)⟩
   ·
    go_wp2_with (go_at_call 109; fail)
    refine (fmt2_any (D := fmtD D area 1) wo D1.out (HOKS.out 1 (by omega)) (by omega) ha HS.out.c0 HS.out.c6).mono ?_
    rintro e W3 ⟨rfl, hl⟩
    have HS2' := Lib.hid (HS.out.step hw3s HBB.out HFL.out D1.out D2.out hl)
    clear hl D1 D2 HNB
    obtain ⟨E, hE⟩ : ∃ E, E = (fmtD D area 1).laysE (fmt2 area) := ⟨_, rfl⟩
    rw [← hE]
    have HE := Lib.hid hE
    clear hE
    by_cases hE0 : E = 0
    rotate_left
    ·have hEb : (E != 0) = true := by simpa using hE0
     have HRE := Lib.hid (show R = (none, E, fmtD D area (1 + 1)) by rw [HE.out]; exact HR1.out (HZ1.out (by omega)) (by rw [← HE.out]; exact hE0))
     clear hE0
     simp only []
     go_wp2
     go_returns
     obtain ⟨F2, e1, e2⟩ := HS2'.out.dsk
     refine ⟨F2, ?_, fun k hk => (e2 k hk).imp id (fun z => by have := HS3.out; omega), HS2'.out.upd, ?_, ?_⟩
     ·rw [HRE.out]; exact e1
     ·rw [HRE.out]; exact Dk.Ok.mono (HOKS.out (1 + 1) (by omega)) (by omega)
     ·rw [HRE.out]; rfl
    subst hE0
    have HEZ := Lib.hid (show (fmtD D area 1).laysE (fmt2 area) = 0 from HE.out.symm)
    simp only []
    go_wp2
    go_roundg (3 - (1 + 1))
    case measure => omega
    case rel => exact ⟨1 + 1, by omega, rfl, rfl, HS2'.out, fun _ => HZ1.out (by omega), fun _ => HEZ.out, fun e => absurd e (by omega)⟩
   ·
    go_wp2_with (go_at_call 111; fail)
    refine (fmt3_any (D := fmtD D area 2) wo D1.out (HOKS.out 2 (by omega)) (by omega) ha HS.out.c0 HS.out.c6).mono ?_
    rintro e W3 ⟨rfl, hl⟩
    have HS2' := Lib.hid (HS.out.step hw3s HBB.out HFL.out D1.out D2.out hl)
    clear hl D1 D2 HNB
    obtain ⟨E, hE⟩ : ∃ E, E = (fmtD D area 2).laysE (fmt3 area) := ⟨_, rfl⟩
    rw [← hE]
    have HE := Lib.hid hE
    clear hE
    by_cases hE0 : E = 0
    rotate_left
    ·have hEb : (E != 0) = true := by simpa using hE0
     have HRE := Lib.hid (show R = (none, E, fmtD D area (2 + 1)) by rw [HE.out]; exact HR2.out (HZ1.out (by omega)) (HZ2.out (by omega)) (by rw [← HE.out]; exact hE0))
     clear hE0
     simp only []
     go_wp2
     go_returns
     obtain ⟨F2, e1, e2⟩ := HS2'.out.dsk
     refine ⟨F2, ?_, fun k hk => (e2 k hk).imp id (fun z => by have := HS3.out; omega), HS2'.out.upd, ?_, ?_⟩
     ·rw [HRE.out]; exact e1
     ·rw [HRE.out]; exact Dk.Ok.mono (HOKS.out (2 + 1) (by omega)) (by omega)
     ·rw [HRE.out]; rfl
    subst hE0
    have HEZ := Lib.hid (show (fmtD D area 2).laysE (fmt3 area) = 0 from HE.out.symm)
    simp only []
    go_wp2
    go_roundg (3 - (2 + 1))
    case measure => omega
    case rel => exact ⟨2 + 1, by omega, rfl, rfl, HS2'.out, fun _ => HZ1.out (by omega), fun _ => HZ2.out (by omega), fun _ => HEZ.out⟩
  ·obtain rfl : k = 3 := by omega
   have hs := HS.out
   obtain ⟨F', d1, d2⟩ := hs.dsk
   have D1 := Lib.hid d1; have D2 := Lib.hid d2
   clear d1 d2 hs
   have hA : Upd (fun _ => False) wo wo.drew := (Upd.refl _ wo).drew
   go_upto_region 13 with fail
   refine wp_region_G 5 (fun W => Upd (fun _ => False) wo W) [false, false, false, false, false, false, false, false] rfl (by kernel_rfl) ?_
   refine wpG_takeT (i := 0) (v := .agg #[.int .i64 1, .int .i64 area, .int .i64 0, .int .i64 1]) rfl (fun L hc h => (hc.waits (n := 5) (i := 4) (by kernel_rfl) (hc.waits (n := 4) (i := 0) (by kernel_rfl) h))) (by kernel_rfl) (fun _ _ _ h => h) hA (.inl ⟨rfl, fun w5 q1 => ?_⟩) ?_
   ·exact run_load_mid' rfl rfl [.int .i64 1, .int .i64 area, .int .i64 0, .int .i64 1] (rangeAt_block (cs := [.int .i64 1, .int .i64 area, .int .i64 0, .int .i64 1]) ((q1.block _ (lt_of_heap HS.out.c6) (fun e => e)).trans HS.out.c6)) Tryz.underlying184 rfl (by kernel_rfl)
   simp only [Act.put, List.setIfInBounds_toArray, List.set]
   refine wpG_takeT (i := 1) (v := .pointer (some ⟨p, 0, none⟩)) rfl (fun L hc h => (hc.waits (n := 5) (i := 4) (by kernel_rfl) (hc.waits (n := 4) (i := 1) (by kernel_rfl) h))) (by kernel_rfl) (fun _ _ _ h => h) hA (.inl ⟨rfl, fun w5 q1 => ?_⟩) ?_
   ·have cc := cells1_of ((q1.block _ (lt_of_heap HS.out.c0) (fun e => e)).trans HS.out.c0)
    go_simp
   simp only [Act.put, List.setIfInBounds_toArray, List.set]
   refine wpG_do2 (i := 2) (j := 3) rfl rfl (by kernel_rfl) rfl rfl (fun K hK => ?_) (fun K hK => ?_)
   ·
    have HKK := Lib.hid hK
    clear hK
    go_step
    have hAa : Upd (fun _ => False) wo (wo.drew.alloc (.cells #[.slice none 0 0] 39)) := hA.alloc _
    refine HKK.out _ _ hAa ?_
    clear HKK
    simp only [List.setIfInBounds_toArray, List.set]
    refine wpG_doIf (i := 3) rfl (by kernel_rfl) rfl (fun K hK => ?_)
    have HKK := Lib.hid hK
    clear hK
    go_step
    refine (sectors_any _ _).mono ?_
    rintro e W3 ⟨rfl, rfl⟩
    rw [show secsI 0 = 1 from rfl]
    simp only []
    refine HKK.out _ _ hAa ?_
    clear HKK
    simp only [List.setIfInBounds_toArray, List.set]
    refine wpG_takeT (i := 4) (v := .agg #[.int .i64 1, .int .i64 area, .int .i64 0, .int .i64 1, .pointer (some ⟨p, 0, none⟩), .slice (some ⟨wo.heap.size, 0, none⟩) 1 1, .int .i64 1, .bool false]) rfl (fun L hc h => (hc.waits (n := 5) (i := 4) (by kernel_rfl) h)) (by kernel_rfl) (fun _ _ _ h => h) hAa (.inl ⟨rfl, fun w5 q1 => ?_⟩) ?_
    ·go_simp
    simp only [Act.put, List.setIfInBounds_toArray, List.set]
    refine wpG_tail_lit (k := 5) rfl rfl (by kernel_rfl) ?_
    simp only [List.drop]
    go_wp2
    go_returns
    have hu8 : Upd (fun _ => False) wo ((wo.drew.alloc (.cells #[.slice none 0 0] 39)).alloc (.cells #[.int .i64 1, .int .i64 area, .int .i64 0, .int .i64 1, .pointer (some ⟨p, 0, none⟩), .slice (some ⟨wo.heap.size, 0, none⟩) 1 1, .int .i64 1, .bool false] 193)) := hAa.alloc _
    have hs3 := HS3.out
    have hso := HS.out.size
    rw [HR3.out (HZ1.out (by omega)) (HZ2.out (by omega)) (HZ3.out (by omega))]
    refine ⟨F', D1.out.kept hu8 (fun _ _ e => e), ?_, HS.out.upd.trans (hu8.mono (fun _ _ e => e.elim)), Dk.Ok.mono (HOKS.out 3 (by omega)) (by omega), wo.heap.size + 1, Gp (wo.heap.size + 1) (.slice (some ⟨wo.heap.size, 0, none⟩) 1 1) [.slice none 0 0], rfl, ⟨.slice (some ⟨wo.heap.size, 0, none⟩) 1 1, [.slice none 0 0], ⟨alloc_at (by simp), ⟨rfl, .inr ⟨wo.heap.size, 1, _, rfl, Nat.zero_le _, (alloc_lt (by simp)).trans (alloc_at rfl), Nat.le_refl _, by unfold maxLen; omega, rfl, rfl⟩⟩, ?_, ?_, ?_⟩, fun _ => Iff.rfl⟩, ?_, ?_, fmtX_ok ha⟩
    rotate_left
    ·intro i v b hv hb
     match i, hv, hb with
     | 0, hv, hb => simp [fmtX] at hv hb; subst hv; subst hb; exact World.ownsRow_nil _ _ _ _
     |i + 1, hv, hb => simp at hv
    ·intro k hk; simp [Value.ownBlock] at hk; omega
    ·intro v k hv hk; simp at hv; subst hv; simp [Value.ownBlock] at hk
    ·rintro k (rfl | hk | ⟨v, hv, hk⟩)
     ·omega
     ·simp [Value.ownBlock] at hk; omega
     ·simp at hv; subst hv; simp [Value.ownBlock] at hk
    ·rintro k hk hF
     have hlt := D1.out.lt k hF
     rcases hk with rfl | hk | ⟨v, hv, hk⟩
     ·omega
     ·simp [Value.ownBlock] at hk; omega
     ·simp at hv; subst hv; simp [Value.ownBlock] at hk
    ·intro k hk
     exact (D2.out k hk).imp id (fun q => by omega)
   ·
    have HKK := Lib.hid hK
    clear hK
    go_step
    refine (sectors_any _ _).mono ?_
    rintro e W3 ⟨rfl, rfl⟩
    rw [show secsI 0 = 1 from rfl]
    simp only []
    refine HKK.out _ _ hA ?_
    clear HKK
    simp only [List.setIfInBounds_toArray, List.set]
    refine wpG_doIf (i := 2) rfl (by kernel_rfl) rfl (fun K hK => ?_)
    have HKK := Lib.hid hK
    clear hK
    go_step
    have hAa : Upd (fun _ => False) wo (wo.drew.alloc (.cells #[.slice none 0 0] 39)) := hA.alloc _
    refine HKK.out _ _ hAa ?_
    clear HKK
    simp only [List.setIfInBounds_toArray, List.set]
    refine wpG_takeT (i := 4) (v := .agg #[.int .i64 1, .int .i64 area, .int .i64 0, .int .i64 1, .pointer (some ⟨p, 0, none⟩), .slice (some ⟨wo.heap.size, 0, none⟩) 1 1, .int .i64 1, .bool false]) rfl (fun L hc h => (hc.waits (n := 5) (i := 4) (by kernel_rfl) h)) (by kernel_rfl) (fun _ _ _ h => h) hAa (.inl ⟨rfl, fun w5 q1 => ?_⟩) ?_
    ·go_simp
    simp only [Act.put, List.setIfInBounds_toArray, List.set]
    refine wpG_tail_lit (k := 5) rfl rfl (by kernel_rfl) ?_
    simp only [List.drop]
    go_wp2
    go_returns
    have hu8 : Upd (fun _ => False) wo ((wo.drew.alloc (.cells #[.slice none 0 0] 39)).alloc (.cells #[.int .i64 1, .int .i64 area, .int .i64 0, .int .i64 1, .pointer (some ⟨p, 0, none⟩), .slice (some ⟨wo.heap.size, 0, none⟩) 1 1, .int .i64 1, .bool false] 193)) := hAa.alloc _
    have hs3 := HS3.out
    have hso := HS.out.size
    rw [HR3.out (HZ1.out (by omega)) (HZ2.out (by omega)) (HZ3.out (by omega))]
    refine ⟨F', D1.out.kept hu8 (fun _ _ e => e), ?_, HS.out.upd.trans (hu8.mono (fun _ _ e => e.elim)), Dk.Ok.mono (HOKS.out 3 (by omega)) (by omega), wo.heap.size + 1, Gp (wo.heap.size + 1) (.slice (some ⟨wo.heap.size, 0, none⟩) 1 1) [.slice none 0 0], rfl, ⟨.slice (some ⟨wo.heap.size, 0, none⟩) 1 1, [.slice none 0 0], ⟨alloc_at (by simp), ⟨rfl, .inr ⟨wo.heap.size, 1, _, rfl, Nat.zero_le _, (alloc_lt (by simp)).trans (alloc_at rfl), Nat.le_refl _, by unfold maxLen; omega, rfl, rfl⟩⟩, ?_, ?_, ?_⟩, fun _ => Iff.rfl⟩, ?_, ?_, fmtX_ok ha⟩
    rotate_left
    ·intro i v b hv hb
     match i, hv, hb with
     | 0, hv, hb => simp [fmtX] at hv hb; subst hv; subst hb; exact World.ownsRow_nil _ _ _ _
     |i + 1, hv, hb => simp at hv
    ·intro k hk; simp [Value.ownBlock] at hk; omega
    ·intro v k hv hk; simp at hv; subst hv; simp [Value.ownBlock] at hk
    ·rintro k (rfl | hk | ⟨v, hv, hk⟩)
     ·omega
     ·simp [Value.ownBlock] at hk; omega
     ·simp at hv; subst hv; simp [Value.ownBlock] at hk
    ·rintro k hk hF
     have hlt := D1.out.lt k hF
     rcases hk with rfl | hk | ⟨v, hv, hk⟩
     ·omega
     ·simp [Value.ownBlock] at hk; omega
     ·simp at hv; subst hv; simp [Value.ownBlock] at hk
    ·intro k hk
     exact (D2.out k hk).imp id (fun q => by omega)
theorem format_ref {p : Nat} {n : Int} {D : Dk} {F : Nat → Prop} {M : Nat} (w : World) (hD : Dsk w p D F) (hok : D.Ok M) (hx : n < 4 ∨ 1000 < n ∨ (D.arr.length : Int) < 2 + 2 * n) :
  Calls Tryz.prog 41 #[.pointer (some ⟨p, 0, none⟩), .int .i64 n] w fun e w' => OpenAns w p F (none, 2, D) M e w' := by
 have HD := Lib.hid hD; have HOK := Lib.hid hok
 obtain ⟨w2, hw2⟩ : ∃ w2, w2 = (w.alloc (.cells #[.pointer (some ⟨p, 0, none⟩)] 25)).alloc (.cells #[.int .i64 n] 3) := ⟨_, rfl⟩
 have hu2 : Upd (fun _ => False) w w2 := by rw [hw2]; exact ((Upd.refl _ w).alloc _).alloc _
 have h0 : w2.heap[w.heap.size]? = some (.cells #[.pointer (some ⟨p, 0, none⟩)] 25 (0, 0)) := by rw [hw2]; exact (alloc_lt (by simp)).trans (alloc_at rfl)
 have h1 : w2.heap[w.heap.size + 1]? = some (.cells #[.int .i64 n] 3 (0, 0)) := by rw [hw2]; exact alloc_at (by simp)
 have HU2 := Lib.hid hu2; have H0 := Lib.hid h0; have H1 := Lib.hid h1
 have c0 := cells1_of h0; have c1 := cells1_of h1
 clear hD hok hu2 h0 h1
 go_enter Tryz.func41, Tryz.ntmps41
 go_upto_region 1 with fail
 rw [← hw2]
 clear hw2
 go_upto_region 3 with fail
 clear c0 c1
 have hA : Upd (fun _ => False) w2 w2.drew := (Upd.refl _ w2).drew
 by_cases n1 : n < 4
 ·refine wp_region_G 13 (fun W => Upd (fun _ => False) w2 W) [false, false, false, false, false, false, false, false, false, false, false, false, false, false] rfl (by kernel_rfl) ?_
  refine wpG_takeT (i := 0) (v := .int .i64 n) rfl (fun L hc h => (hc.waits (n := 13) (i := 6) (by kernel_rfl) (hc.waits (n := 6) (i := 2) (by kernel_rfl) (hc.waits (n := 2) (i := 1) (by kernel_rfl) (hc.waits (n := 1) (i := 0) (by kernel_rfl) h))))) (by kernel_rfl) (fun _ _ _ h => h) hA (.inl ⟨rfl, fun w5 q1 => ?_⟩) ?_
  ·have cc := cells1_of ((q1.block _ (lt_of_heap H1.out) (fun e => e)).trans H1.out)
   go_simp
  simp only [Act.put, List.setIfInBounds_toArray, List.set]
  refine wpG_takeT (i := 1) (v := .bool true) rfl (fun L hc h => (hc.waits (n := 13) (i := 6) (by kernel_rfl) (hc.waits (n := 6) (i := 2) (by kernel_rfl) (hc.waits (n := 2) (i := 1) (by kernel_rfl) h)))) (by kernel_rfl) (fun _ _ _ h => h) hA (.inl ⟨rfl, fun w5 q1 => ?_⟩) ?_
  ·go_simp
  simp only [Act.put, List.setIfInBounds_toArray, List.set]
  refine wpG_takeT (i := 2) (v := .bool true) rfl (fun L hc h => (hc.waits (n := 13) (i := 6) (by kernel_rfl) (hc.waits (n := 6) (i := 2) (by kernel_rfl) h))) (by kernel_rfl) (fun _ _ _ h => h) hA (.inl ⟨rfl, fun w5 q1 => ?_⟩) ?_
  ·go_simp
  simp only [Act.put, List.setIfInBounds_toArray, List.set]
  refine wpG_takeT (i := 3) (v := undef) rfl (fun L hc h => (hc.waits (n := 13) (i := 6) (by kernel_rfl) (hc.waits (n := 6) (i := 5) (by kernel_rfl) (hc.waits (n := 5) (i := 4) (by kernel_rfl) (hc.waits (n := 4) (i := 3) (by kernel_rfl) h))))) (by kernel_rfl) (fun _ _ _ h => h) hA (.inr ⟨rfl, rfl⟩) ?_
  simp only [Act.put, List.setIfInBounds_toArray, List.set]
  refine wpG_takeT (i := 4) (v := undef) rfl (fun L hc h => (hc.waits (n := 13) (i := 6) (by kernel_rfl) (hc.waits (n := 6) (i := 5) (by kernel_rfl) (hc.waits (n := 5) (i := 4) (by kernel_rfl) h)))) (by kernel_rfl) (fun _ _ _ h => h) hA (.inr ⟨rfl, rfl⟩) ?_
  simp only [Act.put, List.setIfInBounds_toArray, List.set]
  refine wpG_takeT (i := 5) (v := .bool true) rfl (fun L hc h => (hc.waits (n := 13) (i := 6) (by kernel_rfl) (hc.waits (n := 6) (i := 5) (by kernel_rfl) h))) (by kernel_rfl) (fun _ _ _ h => h) hA (.inl ⟨rfl, fun w5 q1 => ?_⟩) ?_
  ·go_simp
  simp only [Act.put, List.setIfInBounds_toArray, List.set]
  refine wpG_takeT (i := 6) (v := .bool true) rfl (fun L hc h => (hc.waits (n := 13) (i := 6) (by kernel_rfl) h)) (by kernel_rfl) (fun _ _ _ h => h) hA (.inl ⟨rfl, fun w5 q1 => ?_⟩) ?_
  ·go_simp
  simp only [Act.put, List.setIfInBounds_toArray, List.set]
  refine wpG_takeT (i := 7) (v := undef) rfl (fun L hc h => (hc.waits (n := 13) (i := 12) (by kernel_rfl) (hc.waits (n := 12) (i := 8) (by kernel_rfl) (hc.waits (n := 8) (i := 7) (by kernel_rfl) h)))) (by kernel_rfl) (fun _ _ _ h => h) hA (.inr ⟨rfl, rfl⟩) ?_
  simp only [Act.put, List.setIfInBounds_toArray, List.set]
  refine wpG_takeT (i := 8) (v := undef) rfl (fun L hc h => (hc.waits (n := 13) (i := 12) (by kernel_rfl) (hc.waits (n := 12) (i := 8) (by kernel_rfl) h))) (by kernel_rfl) (fun _ _ _ h => h) hA (.inr ⟨rfl, rfl⟩) ?_
  simp only [Act.put, List.setIfInBounds_toArray, List.set]
  refine wpG_takeT (i := 9) (v := undef) rfl (fun L hc h => (hc.waits (n := 13) (i := 12) (by kernel_rfl) (hc.waits (n := 12) (i := 11) (by kernel_rfl) (hc.waits (n := 11) (i := 10) (by kernel_rfl) (hc.waits (n := 10) (i := 9) (by kernel_rfl) h))))) (by kernel_rfl) (fun _ _ _ h => h) hA (.inr ⟨rfl, rfl⟩) ?_
  simp only [Act.put, List.setIfInBounds_toArray, List.set]
  refine wpG_takeT (i := 10) (v := undef) rfl (fun L hc h => (hc.waits (n := 13) (i := 12) (by kernel_rfl) (hc.waits (n := 12) (i := 11) (by kernel_rfl) (hc.waits (n := 11) (i := 10) (by kernel_rfl) h)))) (by kernel_rfl) (fun _ _ _ h => h) hA (.inr ⟨rfl, rfl⟩) ?_
  simp only [Act.put, List.setIfInBounds_toArray, List.set]
  refine wpG_takeT (i := 11) (v := undef) rfl (fun L hc h => (hc.waits (n := 13) (i := 12) (by kernel_rfl) (hc.waits (n := 12) (i := 11) (by kernel_rfl) h))) (by kernel_rfl) (fun _ _ _ h => h) hA (.inr ⟨rfl, rfl⟩) ?_
  simp only [Act.put, List.setIfInBounds_toArray, List.set]
  refine wpG_takeT (i := 12) (v := undef) rfl (fun L hc h => (hc.waits (n := 13) (i := 12) (by kernel_rfl) h)) (by kernel_rfl) (fun _ _ _ h => h) hA (.inr ⟨rfl, rfl⟩) ?_
  simp only [Act.put, List.setIfInBounds_toArray, List.set]
  refine wpG_tail_lit (k := 13) rfl rfl (by kernel_rfl) ?_
  simp only [List.drop]
  have HA := Lib.hid (HU2.out.trans hA)
  clear hA
  go_wp2
  go_returns
  exact ⟨F, HD.out.kept HA.out (fun _ _ e => e), fun k hk => .inl hk, HA.out.mono (fun _ _ e => e.elim), Dk.Ok.mono HOK.out (by omega), rfl⟩
 ·by_cases n2 : n > 1000
  ·refine wp_region_G 13 (fun W => Upd (fun _ => False) w2 W) [false, false, false, false, false, false, false, false, false, false, false, false, false, false] rfl (by kernel_rfl) ?_
   refine wpG_takeT (i := 0) (v := .int .i64 n) rfl (fun L hc h => (hc.waits (n := 13) (i := 6) (by kernel_rfl) (hc.waits (n := 6) (i := 2) (by kernel_rfl) (hc.waits (n := 2) (i := 1) (by kernel_rfl) (hc.waits (n := 1) (i := 0) (by kernel_rfl) h))))) (by kernel_rfl) (fun _ _ _ h => h) hA (.inl ⟨rfl, fun w5 q1 => ?_⟩) ?_
   ·have cc := cells1_of ((q1.block _ (lt_of_heap H1.out) (fun e => e)).trans H1.out)
    go_simp
   simp only [Act.put, List.setIfInBounds_toArray, List.set]
   refine wpG_takeT (i := 1) (v := .bool false) rfl (fun L hc h => (hc.waits (n := 13) (i := 6) (by kernel_rfl) (hc.waits (n := 6) (i := 2) (by kernel_rfl) (hc.waits (n := 2) (i := 1) (by kernel_rfl) h)))) (by kernel_rfl) (fun _ _ _ h => h) hA (.inl ⟨rfl, fun w5 q1 => ?_⟩) ?_
   ·go_simp
   simp only [Act.put, List.setIfInBounds_toArray, List.set]
   refine wpG_takeT (i := 2) (v := .bool false) rfl (fun L hc h => (hc.waits (n := 13) (i := 6) (by kernel_rfl) (hc.waits (n := 6) (i := 2) (by kernel_rfl) h))) (by kernel_rfl) (fun _ _ _ h => h) hA (.inl ⟨rfl, fun w5 q1 => ?_⟩) ?_
   ·go_simp
   simp only [Act.put, List.setIfInBounds_toArray, List.set]
   refine wpG_takeT (i := 3) (v := .int .i64 n) rfl (fun L hc h => (hc.waits (n := 13) (i := 6) (by kernel_rfl) (hc.waits (n := 6) (i := 5) (by kernel_rfl) (hc.waits (n := 5) (i := 4) (by kernel_rfl) (hc.waits (n := 4) (i := 3) (by kernel_rfl) h))))) (by kernel_rfl) (fun _ _ _ h => h) hA (.inl ⟨rfl, fun w5 q1 => ?_⟩) ?_
   ·have cc := cells1_of ((q1.block _ (lt_of_heap H1.out) (fun e => e)).trans H1.out)
    go_simp
   simp only [Act.put, List.setIfInBounds_toArray, List.set]
   refine wpG_takeT (i := 4) (v := .bool true) rfl (fun L hc h => (hc.waits (n := 13) (i := 6) (by kernel_rfl) (hc.waits (n := 6) (i := 5) (by kernel_rfl) (hc.waits (n := 5) (i := 4) (by kernel_rfl) h)))) (by kernel_rfl) (fun _ _ _ h => h) hA (.inl ⟨rfl, fun w5 q1 => ?_⟩) ?_
   ·go_simp
   simp only [Act.put, List.setIfInBounds_toArray, List.set]
   refine wpG_takeT (i := 5) (v := .bool true) rfl (fun L hc h => (hc.waits (n := 13) (i := 6) (by kernel_rfl) (hc.waits (n := 6) (i := 5) (by kernel_rfl) h))) (by kernel_rfl) (fun _ _ _ h => h) hA (.inl ⟨rfl, fun w5 q1 => ?_⟩) ?_
   ·go_simp
   simp only [Act.put, List.setIfInBounds_toArray, List.set]
   refine wpG_takeT (i := 6) (v := .bool true) rfl (fun L hc h => (hc.waits (n := 13) (i := 6) (by kernel_rfl) h)) (by kernel_rfl) (fun _ _ _ h => h) hA (.inl ⟨rfl, fun w5 q1 => ?_⟩) ?_
   ·go_simp
   simp only [Act.put, List.setIfInBounds_toArray, List.set]
   refine wpG_takeT (i := 7) (v := undef) rfl (fun L hc h => (hc.waits (n := 13) (i := 12) (by kernel_rfl) (hc.waits (n := 12) (i := 8) (by kernel_rfl) (hc.waits (n := 8) (i := 7) (by kernel_rfl) h)))) (by kernel_rfl) (fun _ _ _ h => h) hA (.inr ⟨rfl, rfl⟩) ?_
   simp only [Act.put, List.setIfInBounds_toArray, List.set]
   refine wpG_takeT (i := 8) (v := undef) rfl (fun L hc h => (hc.waits (n := 13) (i := 12) (by kernel_rfl) (hc.waits (n := 12) (i := 8) (by kernel_rfl) h))) (by kernel_rfl) (fun _ _ _ h => h) hA (.inr ⟨rfl, rfl⟩) ?_
   simp only [Act.put, List.setIfInBounds_toArray, List.set]
   refine wpG_takeT (i := 9) (v := undef) rfl (fun L hc h => (hc.waits (n := 13) (i := 12) (by kernel_rfl) (hc.waits (n := 12) (i := 11) (by kernel_rfl) (hc.waits (n := 11) (i := 10) (by kernel_rfl) (hc.waits (n := 10) (i := 9) (by kernel_rfl) h))))) (by kernel_rfl) (fun _ _ _ h => h) hA (.inr ⟨rfl, rfl⟩) ?_
   simp only [Act.put, List.setIfInBounds_toArray, List.set]
   refine wpG_takeT (i := 10) (v := undef) rfl (fun L hc h => (hc.waits (n := 13) (i := 12) (by kernel_rfl) (hc.waits (n := 12) (i := 11) (by kernel_rfl) (hc.waits (n := 11) (i := 10) (by kernel_rfl) h)))) (by kernel_rfl) (fun _ _ _ h => h) hA (.inr ⟨rfl, rfl⟩) ?_
   simp only [Act.put, List.setIfInBounds_toArray, List.set]
   refine wpG_takeT (i := 11) (v := undef) rfl (fun L hc h => (hc.waits (n := 13) (i := 12) (by kernel_rfl) (hc.waits (n := 12) (i := 11) (by kernel_rfl) h))) (by kernel_rfl) (fun _ _ _ h => h) hA (.inr ⟨rfl, rfl⟩) ?_
   simp only [Act.put, List.setIfInBounds_toArray, List.set]
   refine wpG_takeT (i := 12) (v := undef) rfl (fun L hc h => (hc.waits (n := 13) (i := 12) (by kernel_rfl) h)) (by kernel_rfl) (fun _ _ _ h => h) hA (.inr ⟨rfl, rfl⟩) ?_
   simp only [Act.put, List.setIfInBounds_toArray, List.set]
   refine wpG_tail_lit (k := 13) rfl rfl (by kernel_rfl) ?_
   simp only [List.drop]
   have HA := Lib.hid (HU2.out.trans hA)
   clear hA
   go_wp2
   go_returns
   exact ⟨F, HD.out.kept HA.out (fun _ _ e => e), fun k hk => .inl hk, HA.out.mono (fun _ _ e => e.elim), Dk.Ok.mono HOK.out (by omega), rfl⟩
  ·have n3 : (D.arr.length : Int) < 2 + 2 * n := by omega
   have v1 : IntKind.i64.wrap (2 * n) = 2 * n := by rw [IntKind.wrap_i64]; omega
   have v2 : IntKind.i64.wrap (2 + 2 * n) = 2 + 2 * n := by rw [IntKind.wrap_i64]; omega
   refine wp_region_G 13 (fun W => Upd (fun _ => False) w2 W) [false, false, false, false, false, false, false, false, false, false, false, false, false, false] rfl (by kernel_rfl) ?_
   refine wpG_takeT (i := 0) (v := .int .i64 n) rfl (fun L hc h => (hc.waits (n := 13) (i := 6) (by kernel_rfl) (hc.waits (n := 6) (i := 2) (by kernel_rfl) (hc.waits (n := 2) (i := 1) (by kernel_rfl) (hc.waits (n := 1) (i := 0) (by kernel_rfl) h))))) (by kernel_rfl) (fun _ _ _ h => h) hA (.inl ⟨rfl, fun w5 q1 => ?_⟩) ?_
   ·have cc := cells1_of ((q1.block _ (lt_of_heap H1.out) (fun e => e)).trans H1.out)
    go_simp
   simp only [Act.put, List.setIfInBounds_toArray, List.set]
   refine wpG_takeT (i := 1) (v := .bool false) rfl (fun L hc h => (hc.waits (n := 13) (i := 6) (by kernel_rfl) (hc.waits (n := 6) (i := 2) (by kernel_rfl) (hc.waits (n := 2) (i := 1) (by kernel_rfl) h)))) (by kernel_rfl) (fun _ _ _ h => h) hA (.inl ⟨rfl, fun w5 q1 => ?_⟩) ?_
   ·go_simp
   simp only [Act.put, List.setIfInBounds_toArray, List.set]
   refine wpG_takeT (i := 2) (v := .bool false) rfl (fun L hc h => (hc.waits (n := 13) (i := 6) (by kernel_rfl) (hc.waits (n := 6) (i := 2) (by kernel_rfl) h))) (by kernel_rfl) (fun _ _ _ h => h) hA (.inl ⟨rfl, fun w5 q1 => ?_⟩) ?_
   ·go_simp
   simp only [Act.put, List.setIfInBounds_toArray, List.set]
   refine wpG_takeT (i := 3) (v := .int .i64 n) rfl (fun L hc h => (hc.waits (n := 13) (i := 6) (by kernel_rfl) (hc.waits (n := 6) (i := 5) (by kernel_rfl) (hc.waits (n := 5) (i := 4) (by kernel_rfl) (hc.waits (n := 4) (i := 3) (by kernel_rfl) h))))) (by kernel_rfl) (fun _ _ _ h => h) hA (.inl ⟨rfl, fun w5 q1 => ?_⟩) ?_
   ·have cc := cells1_of ((q1.block _ (lt_of_heap H1.out) (fun e => e)).trans H1.out)
    go_simp
   simp only [Act.put, List.setIfInBounds_toArray, List.set]
   refine wpG_takeT (i := 4) (v := .bool false) rfl (fun L hc h => (hc.waits (n := 13) (i := 6) (by kernel_rfl) (hc.waits (n := 6) (i := 5) (by kernel_rfl) (hc.waits (n := 5) (i := 4) (by kernel_rfl) h)))) (by kernel_rfl) (fun _ _ _ h => h) hA (.inl ⟨rfl, fun w5 q1 => ?_⟩) ?_
   ·go_simp
   simp only [Act.put, List.setIfInBounds_toArray, List.set]
   refine wpG_takeT (i := 5) (v := .bool false) rfl (fun L hc h => (hc.waits (n := 13) (i := 6) (by kernel_rfl) (hc.waits (n := 6) (i := 5) (by kernel_rfl) h))) (by kernel_rfl) (fun _ _ _ h => h) hA (.inl ⟨rfl, fun w5 q1 => ?_⟩) ?_
   ·go_simp
   simp only [Act.put, List.setIfInBounds_toArray, List.set]
   refine wpG_takeT (i := 6) (v := .bool false) rfl (fun L hc h => (hc.waits (n := 13) (i := 6) (by kernel_rfl) h)) (by kernel_rfl) (fun _ _ _ h => h) hA (.inl ⟨rfl, fun w5 q1 => ?_⟩) ?_
   ·go_simp
   simp only [Act.put, List.setIfInBounds_toArray, List.set]
   refine wpG_takeT (i := 7) (v := .pointer (some ⟨p, 0, none⟩)) rfl (fun L hc h => (hc.waits (n := 13) (i := 12) (by kernel_rfl) (hc.waits (n := 12) (i := 8) (by kernel_rfl) (hc.waits (n := 8) (i := 7) (by kernel_rfl) h)))) (by kernel_rfl) (fun _ _ _ h => h) hA (.inl ⟨rfl, fun w5 q1 => ?_⟩) ?_
   ·have cc := cells1_of ((q1.block _ (lt_of_heap H0.out) (fun e => e)).trans H0.out)
    go_simp
   simp only [Act.put, List.setIfInBounds_toArray, List.set]
   refine wpG_takeT (i := 9) (v := .int .i64 n) rfl (fun L hc h => (hc.waits (n := 13) (i := 12) (by kernel_rfl) (hc.waits (n := 12) (i := 11) (by kernel_rfl) (hc.waits (n := 11) (i := 10) (by kernel_rfl) (hc.waits (n := 10) (i := 9) (by kernel_rfl) h))))) (by kernel_rfl) (fun _ _ _ h => h) hA (.inl ⟨rfl, fun w5 q1 => ?_⟩) ?_
   ·have cc := cells1_of ((q1.block _ (lt_of_heap H1.out) (fun e => e)).trans H1.out)
    go_simp
   simp only [Act.put, List.setIfInBounds_toArray, List.set]
   refine wpG_takeT (i := 10) (v := .int .i64 (2 * n)) rfl (fun L hc h => (hc.waits (n := 13) (i := 12) (by kernel_rfl) (hc.waits (n := 12) (i := 11) (by kernel_rfl) (hc.waits (n := 11) (i := 10) (by kernel_rfl) h)))) (by kernel_rfl) (fun _ _ _ h => h) hA (.inl ⟨rfl, fun w5 q1 => ?_⟩) ?_
   ·go_simp
   simp only [Act.put, List.setIfInBounds_toArray, List.set]
   refine wpG_takeT (i := 11) (v := .int .i64 (2 + 2 * n)) rfl (fun L hc h => (hc.waits (n := 13) (i := 12) (by kernel_rfl) (hc.waits (n := 12) (i := 11) (by kernel_rfl) h))) (by kernel_rfl) (fun _ _ _ h => h) hA (.inl ⟨rfl, fun w5 q1 => ?_⟩) ?_
   ·go_simp
   simp only [Act.put, List.setIfInBounds_toArray, List.set]
   refine wpG_doIf (i := 8) rfl (by kernel_rfl) rfl (fun K hK => ?_)
   have HKK := Lib.hid hK
   clear hK
   go_step
   refine (len_any _ ((HD.out.kept HU2.out (fun _ _ e => e)).kept hA (fun _ _ e => e))).mono ?_
   rintro e W3 ⟨rfl, rfl⟩
   simp only []
   refine HKK.out _ _ hA ?_
   clear HKK
   simp only [Act.put, List.setIfInBounds_toArray, List.set]
   refine wpG_takeT (i := 12) (v := .bool true) rfl (fun L hc h => (hc.waits (n := 13) (i := 12) (by kernel_rfl) h)) (by kernel_rfl) (fun _ _ _ h => h) hA (.inl ⟨rfl, fun w5 q1 => ?_⟩) ?_
   ·go_simp
   simp only [Act.put, List.setIfInBounds_toArray, List.set]
   refine wpG_tail_lit (k := 13) rfl rfl (by kernel_rfl) ?_
   simp only [List.drop]
   have HA := Lib.hid (HU2.out.trans hA)
   clear hA
   go_wp2
   go_returns
   exact ⟨F, HD.out.kept HA.out (fun _ _ e => e), fun k hk => .inl hk, HA.out.mono (fun _ _ e => e.elim), Dk.Ok.mono HOK.out (by omega), rfl⟩
theorem format_run {p : Nat} {n : Int} {D : Dk} {F : Nat → Prop} {M : Nat} (w : World) (hD : Dsk w p D F) (hok : D.Ok M) (hK : M ≤ 1000000000) :
  Calls Tryz.prog 41 #[.pointer (some ⟨p, 0, none⟩), .int .i64 n] w fun e w' => OpenAns w p F (fmtR D n) M e w' := by
 unfold fmtR
 by_cases hx : n < 4 ∨ 1000 < n ∨ (D.arr.length : Int) < 2 + 2 * n
 ·rw [if_pos hx]
  exact format_ref w hD hok hx
 ·rw [if_neg hx]
  obtain ⟨area, rfl⟩ := Int.eq_ofNat_of_zero_le (show 0 ≤ n by omega)
  exact format_all w hD hok hK (by omega) (by omega)
end
section
open Go.RowKit Go.Shelf Go.Joins
theorem bcells_zero (n : Nat) : bcells (List.replicate n 0) = List.replicate n (.int .u8 0) := by simp [bcells]
theorem made_blkQ (n : Nat) : madeCells (Value.agg (bcells zblk).toArray).cells n = (bcells (List.replicate n 0)).toArray := by
 have hz : (Value.agg (bcells zblk).toArray).cells = Array.replicate 64 (.int .u8 0) := by kernel_rfl
 rw [hz, bcells_zero]
 apply Array.ext
 ·simp [size_madeCells]
 ·intro i h1 h2
  have hi : i % 64 < 64 := Nat.mod_lt _ (by omega)
  simp [madeCells, hi]
theorem makeB_run {n : Nat} (hn : n ≤ 1000000) (W : World) : (Instr.makeSlice 201 (.int .i64 (n : Int)) (.int .i64 (n : Int))).run Tryz.prog W = .ok (.slice (some ⟨W.heap.size, 0, none⟩) n n) (W.alloc (.cells (bcells (List.replicate (n * 64) 0)).toArray 48)) := by
 obtain ⟨i, hi, hz, hs, hb⟩ := info_parts Tryz.info48w
 have := run_make (P := Tryz.prog) W 201 48 i (.agg (bcells zblk).toArray) Tryz.underlying201 hi hz .i64 .i64 n n (by omega) (by omega) (by rw [hb]; omega) (by omega)
 rw [hs, Int.toNat_natCast, made_blkQ] at this
 exact this
theorem blks_zero {W : World} {g n : Nat} (h : W.heap[g]? = some (.cells (bcells (List.replicate (n * 64) 0)).toArray 48 (0, 0))) : BlksAt W (some ⟨g, 0, none⟩) (List.replicate n zblk) := by
 refine ⟨fun x hx => by rw [(List.mem_replicate.1 hx).2]; exact zblk_ok.1, fun x hx => by rw [(List.mem_replicate.1 hx).2]; exact zblk_ok.2, g, rfl, fun i x hx j u hu => ?_⟩
 obtain ⟨hi, rfl⟩ := List.getElem?_eq_some_iff.1 hx
 simp only [List.getElem_replicate] at hu
 simp only [List.length_replicate] at hi
 rw [cell_of_heap h]
 have hz : bcells zblk = List.replicate 64 (.int .u8 0) := by kernel_rfl
 rw [hz] at hu
 obtain ⟨hj, hv⟩ := List.getElem?_eq_some_iff.1 hu
 simp only [List.getElem_replicate] at hv
 simp only [List.length_replicate] at hj
 subst hv
 rw [bcells_zero, List.getElem?_toArray, List.getElem?_replicate, if_pos (by omega)]
theorem laysL_zero (area : Nat) : laysL 0 0 (List.replicate (2 + 2 * area) zblk) = fmt1 area := by
 simp only [laysL, fmt1, raw, zl, List.length_replicate, List.map_map]
 apply List.map_congr_left
 intro k hk
 have := List.mem_range.1 hk
 simp [this]
theorem secsN_nil : secsN ([] : List Int).length = 1 := rfl
def MFm (w : World) (m p : Nat) (X : Lg) (no : Bool) (C F : Nat → Prop) (R : Option Lg × Int × Dk) (e : Ending) (w' : World) : Prop :=
 e = .returned (.int .i64 R.2.1) ∧ ∃ F' C', Dsk w' p R.2.2 F' ∧ (∀ k, F' k → F k ∨ w.heap.size ≤ k) ∧ (∀ k, C' k → C k ∨ w.heap.size ≤ k) ∧ (∀ k, C' k → ¬ F' k) ∧ Upd (fun k => F k ∨ k = m) w w' ∧
  match R.1 with
  |none => MdSt w' m p X no C'
  |some Y => MdSt w' m p Y false C'
theorem wmfmt_any {m p Kd : Nat} {n : Int} {X : Lg} {no : Bool} {D : Dk} {F C : Nat → Prop} (w : World) (hM : MdSt w m p X no C) (hD : Dsk w p D F) (hmF : ¬ F m) (hCF : ∀ k, C k → ¬ F k) (hok : D.Ok Kd) (hK : Kd ≤ 1099511500000) :
  Calls Tryz.prog 63 #[.pointer (some ⟨m, 0, none⟩), .int .i64 n] w (MFm w m p X no C F (fmtR D n)) := by
 obtain ⟨R, hR⟩ : ∃ R, R = fmtR D n := ⟨_, rfl⟩
 rw [← hR]
 have hM' := hM
 obtain ⟨⟨pa, pc, aa, an, ac, hm, hp, hp4⟩, hcm⟩ := hM'
 have htl := hD.lt
 have HM := Lib.hid hm; have HMD := Lib.hid hM; have HD := Lib.hid hD; have HMF := Lib.hid hmF; have HCF := Lib.hid hCF; have HOK := Lib.hid hok; have HR := Lib.hid hR; have HTL := Lib.hid htl; have HCLT := Lib.hid hp.1
 rw [mdc_lit] at hm
 obtain ⟨c0, c1, c2, c3, c4, c5, c6, c7, c8⟩ := cells9_of hm
 clear hm hp hp4 hcm hR htl hM hD hmF hCF hok
 by_cases hr1 : n < 4 ∨ 1000 < n
 ·have hRE : R = (none, 2, D) := by rw [HR.out]; unfold fmtR; rw [if_pos (by omega)]
  have hab : areaB n = false := by unfold areaB; simp; omega
  have HRE := Lib.hid hRE; have HAB := Lib.hid hab
  clear hRE hr1 hab
  go_enter Tryz.func63, Tryz.ntmps63
  go_wp2_with (go_at_call 135; refine (warea_any n _).mono ?_; rintro e w9 ⟨rfl, rfl⟩; rw [HAB.out])
  go_ret
  rw [HRE.out]
  exact ⟨rfl, F, C, HD.out, fun k hk => .inl hk, fun k hk => .inl hk, HCF.out, Upd.refl _ _, HMD.out⟩
 have hab : areaB n = true := by unfold areaB; simp; omega
 have HAB := Lib.hid hab
 obtain ⟨area, rfl⟩ := Int.eq_ofNat_of_zero_le (show 0 ≤ n by omega)
 have har : 4 ≤ area ∧ area ≤ 1000 := by omega
 have hw1 : IntKind.i64.wrap (2 * (area : Int)) = 2 * area := by rw [IntKind.wrap_i64]; omega
 have hw2 : IntKind.i64.wrap (2 + 2 * (area : Int)) = 2 + 2 * area := by rw [IntKind.wrap_i64]; omega
 clear hr1 hab
 by_cases hl : (D.arr.length : Int) < 2 + 2 * area
 ·have hRE : R = (none, 2, D) := by rw [HR.out]; unfold fmtR; rw [if_pos (by omega)]
  have HRE := Lib.hid hRE
  clear hRE
  go_enter Tryz.func63, Tryz.ntmps63
  go_wp2_with (first | (go_at_call 135; refine (warea_any _ _).mono ?_; rintro e w9 ⟨rfl, rfl⟩; rw [HAB.out]) | (go_at_call 105; refine (len_any _ HD.out).mono ?_; rintro e w9 ⟨rfl, rfl⟩))
  go_ret
  rw [HRE.out]
  exact ⟨rfl, F, C, HD.out, fun k hk => .inl hk, fun k hk => .inl hk, HCF.out, Upd.refl _ _, HMD.out⟩
 have hRE : R = fmtG D area := by rw [HR.out]; unfold fmtR; rw [if_neg (by omega), Int.toNat_natCast]
 have HRE := Lib.hid hRE; have HL := Lib.hid hl
 clear hRE HR
 have hmk := makeB_run (n := 2 + 2 * area) (by omega)
 push_cast at hmk
 go_enter Tryz.func63, Tryz.ntmps63
 go_wp2_with (first | (go_at_call 135; refine (warea_any _ _).mono ?_; rintro e w9 ⟨rfl, rfl⟩; rw [HAB.out]) | (go_at_call 105; refine (len_any _ HD.out).mono ?_; rintro e w9 ⟨rfl, rfl⟩))
 clear c0 c1 c2 c3 c4 c5 c6 c7 c8 hmk
 obtain ⟨bh, hbh⟩ : ∃ bh, bh = w.heap.size := ⟨_, rfl⟩
 obtain ⟨w2, hw2d⟩ : ∃ w2, w2 = (w.alloc (.cells #[.int .i64 1, .int .i64 area, .int .i64 0, .int .i64 1] 31)).alloc (.cells (bcells (List.replicate ((2 + 2 * area) * 64) 0)).toArray 48) := ⟨_, rfl⟩
 have hu2 : Upd (fun _ => False) w w2 := by rw [hw2d]; exact ((Upd.refl _ _).alloc _).alloc _
 have hs2 : w2.heap.size = w.heap.size + 2 := by rw [hw2d]; simp
 have hh2 : w2.heap[bh]? = some (.cells #[.int .i64 1, .int .i64 area, .int .i64 0, .int .i64 1] 31 (0, 0)) := by rw [hw2d, hbh]; exact (alloc_lt (by simp)).trans (alloc_at rfl)
 have hz2 : w2.heap[bh + 1]? = some (.cells (bcells (List.replicate ((2 + 2 * area) * 64) 0)).toArray 48 (0, 0)) := by rw [hw2d, hbh]; exact alloc_at (by simp)
 rw [← hw2d, ← hbh]
 have HU2 := Lib.hid hu2; have HS2 := Lib.hid hs2; have HH2 := Lib.hid hh2; have HBH := Lib.hid hbh
 have hm2 := (hu2.block _ (lt_of_heap HM.out) (fun e => e)).trans HM.out
 have HM2 := Lib.hid hm2
 have hly := wlays_any (lc := 2 + 2 * area) (g := bh + 1) (Ls := List.replicate (2 + 2 * area) zblk) 0 0 w2 hm2 HMF.out (HD.out.kept hu2 (fun _ _ e => e)) HOK.out (by omega) (blks_zero hz2) (fun e => by have := HTL.out _ e; omega) (by simp; omega) (by omega) (by omega)
 rw [laysL_zero, List.length_replicate] at hly
 have HLY := Lib.hid hly
 clear hu2 hs2 hh2 hz2 hw2d hbh hm2 hly
 refine HLY.out.mono ?_
 rintro e w3 ⟨rfl, F3, hd3, hf3, hu3⟩
 have HD3 := Lib.hid hd3; have HF3 := Lib.hid hf3; have HU3 := Lib.hid hu3
 have hm3 := (hu3.block _ (lt_of_heap HM2.out) HMF.out).trans HM2.out
 have HM3 := Lib.hid hm3
 have hh3 := (hu3.block _ (lt_of_heap HH2.out) (fun e => by have := HTL.out _ e; have := HBH.out; omega)).trans HH2.out
 have HH3 := Lib.hid hh3
 have hlow3 : ∀ k, F3 k → F k ∨ w.heap.size + 2 ≤ k := fun k hk => (hf3 k hk).imp_right (fun e => by have := HS2.out; omega)
 have HLOW3 := Lib.hid hlow3
 have HU03 : RowKit.Hid (Upd F w w3) := Lib.hid ((HU2.out.mono (F := fun _ => False) (G := F) (fun _ _ e => e.elim)).trans hu3)
 obtain ⟨E1, hE1⟩ : ∃ E1, E1 = D.laysE (fmt1 area) := ⟨_, rfl⟩
 rw [← hE1]
 have HE1 := Lib.hid hE1
 have hlm := lt_of_heap HM.out
 have HLM := Lib.hid hlm
 clear hd3 hf3 hu3 hm3 hh3 hlow3 hE1 hlm HLY
 simp only []
 by_cases hE0 : E1 = 0
 rotate_left
 ·have hEb2 : (E1 != 0) = true := by simpa using hE0
  have hRR : R = (none, E1, fmtD D area 1) := by rw [HRE.out]; unfold fmtG; rw [if_neg (by rw [← HE1.out]; exact hE0), HE1.out]
  have HRR := Lib.hid hRR
  clear hE0 hRR
  go_wp2
  go_ret
  rw [HRR.out]
  refine ⟨rfl, F3, C, HD3.out, fun k hk => (HLOW3.out k hk).imp_right (fun e => by omega), fun k hk => .inl hk, fun k hk e => ?_, HU03.out.mono (fun _ _ e => .inl e), HMD.out.kept HU03.out HCF.out HMF.out⟩
  rcases HLOW3.out k e with q | q
  ·exact HCF.out k hk q
  ·have := HCLT.out k hk; omega
 subst hE0
 go_wp2_with (go_at_call 137; fail)
 refine (wpart_any (a := none) (c := 0) (b := []) 1 1 true w3 (.inl ⟨rfl, rfl⟩) bytes_nil (by simp) (by omega) (by omega)).mono ?_
 rintro e w4 ⟨vP, rfl, hP, hu4⟩
 have hll : ((List.range (secsN ([] : List Int).length)).map (cutF 1 1 true [])).length = 1 := rfl
 obtain ⟨gP, cP, rfl, hgP, hgP2⟩ := OwnR.slice_of hP (by rw [hll]; omega)
 have hL64 : ∀ x ∈ (List.range (secsN ([] : List Int).length)).map (cutF 1 1 true []), okBlk x := fun x hx => by
  obtain ⟨k, _, rfl⟩ := List.mem_map.1 hx
  exact cutF_ok bytes_nil
 have hblk := OwnR.blks hP hL64
 rw [hll]
 have HBLK := Lib.hid hblk; have HU4 := Lib.hid hu4; have HGP := Lib.hid hgP
 have hm4 := (hu4.block _ (lt_of_heap HM3.out) (fun e => e)).trans HM3.out
 have HM4 := Lib.hid hm4
 have hF3m : ¬ F3 m := fun e => by
  rcases HLOW3.out m e with q | q
  ·exact HMF.out q
  ·have := HLM.out; omega
 have HF3M := Lib.hid hF3m
 have hok3 : (fmtD D area 1).Ok (Kd + 4010) := by
  have := Dk.lays_ok (zl area) HOK.out
  rw [zl_length] at this
  exact this.mono (by omega)
 have HOK3 := Lib.hid hok3
 have hly := wlays_any (lc := cP) (g := gP) 0 (2 * (area : Int)) w4 hm4 hF3m (HD3.out.kept hu4 (fun _ _ e => e)) hok3 (by omega) hblk (fun e => by have := HD3.out.lt gP e; omega) (by rw [hll]; omega) (by omega) (by omega)
 rw [show laysL 0 (2 * (area : Int)) ((List.range (secsN ([] : List Int).length)).map (cutF 1 1 true [])) = fmt2 area from laysL_part (hd := fmtH area) (number := 1) bytes_nil (by show (0 : Int) < area; omega) rfl, hll] at hly
 have HLY := Lib.hid hly
 clear hP hgP hgP2 hL64 hblk hu4 hm4 hF3m hok3 hly hll
 simp only []
 go_wp2_with (go_at_call 136; fail)
 refine HLY.out.mono ?_
 rintro e w5 ⟨rfl, F5, hd5, hf5, hu5⟩
 have HD5 := Lib.hid hd5
 have HLOW5 : RowKit.Hid (∀ k, F5 k → F k ∨ w.heap.size + 2 ≤ k) := Lib.hid (fun k hk => (hf5 k hk).elim (HLOW3.out k) (fun e => .inr (by have := HU4.out.size; have h3 := lt_of_heap HH3.out; have := HBH.out; have := HU03.out.size; have := HS2.out; have := HU3.out.size; omega)))
 have hm5 := (hu5.block _ (lt_of_heap HM4.out) HF3M.out).trans HM4.out
 have HM5 := Lib.hid hm5
 have hF3b : ¬ F3 bh := fun e => by
  rcases HLOW3.out bh e with q | q
  ·have := HTL.out _ q; have := HBH.out; omega
  ·have := HBH.out; omega
 have hh4 := (HU4.out.block _ (lt_of_heap HH3.out) (fun e => e)).trans HH3.out
 have hh5 := (hu5.block _ (lt_of_heap hh4) hF3b).trans hh4
 have HH5 := Lib.hid hh5
 have HU05 : RowKit.Hid (Upd F w w5) := Lib.hid ((HU03.out.trans (HU4.out.mono (fun _ _ e => e.elim))).step hu5 (fun k hk e => (HLOW3.out k e).elim id (fun q => by omega)))
 obtain ⟨E2, hE2⟩ : ∃ E2, E2 = (D.lays (fmt1 area)).laysE (fmt2 area) := ⟨_, rfl⟩
 rw [show (D.lays (fmt1 area)).laysE (fmt2 area) = E2 from hE2.symm] 
 have HE2 := Lib.hid hE2
 have HS5 : RowKit.Hid (w.heap.size + 2 ≤ w5.heap.size) := Lib.hid (by have h1 := HS2.out; have h2 := HU3.out.size; have h3 := HU4.out.size; have h4 := hu5.size; omega)
 clear hd5 hf5 hu5 hm5 hF3b hh4 hh5 hE2 HLY HBLK
 simp only []
 by_cases hE0 : E2 = 0
 rotate_left
 ·have hEb2 : (E2 != 0) = true := by simpa using hE0
  have hRR : R = (none, E2, fmtD D area 2) := by rw [HRE.out]; unfold fmtG; rw [if_pos HE1.out.symm, if_neg (by show (D.lays (fmt1 area)).laysE (fmt2 area) ≠ 0; rw [← HE2.out]; exact hE0), HE2.out]; rfl
  have HRR := Lib.hid hRR
  clear hE0 hRR
  go_wp2
  go_ret
  rw [HRR.out]
  refine ⟨rfl, F5, C, HD5.out, fun k hk => (HLOW5.out k hk).imp_right (fun e => by omega), fun k hk => .inl hk, fun k hk e => ?_, HU05.out.mono (fun _ _ e => .inl e), HMD.out.kept HU05.out HCF.out HMF.out⟩
  rcases HLOW5.out k e with q | q
  ·exact HCF.out k hk q
  ·have := HCLT.out k hk; omega
 subst hE0
 have hF5m : ¬ F5 m := fun e => by
  rcases HLOW5.out m e with q | q
  ·exact HMF.out q
  ·have := HLM.out; omega
 have HF5M := Lib.hid hF5m
 have hok5 : (fmtD D area 2).Ok (Kd + 4020) := by
  have := Dk.lays_ok (partSc (fmtH area) 1 0 true [] bytes_nil) HOK3.out
  rw [partSc_length, secsN_nil] at this
  exact this.mono (by omega)
 have hhd := whead_any (m := m) (p := p) (hd := X.h) (pv := .slice pa X.parts.length pc) (av := .slice aa an ac) (br := X.broken) (no := no) (fmtH area) w5 HM5.out hF5m HD5.out hok5 (by omega) (fmtH_u32 har.2)
 have HHD := Lib.hid hhd
 have hh := HH5.out
 obtain ⟨e0, e1, e2, e3⟩ := cells4_of hh
 clear hF5m hok5 hhd hh
 unfold Hd.val at HHD
 go_wp2_with (go_at_call 128; fail)
 refine HHD.out.mono ?_
 rintro e w6 ⟨rfl, F6, hd6, hf6, hu6⟩
 have HD6 := Lib.hid hd6
 have HLOW6 : RowKit.Hid (∀ k, F6 k → F k ∨ w.heap.size + 2 ≤ k) := Lib.hid (fun k hk => (hf6 k hk).elim (HLOW5.out k) (fun e => .inr (Nat.le_trans HS5.out e)))
 have hm6 := (hu6.block _ (lt_of_heap HM5.out) HF5M.out).trans HM5.out
 have HM6 := Lib.hid hm6
 have hF5b : ¬ F5 bh := fun e => by
  rcases HLOW5.out bh e with q | q
  ·have := HTL.out _ q; have := HBH.out; omega
  ·have := HBH.out; omega
 have hh6 := (hu6.block _ (lt_of_heap HH5.out) hF5b).trans HH5.out
 have HH6 := Lib.hid hh6
 have HU06 : RowKit.Hid (Upd F w w6) := Lib.hid (HU05.out.step hu6 (fun k hk e => (HLOW5.out k e).elim id (fun q => by omega)))
 obtain ⟨E3, hE3⟩ : ∃ E3, E3 = ((D.lays (fmt1 area)).lays (fmt2 area)).laysE (fmt3 area) := ⟨_, rfl⟩
 rw [show ((D.lays (fmt1 area)).lays (fmt2 area)).laysE (raw [headSc (fmtH area)]) = E3 from hE3.symm]
 have HE3 := Lib.hid hE3
 clear hd6 hf6 hu6 hm6 hF5b hh6 hE3 HHD e0 e1 e2 e3
 simp only []
 by_cases hE0 : E3 = 0
 rotate_left
 ·have hEb2 : (E3 == 0) = false := by simpa using hE0
  have hRR : R = (none, E3, fmtD D area 3) := by rw [HRE.out]; unfold fmtG; rw [if_pos HE1.out.symm, if_pos (show (fmtD D area 1).laysE (fmt2 area) = 0 from HE2.out.symm), if_neg (by show ((D.lays (fmt1 area)).lays (fmt2 area)).laysE (fmt3 area) ≠ 0; rw [← HE3.out]; exact hE0), HE3.out]; rfl
  have HRR := Lib.hid hRR
  clear hE0 hRR
  go_wp2
  go_ret
  rw [HRR.out]
  refine ⟨rfl, F6, C, HD6.out, fun k hk => (HLOW6.out k hk).imp_right (fun e => by omega), fun k hk => .inl hk, fun k hk e => ?_, HU06.out.mono (fun _ _ e => .inl e), HMD.out.kept HU06.out HCF.out HMF.out⟩
  rcases HLOW6.out k e with q | q
  ·exact HCF.out k hk q
  ·have := HCLT.out k hk; omega
 subst hE0
 have hRR : R = (some (fmtX area), 0, fmtD D area 3) := by rw [HRE.out]; unfold fmtG; rw [if_pos HE1.out.symm, if_pos (show (fmtD D area 1).laysE (fmt2 area) = 0 from HE2.out.symm), if_pos (show (fmtD D area 2).laysE (fmt3 area) = 0 from HE3.out.symm)]
 have HRR := Lib.hid hRR
 clear hRR
 have hh := HH6.out
 obtain ⟨e0, e1, e2, e3⟩ := cells4_of hh
 clear hh
 go_upto_region 12 with fail
 iterate 28 go_step
 obtain ⟨w8, hw8⟩ : ∃ w8, w8 = (w6.alloc (.cells #[] 5)).alloc (.cells #[.slice (some ⟨w6.heap.size, 0, none⟩) 0 0] 39) := ⟨_, rfl⟩
 refine (?_ : wpList _ _ _ _ _ ((w6.alloc (.cells #[] 5)).alloc (.cells #[.slice (some ⟨w6.heap.size, 0, none⟩) 0 0] 39)))
 have hu8 : Upd (fun _ => False) w6 w8 := by rw [hw8]; exact ((Upd.refl _ _).alloc _).alloc _
 have hg8 : w8.heap[w6.heap.size + 1]? = some (.cells #[.slice (some ⟨w6.heap.size, 0, none⟩) 0 0] 39 (0, 0)) := by rw [hw8]; exact alloc_at (by simp)
 have hx8 : w8.heap[w6.heap.size]? = some (.cells #[] 5 (0, 0)) := by rw [hw8]; exact (alloc_lt (by simp)).trans (alloc_at rfl)
 have hm8 := (hu8.block _ (lt_of_heap HM6.out) (fun e => e)).trans HM6.out
 rw [← hw8]
 have HM8 := Lib.hid hm8; have HU8 := Lib.hid hu8; have HG8 := Lib.hid hg8; have HX8 := Lib.hid hx8
 clear hw8 hu8 hg8 hx8 hm8 e0 e1 e2 e3
 refine wpList_store_mid rfl 35 (.tmp 55) (.tmp 53) rfl m 1 #[.int .i64 1, .int .i64 area, .int .i64 0, .int .i64 1, .slice (some ⟨w6.heap.size + 1, 0, none⟩) 1 1, .slice none 0 0] rfl rfl (by have := there_sub (o := 1) (m := 6) HM8.out (by simp [mdC]); exact this) (by kernel_rfl) (by simp [Value.oneCell']) ?_
 refine (?_ : wpList _ _ _ _ _ (w8.setCells m 1 [.int .i64 1, .int .i64 area, .int .i64 0, .int .i64 1, .slice (some ⟨w6.heap.size + 1, 0, none⟩) 1 1, .slice none 0 0]))
 obtain ⟨w10, hw10⟩ : ∃ w10, w10 = w8.setCells m 1 [.int .i64 1, .int .i64 area, .int .i64 0, .int .i64 1, .slice (some ⟨w6.heap.size + 1, 0, none⟩) 1 1, .slice none 0 0] := ⟨_, rfl⟩
 have hm10 : w10.heap[m]? = some (.cells (mdC p (fmtH area) (.slice (some ⟨w6.heap.size + 1, 0, none⟩) 1 1) (.slice none 0 0) X.broken no) 37 (0, 0)) := by
  rw [hw10]
  have := heap_setCells_at (o := 1) (vs := [.int .i64 1, .int .i64 area, .int .i64 0, .int .i64 1, .slice (some ⟨w6.heap.size + 1, 0, none⟩) 1 1, .slice none 0 0]) (old := [.pointer (some ⟨p, 0, none⟩), .int .i64 X.h.turn, .int .i64 X.h.area, .int .i64 X.h.place, .int .i64 X.h.number, .slice pa X.parts.length pc, .slice aa an ac, .bool X.broken, .bool no]) HM8.out (by simp)
  exact this
 have hu10 : Upd (fun k => k = m) w8 w10 := by rw [hw10]; exact Upd.setCells (b := m) (F := fun j => j = m) rfl _ 1 (Upd.refl _ w8)
 rw [← hw10]
 clear hw10
 have HM10 := Lib.hid hm10; have HU10 := Lib.hid hu10
 have f7 : w10.frozen? ⟨m, 7, none⟩ = false := frozen_of_heap hm10
 have f8 : w10.frozen? ⟨m, 8, none⟩ = false := frozen_of_heap hm10
 rw [mdc_lit] at hm10
 obtain ⟨c0, c1, c2, c3, c4, c5, c6, c7, c8⟩ := cells9_of hm10
 clear hm10 hu10
 go_wp2
 go_ret
 obtain ⟨w12, hw12⟩ : ∃ w12, w12 = (w10.setCell ⟨m, 7, none⟩ (.bool false)).setCell ⟨m, 8, none⟩ (.bool false) := ⟨_, rfl⟩
 have hm12 : w12.heap[m]? = some (.cells (mdC p (fmtH area) (.slice (some ⟨w6.heap.size + 1, 0, none⟩) 1 1) (.slice none 0 0) false false) 37 (0, 0)) := by
  rw [hw12]
  exact block_setCell (i := 8) (block_setCell (i := 7) HM10.out (.bool false)) (.bool false)
 have hu12 : Upd (fun k => k = m) w10 w12 := by rw [hw12]; exact (upd_own _ _ _ _).trans (upd_own _ _ _ _)
 rw [← hw12]
 have hlm := HLM.out
 have hs6 := HU06.out.size; have hs8 := HU8.out.size; have hs10 := HU10.out.size
 have hF6m : ¬ F6 m := fun e => by
  rcases HLOW6.out m e with q | q
  ·exact HMF.out q
  ·omega
 have hnm : ∀ k, k = m → ¬ F6 k := fun k e hk => hF6m (by rw [← e]; exact hk)
 have hu8m : Upd (fun k => k = m) w8 w12 := HU10.out.trans hu12
 have hu012 : Upd (fun k => F k ∨ k = m) w w12 := (HU06.out.mono (fun _ _ e => .inl e)).trans ((HU8.out.mono (F := fun _ => False) (G := fun k => F k ∨ k = m) (fun _ _ e => e.elim)).trans (hu8m.mono (fun _ _ e => .inr e)))
 have hbe : BIn (fun k => k = w6.heap.size) w12 (some ⟨w6.heap.size, 0, none⟩) 0 [] := ⟨fun k hk => by
  rw [hk]
  have := lt_of_heap HX8.out
  exact Nat.lt_of_lt_of_le this hu8m.size, fun W _ => .inr ⟨_, 0, rfl, Nat.le_refl _, Nat.zero_le _, fun i u hi => by simp [bcells] at hi⟩, Nat.le_refl _⟩
 have hg12 := (hu8m.block _ (lt_of_heap HG8.out) (fun e => by have e2 : w6.heap.size + 1 = m := e; have := lt_of_heap HM6.out; omega)).trans HG8.out
 have hpo := PIn.one hbe hg12
 rw [HRR.out]
 refine ⟨rfl, F6, fun k => k = w6.heap.size ∨ k = w6.heap.size + 1, (HD6.out.kept HU8.out (fun _ _ e => e)).kept hu8m (fun k hk e => hnm k e hk), fun k hk => (HLOW6.out k hk).imp_right (fun e => by omega), fun k hk => .inr (by rcases hk with rfl | rfl <;> omega), fun k hk e => ?_, hu012, ⟨⟨_, _, _, _, _, hm12, hpo, Nat.le_refl _, by unfold maxLen; omega, fun e => by cases e⟩, fun k hk => ?_⟩⟩
 ·have := HD6.out.lt k e
  rcases hk with rfl | rfl <;> omega
 ·have := lt_of_heap HM6.out
  rcases hk with rfl | rfl <;> omega
theorem splice_blk : ∀ (L : List (List Int)) (k : Nat) (x : List Int), k < L.length → (∀ b ∈ L, b.length = 64) → x.length = 64 → splice (L.flatMap bcells) (k * 64) (bcells x) = (L.set k x).flatMap bcells
 | [], k, x, hk, _, _ => by simp at hk
 |y :: L, 0, x, _, hl, hx => by
  have hy : (bcells y).length = 64 := by rw [bcells_length]; exact hl y (by simp)
  have hx2 : (bcells x).length = 64 := by rw [bcells_length]; exact hx
  unfold splice
  rw [Nat.zero_mul, List.take_zero, List.nil_append, Nat.zero_add, hx2, List.flatMap_cons, List.drop_append_of_le_length (by omega), List.drop_of_length_le (by omega), List.nil_append, List.set_cons_zero, List.flatMap_cons]
 |y :: L, k + 1, x, hk, hl, hx => by
  have hy : (bcells y).length = 64 := by rw [bcells_length]; exact hl y (by simp)
  have hx2 : (bcells x).length = 64 := by rw [bcells_length]; exact hx
  have ih := splice_blk L k x (by simpa using hk) (fun b hb => hl b (by simp [hb])) hx
  unfold splice at ih ⊢
  rw [hx2] at ih ⊢
  rw [List.set_cons_succ, List.flatMap_cons, List.flatMap_cons, ← ih, List.take_append, List.drop_append, hy, List.take_of_length_le (by omega), List.drop_of_length_le (by omega)]
  simp only [List.nil_append, List.append_assoc]
  congr 2
  ·congr 1
   omega
  ·congr 2
   omega
theorem flat_zero : ∀ n : Nat, (List.replicate n zblk).flatMap bcells = bcells (List.replicate (n * 64) 0)
 | 0 => rfl
 |n + 1 => by
  have hz : bcells zblk = List.replicate 64 (.int .u8 0) := by kernel_rfl
  rw [List.replicate_succ, List.flatMap_cons, flat_zero n, hz, bcells_zero, bcells_zero, List.replicate_append_replicate]
  congr 1
  omega
def Dk.calmD (D : Dk) : Dk := { D with arm := -1, fail := -1 }
theorem Dk.Ok.calmD {D : Dk} {K : Nat} (h : D.Ok K) : D.calmD.Ok K := ⟨h.len, h.blks, h.rblks, h.sorted, h.sent, h.ops, by show (-1 : Int) ≤ -1 ∧ (-1 : Int) ≤ 9223372036854775807; omega, by show (-1 : Int) ≤ -1 ∧ (-1 : Int) ≤ 9223372036854775807; omega, h.rowlen⟩
structure PlSt (w W : World) (pc g N : Nat) (S : Int → List Int) (n k Kd : Nat) : Prop where
 dsk : ∃ E Fc, Dsk W pc E Fc ∧ E.Good N ∧ E.S = S ∧ E.Ok (Kd + k) ∧ (∀ j, Fc j → w.heap.size ≤ j ∧ j ≠ g)
 out : ∃ L : List (List Int), L.length = n ∧ (∀ x ∈ L, okBlk x) ∧ (∀ i, i < k → L[i]? = some (S (2 + (i : Int)))) ∧ W.heap[g]? = some (.cells (L.flatMap bcells).toArray 48 (0, 0))
 low : w.heap.size ≤ g
 upd : Upd (fun _ => False) w W
theorem wmplaces_any {m p Kd area : Nat} {hd : Hd} {pv av : Value} {br no : Bool} {D : Dk} {F : Nat → Prop} (w : World) (hm : w.heap[m]? = some (.cells (mdC p hd pv av br no) 37 (0, 0))) (hD : Dsk w p D F) (hok : D.Ok Kd) (hK : Kd ≤ 1099511500000) (hdead : D.dead = false) (ha : 1 ≤ area ∧ area ≤ 1000) (hl : 2 + 2 * area ≤ D.arr.length) :
  Calls Tryz.prog 134 #[.pointer (some ⟨m, 0, none⟩), .int .i64 area] w fun e w' => ∃ g, e = .returned (.slice (some ⟨g, 0, none⟩) (2 * area) (2 * area)) ∧ w.heap.size ≤ g ∧ BlksAt w' (some ⟨g, 0, none⟩) ((List.range (2 * area)).map fun (i : Nat) => D.S (2 + (i : Int))) ∧ Upd (fun _ => False) w w' := by
 have HOK := Lib.hid hok; have HD := Lib.hid hD; have HL := Lib.hid hl; have HDE := Lib.hid hdead
 rw [mdc_lit] at hm
 obtain ⟨c0, c1, c2, c3, c4, c5, c6, c7, c8⟩ := cells9_of hm
 have hw1 : IntKind.i64.wrap (2 * (area : Int)) = 2 * area := by rw [IntKind.wrap_i64]; omega
 have hmk := makeB_run (n := 2 * area) (by omega)
 push_cast at hmk
 clear hm hD hok hl hdead
 go_enter Tryz.func134, Tryz.ntmps134
 go_wp2_with (go_at_call 38; fail)
 refine (copy_run w HD.out (HOK.out.mono (by omega))).mono ?_
 rintro e w1 ⟨rfl, g, c, hC⟩
 obtain ⟨Fc, hDc, hFc, hu1⟩ := hC.dsk
 have HDC := Lib.hid hDc; have HFC := Lib.hid hFc; have HU1 := Lib.hid hu1
 obtain ⟨pc, hpc⟩ : ∃ pc, pc = w.heap.size := ⟨_, rfl⟩
 rw [← hpc] at HDC ⊢
 have HPC := Lib.hid hpc
 clear hC hDc hFc hu1 hpc c0 c1 c2 c3 c4 c5 c6 c7 c8
 simp only []
 go_wp2_with (go_at_call 39; fail)
 clear hmk hw1
 obtain ⟨w2, hw2⟩ : ∃ w2, w2 = w1.alloc (.cells (bcells (List.replicate (2 * area * 64) 0)).toArray 48) := ⟨_, rfl⟩
 have hu2 : Upd (fun _ => False) w1 w2 := by rw [hw2]; exact (Upd.refl _ _).alloc _
 obtain ⟨gz, hgz⟩ : ∃ gz, gz = w1.heap.size := ⟨_, rfl⟩
 have hz2 : w2.heap[gz]? = some (.cells (bcells (List.replicate (2 * area * 64) 0)).toArray 48 (0, 0)) := by rw [hw2]; exact alloc_at hgz
 rw [← hw2, ← hgz]
 have HZ2 := Lib.hid hz2; have HGZ := Lib.hid hgz
 have hd2 := HDC.out.kept hu2 (fun _ _ e => e)
 have hgF : ∀ j, Fc j → j ≠ gz := fun j hj e => by have := HDC.out.lt j hj; omega
 have HGF := Lib.hid hgF
 have HD2 := Lib.hid hd2; have HU2 := Lib.hid hu2
 clear hw2 hgz hz2 hgF hd2 hu2
 refine (doArm_any (-1) w2 HD2.out).mono ?_
 rintro e w3 ⟨rfl, hd3, hu3⟩
 rw [show D.awake = 0 by unfold Dk.awake; rw [HDE.out]; rfl]
 have HD3 := Lib.hid hd3; have HU3 := Lib.hid hu3
 clear hd3 hu3
 simp only []
 go_wp2_with (go_at_call 59; fail)
 refine (doFail_any (-1) w3 HD3.out).mono ?_
 rintro e w4 ⟨rfl, hd4, hu4⟩
 have hdE : ((D.doArm (-1)).doFail (-1)) = D.calmD := by
  unfold Dk.doArm Dk.doFail Dk.calmD
  simp [HDE.out]
 rw [hdE] at hd4
 rw [show (D.doArm (-1)).awake = 0 by unfold Dk.awake Dk.doArm; simp [HDE.out]]
 have hpF : Fc pc := HDC.out.mem
 have hzl := HGF.out pc hpF
 have HST : RowKit.Hid (PlSt w w4 pc gz D.arr.length D.S (2 * area) 0 Kd) := Lib.hid ⟨⟨D.calmD, Fc, hd4, ⟨HDE.out, rfl, rfl, rfl⟩, rfl, HOK.out.calmD, fun j hj => ⟨HFC.out j hj, HGF.out j hj⟩⟩,
  ⟨List.replicate (2 * area) zblk, by simp, fun x hx => by rw [(List.mem_replicate.1 hx).2]; exact zblk_ok, fun i hi => by omega, ?_⟩, by rw [HGZ.out]; exact HU1.out.size, ?_⟩
 rotate_left
 ·rw [flat_zero]
  have h3 := (HU3.out.block _ (lt_of_heap HZ2.out) (fun e => hzl (show gz = pc from e).symm)).trans HZ2.out
  exact (hu4.block _ (lt_of_heap h3) (fun e => hzl (show gz = pc from e).symm)).trans h3
 ·have hlo : ∀ k, k < w.heap.size → ¬ k = pc := fun k hk e => by have := HFC.out pc hpF; omega
  exact (((HU1.out.trans HU2.out).step HU3.out (fun k hk e => hlo k hk e))).step hu4 (fun k hk e => hlo k hk e)
 clear hd4 hu4 hdE hpF hzl HD3 HU3 HD2 HU2 HZ2 HGF HGZ HDC HFC HU1
 simp only []
 go_upto_region 6 with fail
 go_loopg [27] (2 * area) (fun gk i wr => ∃ k : Nat, k ≤ 2 * area ∧ gk = 2 * area - k ∧ i = .int .i64 k ∧ PlSt w wr pc gz D.arr.length D.S (2 * area) k Kd)
 case atStart => exact ⟨0, Nat.zero_le _, rfl, rfl, HST.out⟩
 case round =>
  clear HST
  obtain ⟨k, hk, rfl, rfl, hs⟩ := hrel
  obtain ⟨wo, rfl⟩ : ∃ wo, wo = wr := ⟨_, rfl⟩
  obtain ⟨⟨E, F2, h1, h2, h3, h4, h5⟩, ⟨L, l1, l2, l3, l4⟩, hlow, hup⟩ := hs
  have H1 := Lib.hid h1; have H2 := Lib.hid h2; have H3 := Lib.hid h3; have H4 := Lib.hid h4; have H5 := Lib.hid h5; have L1 := Lib.hid l1; have L2 := Lib.hid l2; have L3 := Lib.hid l3; have L4 := Lib.hid l4; have HLOW := Lib.hid hlow; have HUP := Lib.hid hup
  clear h1 h2 h3 h4 h5 l1 l2 l3 l4 hlow hup
  by_cases hkn : k < 2 * area
  ·have hki : (k : Int) < 2 * area := by omega
   have hwk : IntKind.i64.wrap (2 + (k : Int)) = 2 + k := by rw [IntKind.wrap_i64]; omega
   have hw1 : IntKind.i64.wrap ((k : Int) + 1) = k + 1 := by rw [IntKind.wrap_i64]; omega
   obtain ⟨g1, g2, g3, g4⟩ := H2.out.callR (i := 2 + (k : Int)) (by have := HL.out; omega)
   have hrd := read_any (2 + (k : Int)) wo H1.out (H4.out.mono (by omega))
   rw [g1, g3, H3.out] at hrd
   have HRD := Lib.hid hrd; have G2 := Lib.hid g2; have G4 := Lib.hid g4
   have hx := reads_blk (H4.out.mono (show Kd + k ≤ 1099511627774 by omega)) (2 + (k : Int))
   rw [g3, H3.out] at hx
   have HX := Lib.hid hx
   clear hrd g1 g2 g3 g4 hx
   go_wp2_with (go_at_call 17; fail)
   refine HRD.out.mono ?_
   rintro e w5 ⟨rfl, hd5, hu5⟩
   have HD5 := Lib.hid hd5
   have hg : ¬ F2 gz := fun e => (H5.out gz e).2 rfl
   have hz5 := (hu5.block _ (lt_of_heap L4.out) hg).trans L4.out
   have HZ5 := Lib.hid hz5
   have HU5 : RowKit.Hid (Upd (fun _ => False) w w5) := Lib.hid (HUP.out.step hu5 (fun j hj e => by have := (H5.out j e).1; omega))
   clear hd5 hu5 hg hz5 HRD
   simp only []
   obtain ⟨x, hxd⟩ : ∃ x, x = D.S (2 + (k : Int)) := ⟨_, rfl⟩
   rw [← hxd] at HX ⊢
   have HXD := Lib.hid hxd
   have hi : (Tryz.prog.info? 48).map (·.size) = some (bcells x).length := by rw [Tryz.info56p]; simp [bcells, HX.out.1]
   have HI := Lib.hid hi
   have H1B := Lib.hid (all_oneCell_toArray (bcells_one x))
   clear hxd hi
   iterate 13 go_step
   have h64 : k * 64 + (bcells x).length ≤ (L.flatMap bcells).length := by
    have hll : ∀ M : List (List Int), (∀ b ∈ M, b.length = 64) → (M.flatMap bcells).length = M.length * 64 := fun M => by
     induction M with
     |nil => intro _; rfl
     |cons y M ih =>
      intro h
      rw [List.flatMap_cons, List.length_append, bcells_length, h y (by simp), ih (fun b hb => h b (by simp [hb])), List.length_cons]
      omega
    rw [hll L (fun b hb => (L2.out b hb).1), L1.out, bcells_length, HX.out.1]
    omega
   have H64 := Lib.hid h64
   clear h64
   refine wpList_store_mid rfl 48 (.tmp 39) (.tmp 37) rfl gz (k * 64) (bcells x).toArray rfl rfl (by have := there_sub (o := k * 64) (m := (bcells x).length) HZ5.out (by simpa using H64.out); simpa using this) (by rw [HI.out]; simp) H1B.out ?_
   rw [show (bcells x).toArray.toList = bcells x from rfl]
   obtain ⟨w6, hw6⟩ : ∃ w6, w6 = w5.setCells gz (k * 64) (bcells x) := ⟨_, rfl⟩
   have hz6 : w6.heap[gz]? = some (.cells ((L.set k x).flatMap bcells).toArray 48 (0, 0)) := by
    have hsp := splice_blk L k x (by rw [L1.out]; exact hkn) (fun b hb => (L2.out b hb).1) HX.out.1
    unfold splice at hsp
    rw [← List.append_assoc] at hsp
    rw [hw6, heap_setCells_at HZ5.out H64.out, hsp]
   have hu6 : Upd (fun j => j = gz) w5 w6 := by rw [hw6]; exact Upd.setCells (b := gz) (F := fun j => j = gz) rfl _ _ (Upd.refl _ w5)
   rw [← hw6]
   have HZ6 := Lib.hid hz6; have HU6 := Lib.hid hu6
   clear hw6 hz6 hu6 H1B HI H64
   go_wp2
   go_roundg (2 * area - (k + 1))
   case measure => omega
   case rel =>
    refine ⟨k + 1, by omega, rfl, rfl, ⟨⟨_, F2, HD5.out.kept HU6.out (fun j hj e => (H5.out j hj).2 e), G2.out, by rw [G4.out]; exact H3.out, (H4.out.callD _ _).mono (by omega), H5.out⟩, ⟨L.set k x, by rw [List.length_set]; exact L1.out, fun y hy => ?_, fun i hi => ?_, HZ6.out⟩, HLOW.out, HU5.out.step HU6.out (fun j hj e => by have e2 : j = gz := e; have := HLOW.out; omega)⟩⟩
    ·rcases List.mem_or_eq_of_mem_set hy with hy | rfl
     ·exact L2.out y hy
     ·exact HX.out
    ·rw [List.getElem?_set]
     by_cases hik : k = i
     ·subst hik
      rw [if_pos rfl, if_pos (by rw [L1.out]; exact hkn), HXD.out]
     ·rw [if_neg hik]
      exact L3.out i (by omega)
  ·obtain rfl : k = 2 * area := by omega
   go_wp2
   go_ret
   have hLe : L = (List.range (2 * area)).map fun (i : Nat) => D.S (2 + (i : Int)) := by
    apply List.ext_getElem?
    intro i
    rcases Nat.lt_or_ge i (2 * area) with hi | hi
    ·rw [L3.out i hi]; simp [hi]
    ·rw [List.getElem?_eq_none (by rw [L1.out]; exact hi), List.getElem?_eq_none (by simp; omega)]
   refine ⟨gz, rfl, HLOW.out, ⟨fun y hy => (L2.out y (by rw [hLe]; exact hy)).1, fun y hy => (L2.out y (by rw [hLe]; exact hy)).2, gz, rfl, fun i y hy j u hu => ?_⟩, HUP.out⟩
   rw [← hLe] at hy
   rw [cell_of_heap L4.out]
   simpa using flat_blk L i y hy (fun b hb => (L2.out b hb).1) j u hu
structure WhIn (h : Hd) (number left : Int) (p : Nat) (Ls : List (List Int)) : Prop where
 turn : 1 ≤ h.turn ∧ h.turn ≤ 1073741824
 number : 0 ≤ number ∧ number ≤ 4294967295
 left : 0 ≤ left ∧ left ≤ 1000
 place : p ≤ 1000000
 len : 1 ≤ Ls.length ∧ Ls.length ≤ 2000
def WhAns (w : World) (r : Option (List Int) × Nat) (e : Ending) (w' : World) : Prop :=
 Upd (fun _ => False) w w' ∧ ∃ v, e = .returned (.tuple #[v, .int .i64 r.2, .bool r.1.isSome]) ∧ ∀ b, r.1 = some b → ∃ g o c, v = .slice (some ⟨g, o, none⟩) b.length c ∧ w.heap.size ≤ g ∧ g < w'.heap.size ∧ BytesIn w' (.slice (some ⟨g, o, none⟩) b.length c) b
theorem slice_atL {ga n gc fr tn : Nat} (h1 : fr ≤ tn) (h2 : tn ≤ n) (h3 : n ≤ gc) (h4 : fr < gc) (W : World) :
  (Instr.sliceAt 39 (.slice (some ⟨ga, 0, none⟩) n gc) (some (.int .i64 fr)) (some (.int .i64 tn)) none).run Tryz.prog W = .ok (.slice (some ⟨ga, fr, none⟩) (tn - fr) (gc - fr)) W := by
 have ht : Tryz.prog.underlying 39 = some (.slice (Tryz.prog.elem 39)) := by kernel_rfl
 have hz : (sizeOf (Tryz.prog.elem 39)).run Tryz.prog W = .ok 1 W := by kernel_rfl
 rw [run_sliceAt_slice W 39 _ _ _ _ ht, run_slice_lh W 39 (some ⟨ga, 0, none⟩) n gc ht .i64 .i64 _ _ (by omega) (by omega) (by omega), hz]
 have hne : ¬ gc = fr := by omega
 simp [sliced, hne, Addr.add]
 exact fun h => h.symm
theorem sub_inL {W : World} {ga n gc fr tn : Nat} {bs : List Int} (h2 : tn ≤ n) (hn : n = bs.length) (h : BytesIn W (.slice (some ⟨ga, 0, none⟩) n gc) bs) : BytesIn W (.slice (some ⟨ga, fr, none⟩) (tn - fr) (gc - fr)) ((bs.drop fr).take (tn - fr)) := by
 have hlen : ((bs.drop fr).take (tn - fr)).length = tn - fr := by simp; omega
 rcases h with ⟨h, _⟩ | ⟨b, c', h, g1, g2, g3⟩
 ·cases h
 ·injection h with e1 e2 e3
  injection e1 with e1
  subst e1
  subst e3
  refine .inr ⟨⟨ga, fr, none⟩, gc - fr, by rw [hlen], by omega, by omega, fun i u hi => ?_⟩
  have hil : i < tn - fr := by
   have := (List.getElem?_eq_some_iff.1 hi).1
   have h2 : (bcells ((bs.drop fr).take (tn - fr))).length = tn - fr := by simp only [bcells, List.length_map]; exact hlen
   omega
  have := g3 (fr + i) u (by rw [← hi]; simp [bcells, hil])
  rw [Addr.add_mid, Nat.zero_add] at this
  rw [Addr.add_mid]
  exact this
theorem own_nilL (W : World) : OwnB (W.alloc (.cells #[] 5)) W.heap.size (.slice (some ⟨W.heap.size, 0, none⟩) 0 0) [] :=
 ⟨rfl, .inr ⟨W.heap.size, 0, _, rfl, Nat.le_refl _, alloc_at rfl, Nat.le_refl _, by unfold maxLen; omega, rfl, rfl⟩⟩
theorem one_inL (w : World) (x : Int) : BytesIn (w.alloc (.cells #[.int .u8 x] 5)) (.slice (some ⟨w.heap.size, 0, none⟩) 1 1) [x] := by
 refine .inr ⟨⟨w.heap.size, 0, none⟩, 1, rfl, by simp, by unfold maxLen; omega, fun i u hi => ?_⟩
 rw [Addr.add_mid, Nat.zero_add, cell_of_heap (alloc_at rfl)]
 simpa [bcells] using hi
theorem ownK_bytesL {T : Nat → List Int} (hT : ∀ j, Bytes (T j)) (n k : Nat) : Bytes (ownK T n k) := by
 intro x hx
 unfold ownK padTo at hx
 rcases List.mem_append.1 hx with hx | hx
 ·have h1 := List.mem_of_mem_drop (List.mem_of_mem_take hx)
  unfold flatT at h1
  obtain ⟨j, _, hj⟩ := List.mem_flatMap.1 h1
  exact hT j x (List.mem_of_mem_drop hj)
 ·obtain ⟨_, rfl⟩ := List.mem_replicate.1 hx
  omega
theorem goR_step {T : Nat → List Int} {t number : Int} {snap : Bool} {N m k : Nat} : (cutF t number snap (ownK T N (k + 1)) k = T k → goR T t number snap N (m + 1) k = goR T t number snap N m (k + 1)) ∧ (cutF t number snap (ownK T N (k + 1)) k ≠ T k → goR T t number snap N (m + 1) k = (none, k + 1)) := by
 constructor
 ·intro e; conv => lhs; unfold goR
  rw [if_pos e]
 ·intro e; conv => lhs; unfold goR
  rw [if_neg e]
theorem wwhole_any {la : Option Addr} {lc p : Nat} {Ls : List (List Int)} (hd : Hd) (number left : Int) (snap : Bool) (w : World) (hL : BlksAt w la Ls) (hw : WhIn hd number left p Ls) :
  Calls Tryz.prog 174 #[hd.val, .slice la Ls.length lc, .int .i64 number, .int .i64 p, .bool snap, .int .i64 left] w (WhAns w (wholeR (fun k => blkAt Ls (p + k)) hd number snap left)) := by
 have HL := Lib.hid hL; have HW := Lib.hid hw
 obtain ⟨R, hR⟩ : ∃ R, R = wholeR (fun k => blkAt Ls (p + k)) hd number snap left := ⟨_, rfl⟩
 rw [← hR]
 have HR := Lib.hid hR
 clear hR
 unfold Hd.val
 by_cases hl0 : left = 0
 ·have hr : R = (none, 0) := by rw [HR.out]; unfold wholeR; rw [if_pos hl0]
  have HRR := Lib.hid hr
  clear hr hL hw
  subst hl0
  go_enter Tryz.func174, Tryz.ntmps174
  go_wp2
  go_ret3
  exact ⟨(Upd.refl _ _).alloc _, _, by rw [HRR.out]; rfl, fun b e => by rw [HRR.out] at e; cases e⟩
 ·obtain ⟨g, rfl, hcell⟩ := hL.cell
  obtain ⟨n, hn⟩ : ∃ n, n = Ls.length := ⟨_, rfl⟩
  obtain ⟨T, hT⟩ : ∃ T : Nat → List Int, T = fun k => blkAt Ls (p + k) := ⟨_, rfl⟩
  have hlen := hw.len
  have hT64 : ∀ j, (T j).length = 64 := fun j => by rw [hT]; exact (hL.blk (by omega) _).1
  have hTB : ∀ j, Bytes (T j) := fun j => by rw [hT]; exact (hL.blk (by omega) _).2
  have hTC : ∀ j, w.rangeAt g (64 * ((p + j) % n)) (bcells (T j)) := fun j => by rw [hT, hn]; exact hcell _ _ (blkAt_some (by omega) _)
  rw [← hn] at hlen
  have hpl := hw.place; have hlf := hw.left; have htn := hw.turn; have hnu := hw.number
  have hRN : ¬ Starts hd left (T 0) → R = (none, 1) := fun e => by
   rw [HR.out, ← hT]; unfold wholeR; rw [if_neg hl0, if_neg e]
  have hRY : Starts hd left (T 0) → R = goR T (startT (T 0)) number snap (startN (T 0)).toNat (secsN (startN (T 0)).toNat) 0 := fun e => by
   rw [HR.out, ← hT]; unfold wholeR; rw [if_neg hl0, if_pos e]
  have HT64 := Lib.hid hT64; have HTB := Lib.hid hTB; have HTC := Lib.hid hTC; have HRN := Lib.hid hRN; have HRY := Lib.hid hRY
  have hne0 : (left == 0) = false := by simpa using hl0
  have hnI : ¬ (n : Int) = 0 := by omega
  have hnB : ((n : Int) == 0) = false := by simpa using hnI
  rw [← hn]
  clear hT64 hTB hTC hRN hRY hT HR hL hw HL HW hcell hn
  go_enter Tryz.func174, Tryz.ntmps174
  go_upto_region 3 with fail
  obtain ⟨bh, hbh⟩ : ∃ bh, bh = w.heap.size := ⟨_, rfl⟩
  rw [← hbh]
  refine (show ∀ w1, w1 = w.alloc (.cells #[.int .i64 hd.turn, .int .i64 hd.area, .int .i64 hd.place, .int .i64 hd.number] 31) → Code.wp _ _ _ _ w1 from ?_) _ rfl
  intro w1 hw1
  have HU1 : RowKit.Hid (Upd (fun _ => False) w w1) := Lib.hid (by rw [hw1]; exact (Upd.refl _ _).alloc _)
  have HB1 : RowKit.Hid (w1.heap[bh]? = some (.cells #[.int .i64 hd.turn, .int .i64 hd.area, .int .i64 hd.place, .int .i64 hd.number] 31 (0, 0))) := Lib.hid (by rw [hw1]; exact alloc_at hbh)
  have HBH := Lib.hid hbh
  clear hw1 hbh
  have hem : ((p : Int) % (n : Int)) = ((p % n : Nat) : Int) := rfl
  have hpn : p % n < n := Nat.mod_lt _ (by omega)
  obtain ⟨pm, hpm⟩ : ∃ pm, pm = p % n := ⟨_, rfl⟩
  rw [← hpm] at hem hpn
  have HEM := Lib.hid hem; have HPM := Lib.hid hpm
  clear hem hpm
  have hpnI : (pm : Int) < n := by omega
  iterate 16 go_step
  rw [HEM.out]
  iterate 3 go_step
  have hI0 : (Tryz.prog.info? 48).map (·.size) = some (bcells (T 0)).length := by rw [Tryz.info56p]; simp [bcells, HT64.out]
  have HI0 := Lib.hid hI0
  have H1B := Lib.hid (all_oneCell_toArray (bcells_one (T 0)))
  clear hI0
  refine wpList_load_mid rfl 48 (.tmp 29) rfl g (pm * 64) rfl (bcells (T 0)) _ (by have h1 := HTC.out 0; rw [Nat.add_zero, ← HPM.out] at h1; rw [Nat.mul_comm]; exact rangeAt_keptF h1 HU1.out (fun e => e)) Tryz.underlying48 rfl HI0.out ?_
  iterate 3 go_step
  refine (?_ : wpList _ _ _ _ _ (w1.alloc (.cells (bcells zblk).toArray 48)))
  obtain ⟨f1, f2, f3⟩ := fresh56 w1 (T 0) (HT64.out 0)
  refine wpList_store_mid rfl 48 (.tmp 15) (.tmp 30) rfl w1.heap.size 0 (bcells (T 0)).toArray rfl rfl f1 (by rw [HI0.out]; simp) H1B.out ?_
  rw [show (bcells (T 0)).toArray.toList = bcells (T 0) from rfl]
  obtain ⟨w2, hw2⟩ : ∃ w2, w2 = (w1.alloc (.cells (bcells zblk).toArray 48)).setCells w1.heap.size 0 (bcells (T 0)) := ⟨_, rfl⟩
  rw [← hw2] at f2 f3 ⊢
  obtain ⟨bx, hbx⟩ : ∃ bx, bx = w1.heap.size := ⟨_, rfl⟩
  rw [← hbx] at f2 ⊢
  have HX2 := Lib.hid f2; have HU2 := Lib.hid (HU1.out.trans f3)
  have HB2 := Lib.hid ((f3.block _ (lt_of_heap HB1.out) (fun e => e)).trans HB1.out)
  have hl0 := HT64.out 0; have hb0 := HTB.out 0
  have hst := be_bound (bs := T 0) hb0 (by omega)
  have hsn := be_bound (bs := (T 0).drop 16) (fun x hx => hb0 x (List.mem_of_mem_drop hx)) (by rw [List.length_drop]; omega)
  obtain ⟨t, ht⟩ : ∃ t, t = startT (T 0) := ⟨_, rfl⟩
  obtain ⟨N, hN⟩ := Int.eq_ofNat_of_zero_le (show 0 ≤ startN (T 0) from hsn.1)
  have hNl : (N : Int) < 4294967296 := by rw [← hN]; exact hsn.2
  have htl : 0 ≤ t ∧ t < 4294967296 := by rw [ht]; exact hst
  have hK0 := fun W h => getI_any (bx := bx) (o := 0) (c := 64) (bs := T 0) W hl0 hb0 48 (by omega) (by omega) (by omega) h
  have hK1 := fun W h => getI_any (bx := bx) (o := 16) (c := 48) (bs := T 0) W hl0 hb0 48 (by omega) (by omega) (by omega) h
  rw [show be ((T 0).drop 0) = t from ht.symm] at hK0
  rw [show be ((T 0).drop 16) = (N : Int) from hN] at hK1
  have hrn : ¬ (1 ≤ t ∧ t ≤ hd.turn ∧ (N : Int) ≤ 40000 ∧ (secsN N : Int) ≤ left) → R = (none, 1) := fun e => HRN.out (fun q => e (by unfold Starts at q; rw [← ht, hN, Int.toNat_natCast] at q; exact q))
  have hry : (1 ≤ t ∧ t ≤ hd.turn ∧ (N : Int) ≤ 40000 ∧ (secsN N : Int) ≤ left) → R = goR T t number snap N (secsN N) 0 := fun e => by
   have := HRY.out (by unfold Starts; rw [← ht, hN, Int.toNat_natCast]; exact e)
   rw [← ht, hN, Int.toNat_natCast] at this
   exact this
  have HK0 := Lib.hid hK0; have HK1 := Lib.hid hK1; have HRN := Lib.hid hrn; have HRY := Lib.hid hry
  clear f1 f2 f3 hw2 hbx hst hsn hb0 hl0 ht hN hK0 hK1 hrn hry H1B HI0 HB1
  go_upto_region 4 with fail
  have hA : Upd (fun _ => False) w2 w2.drew := (Upd.refl _ _).drew
  refine wp_region_G 5 (fun W => Upd (fun _ => False) w2 W) [false, false, false, false, false, false] rfl (by kernel_rfl) ?_
  refine wpG_takeT (i := 0) (v := .slice (some ⟨bx, 0, none⟩) 4 64) rfl (fun L hc h => (hc.waits (n := 5) (i := 0) (by kernel_rfl) h)) (by kernel_rfl) (fun _ _ _ h => h) hA (.inl ⟨rfl, fun w5 q1 => ?_⟩) ?_
  ·go_simp
  simp only [Act.put, List.setIfInBounds_toArray, List.set]
  refine wpG_takeT (i := 2) (v := .slice (some ⟨bx, 16, none⟩) 4 48) rfl (fun L hc h => (hc.waits (n := 5) (i := 2) (by kernel_rfl) h)) (by kernel_rfl) (fun _ _ _ h => h) hA (.inl ⟨rfl, fun w5 q1 => ?_⟩) ?_
  ·go_simp
  simp only [Act.put, List.setIfInBounds_toArray, List.set]
  refine wpG_doIf (i := 1) rfl (by kernel_rfl) rfl (fun K hK => ?_)
  have HKK := Lib.hid hK
  clear hK
  go_step
  refine (HK0.out _ ((hA.block _ (lt_of_heap HX2.out) (fun e => e)).trans HX2.out)).mono ?_
  rintro e w3 ⟨rfl, rfl⟩
  simp only []
  refine HKK.out _ _ hA ?_
  clear HKK
  simp only [Act.put, List.setIfInBounds_toArray, List.set]
  refine wpG_doIf (i := 3) rfl (by kernel_rfl) rfl (fun K hK => ?_)
  have HKK := Lib.hid hK
  clear hK
  go_step
  refine (HK1.out _ ((hA.block _ (lt_of_heap HX2.out) (fun e => e)).trans HX2.out)).mono ?_
  rintro e w3 ⟨rfl, rfl⟩
  simp only []
  refine HKK.out _ _ hA ?_
  clear HKK
  simp only [Act.put, List.setIfInBounds_toArray, List.set]
  refine wpG_takeT (i := 4) (v := .int .i64 t) rfl (fun L hc h => (hc.waits (n := 5) (i := 4) (by kernel_rfl) h)) (by kernel_rfl) (fun _ _ _ h => h) hA (.inl ⟨rfl, fun w5 q1 => ?_⟩) ?_
  ·go_simp
  simp only [Act.put, List.setIfInBounds_toArray, List.set]
  refine wpG_tail_lit (k := 5) rfl rfl (by kernel_rfl) ?_
  simp only [List.drop]
  have HA := Lib.hid (HU2.out.trans hA)
  have HB3 := Lib.hid ((hA.block _ (lt_of_heap HB2.out) (fun e => e)).trans HB2.out)
  clear hA HB2 HU2 HX2 HK0 HK1
  generalize w2.drew = w3 at HA HB3 ⊢
  have cc : w3.cell? ⟨bh, 0, none⟩ = some (.int .i64 hd.turn) := by simp [World.cell?, HB3.out]
  go_upto_region 5 with fail
  by_cases h1 : t < 1
  ·have HRE := Lib.hid (HRN.out (fun q => by omega))
   clear HRN HRY
   go_wp2
   go_ret3
   exact ⟨HA.out, _, by rw [HRE.out]; rfl, fun b e => by rw [HRE.out] at e; cases e⟩
  by_cases h2 : t > hd.turn
  ·have HRE := Lib.hid (HRN.out (fun q => by omega))
   clear HRN HRY
   go_wp2
   go_ret3
   exact ⟨HA.out, _, by rw [HRE.out]; rfl, fun b e => by rw [HRE.out] at e; cases e⟩
  by_cases h3 : (N : Int) > 40000
  ·have HRE := Lib.hid (HRN.out (fun q => by omega))
   clear HRN HRY
   go_wp2
   go_ret3
   exact ⟨HA.out, _, by rw [HRE.out]; rfl, fun b e => by rw [HRE.out] at e; cases e⟩
  have HSEC := Lib.hid (secsI_nat (n := N) (by omega))
  have hsb := secsN_bound (n := N) (by omega)
  have hsp := secsN_pos N
  by_cases h4 : (secsN N : Int) > left
  ·have HRE := Lib.hid (HRN.out (fun q => by omega))
   clear HRN HRY
   go_wp2_with (go_at_call 138; refine (wsec_any N _ (by omega)).mono ?_; rintro e w9 ⟨rfl, rfl⟩; rw [HSEC.out])
   go_ret3
   exact ⟨HA.out, _, by rw [HRE.out]; rfl, fun b e => by rw [HRE.out] at e; cases e⟩
  have hr0 := HRY.out ⟨by omega, by omega, by omega, by omega⟩
  obtain ⟨z, hz⟩ : ∃ z, z = secsN N := ⟨_, rfl⟩
  have hzN : 48 * z ≥ N + 4 ∧ 48 * z ≤ N + 51 := by rw [hz]; unfold secsN; omega
  rw [← hz] at hr0 HSEC hsb hsp h4
  have HR0 := Lib.hid hr0
  have HZ := Lib.hid hz; have HZN := Lib.hid hzN; have HSB := Lib.hid hsb; have HSP := Lib.hid hsp; have HNI := Lib.hid hnI; have HNB := Lib.hid hnB; have HTN := Lib.hid htn; have HNU := Lib.hid hnu; have HLEN := Lib.hid hlen; have HTL := Lib.hid htl; have HPL := Lib.hid hpl
  clear hr0 hz HRN HRY hzN hsb hsp hnI hnB hpn hpnI htn hnu hlen hNl htl hpl
  go_wp2_with (go_at_call 138; fail)
  refine (wsec_any N _ (by omega)).mono ?_
  rintro e w9 ⟨rfl, rfl⟩
  rw [HSEC.out]
  simp only []
  clear cc
  go_wp2_with (go_at_call 138; fail)
  refine (wsec_any N _ (by omega)).mono ?_
  rintro e w9 ⟨rfl, rfl⟩
  rw [HSEC.out]
  simp only []
  go_upto_region 9 with fail
  go_loopg [18, 55] z (fun gk al i wr => ∃ k : Nat, k ≤ z ∧ gk = z - k ∧ i = .int .i64 k ∧ OwnB wr w3.heap.size al (flatT T k) ∧ R = goR T t number snap N (z - k) k ∧ Upd (fun _ => False) w3 wr)
  case atStart => exact ⟨0, Nat.zero_le _, rfl, rfl, World.ownsRow_nil _ _ _ _, HR0.out, Upd.refl _ _⟩
  case round =>
   clear HR0
   obtain ⟨k, hk, rfl, rfl, ho, hr, hu⟩ := hrel
   obtain ⟨wo, rfl⟩ : ∃ wo, wo = wr := ⟨_, rfl⟩
   have HO := Lib.hid ho; have HR := Lib.hid hr; have HU := Lib.hid hu
   clear ho hr hu
   by_cases hkn : k < z
   ·have hnI := HNI.out; have hnB := HNB.out; have hpl := HPL.out; have hlen := HLEN.out; have hzN := HZN.out; have hsb := HSB.out; have htl := HTL.out
    have hki : (k : Int) < z := by omega
    have hwpk : IntKind.i64.wrap ((p : Int) + (k : Int)) = p + k := by rw [IntKind.wrap_i64]; omega
    obtain ⟨qm, hqm⟩ : ∃ qm, qm = (p + k) % n := ⟨_, rfl⟩
    have HQ := Lib.hid (show ((p : Int) + (k : Int)) % (n : Int) = (qm : Int) by rw [hqm]; rfl)
    have hqn : qm < n := by rw [hqm]; exact Nat.mod_lt _ (by omega)
    have hqnI : (qm : Int) < n := by omega
    have hrg : wo.rangeAt g (qm * 64) (bcells (T k)) := by
     have h1 := HTC.out k
     rw [← hqm, Nat.mul_comm] at h1
     exact rangeAt_keptF h1 (HA.out.trans HU.out) (fun e => e)
    have HRG := Lib.hid hrg
    have hI0 : (Tryz.prog.info? 48).map (·.size) = some (bcells (T k)).length := by rw [Tryz.info56p]; simp [bcells, HT64.out]
    have HI0 := Lib.hid hI0
    have H1B := Lib.hid (all_oneCell_toArray (bcells_one (T k)))
    obtain ⟨f1, f2, f3⟩ := fresh56 wo (T k) (HT64.out k)
    have F1 := Lib.hid f1; have F2 := Lib.hid f2; have F3 := Lib.hid f3
    clear hqm hrg hI0 f1 f2 f3
    clear hpl hlen hzN hsb htl
    go_upto_region 11 with fail
    iterate 22 go_step
    rw [HQ.out]
    iterate 3 go_step
    refine wpList_load_mid rfl 48 (.tmp 65) rfl g (qm * 64) rfl (bcells (T k)) _ HRG.out Tryz.underlying48 rfl HI0.out ?_
    iterate 3 go_step
    refine (?_ : wpList _ _ _ _ _ (wo.alloc (.cells (bcells zblk).toArray 48)))
    refine wpList_store_mid rfl 48 (.tmp 20) (.tmp 66) rfl wo.heap.size 0 (bcells (T k)).toArray rfl rfl F1.out (by rw [HI0.out]; simp) H1B.out ?_
    rw [show (bcells (T k)).toArray.toList = bcells (T k) from rfl]
    obtain ⟨w4, hw4⟩ : ∃ w4, w4 = (wo.alloc (.cells (bcells zblk).toArray 48)).setCells wo.heap.size 0 (bcells (T k)) := ⟨_, rfl⟩
    rw [← hw4] at F2 F3 ⊢
    obtain ⟨bk, hbk⟩ : ∃ bk, bk = wo.heap.size := ⟨_, rfl⟩
    rw [← hbk] at F2 ⊢
    have HBK := Lib.hid hbk
    clear hw4 hbk F1 H1B HRG HQ hwpk
    clear hnI hnB hqn hqnI
    have hzN := HZN.out; have hsb := HSB.out
    have h16 := slice_16 bk
    have HO4 := Lib.hid (OwnB.keptF HO.out F3.out (fun _ _ e => e))
    have HU4 := Lib.hid (HU.out.trans F3.out)
    have hfl := flatT_length HT64.out k
    have hfl1 := flatT_length HT64.out (k + 1)
    have hdl : ((T k).drop 16).length = 48 := by rw [List.length_drop, HT64.out]
    have HFL := Lib.hid hfl; have HFL1 := Lib.hid hfl1; have HDL := Lib.hid hdl
    clear hfl hfl1 hdl
    clear hzN hsb
    go_upto_region 12 with fail
    iterate 7 go_step
    clear h16
    refine wpList_appB (base := w3.heap.size) (bs := flatT T k) (cs := (T k).drop 16) rfl (.tmp 67) (.tmp 68) rfl rfl HO4.out rfl (bytesIn_arr 16 (HT64.out k) (by omega) F2.out) (by rw [HFL.out, HDL.out]; have := HSB.out; omega) HU4.out.size ?_
    intro v5 w5 g1 g2
    rw [← flatT_succ] at g1
    obtain ⟨ga, gc, rfl⟩ := g1.slice_of (by intro e; rw [e] at HFL1; have := HFL1.out; simp at this)
    rw [HFL1.out] at g1 ⊢
    have HO5 := Lib.hid g1
    have HX5 := Lib.hid ((g2.block bk (lt_of_heap F2.out) (fun e => by have := (HO.out.lt bk e).2; have := HBK.out; omega)).trans F2.out)
    have HU5 := Lib.hid (HU4.out.step g2 (fun j hj e => by have := (HO4.out.lt j e).1; omega))
    clear g1 g2 HO4 HU4 F2 F3
    go_upto_region 13 with fail
    obtain ⟨m, hm⟩ : ∃ m, m = 48 * (k + 1) := ⟨_, rfl⟩
    have hsb := HSB.out
    have hmb : 48 ≤ m ∧ m ≤ 41000 := by omega
    obtain ⟨M, hM⟩ : ∃ M, M = min m (4 + N) := ⟨_, rfl⟩
    have HMM := Lib.hid (show min (m : Int) (4 + (N : Int)) = (M : Int) by rw [hM]; omega)
    have hMb : 4 ≤ M ∧ M ≤ m ∧ M ≤ N + 4 := by omega
    have hw4N : IntKind.i64.wrap (4 + (N : Int)) = 4 + N := by rw [IntKind.wrap_i64]; omega
    rw [← hm] at HO5 HFL1 ⊢
    have hgc := HO5.out.bytesIn.cap
    have hs9 := slice_atL (ga := ga) (n := m) (gc := gc) (fr := 4) (tn := M) (by omega) (by omega) hgc (by omega)
    push_cast at hs9
    have HS9 := Lib.hid hs9
    have hsub := sub_inL (fr := 4) (tn := M) (by omega) HFL1.out.symm HO5.out.bytesIn
    have HSUB := Lib.hid hsub
    have hsl : (((flatT T (k + 1)).drop 4).take (M - 4)).length = M - 4 := by rw [List.length_take, List.length_drop, HFL1.out]; omega
    obtain ⟨sub, hsubd⟩ : ∃ sub, sub = ((flatT T (k + 1)).drop 4).take (M - 4) := ⟨_, rfl⟩
    rw [← hsubd] at HSUB hsl
    have hok : ownK T N (k + 1) = sub ++ List.replicate (N - (M - 4)) 0 := by
     unfold ownK padTo
     rw [hsubd, List.length_drop, HFL1.out]
     congr 1
     ·by_cases hc : 4 + N ≤ m
      ·rw [show M - 4 = N by omega]
      ·rw [show M - 4 = m - 4 by omega, List.take_of_length_le (by rw [List.length_drop, HFL1.out]; omega), List.take_of_length_le (by rw [List.length_drop, HFL1.out]; omega)]
     ·by_cases hc : 4 + N ≤ m
      ·rw [show N - (m - 4) = 0 by omega, show N - (M - 4) = 0 by omega]
      ·rw [show N - (M - 4) = N - (m - 4) by omega]
    have HOK := Lib.hid hok; have HSL := Lib.hid hsl; have HM := Lib.hid hm; have HMD := Lib.hid hM
    have HMB := Lib.hid hmb; have HMBB := Lib.hid hMb
    clear hs9 hsub hsubd hok hsl hm hM hgc hsb hmb hMb
    iterate 22 go_step
    rw [HMM.out]
    refine wpList_exec rfl (run_exec_slice rfl rfl rfl rfl (HS9.out _)) ?_
    refine wpList_appB (base := w5.heap.size) (bs := []) (cs := sub) rfl (.tmp 70) (.tmp 77) rfl rfl (own_nilL w5) rfl (HSUB.out.kept ((Upd.refl _ w5).alloc _)) (by show 0 + sub.length ≤ _; rw [HSL.out]; have h8 := HMBB.out; have h9 := HMB.out; omega) (by simp) ?_
    intro v6 w6 g1 g2
    rw [List.nil_append] at g1
    have HO6 := Lib.hid g1
    have HU6 : RowKit.Hid (Upd (fun _ => False) w5 w6) := Lib.hid (((Upd.refl (fun _ => False) w5).alloc _).step g2 (fun j hj e => Nat.ne_of_gt hj (Option.some.inj e)))
    have HO6A := Lib.hid (OwnB.keptF HO5.out HU6.out (fun _ _ e => e))
    have HX6 := Lib.hid ((HU6.out.block _ (lt_of_heap HX5.out) (fun e => e)).trans HX5.out)
    clear g1 g2 HS9 HSUB HMM hw4N
    obtain ⟨rest, hrest⟩ : ∃ rest, rest = N - (M - 4) := ⟨_, rfl⟩
    have HREST := Lib.hid hrest
    have HOKR := Lib.hid (show ownK T N (k + 1) = sub ++ List.replicate rest 0 by rw [hrest]; exact HOK.out)
    clear hrest HOK
    go_upto_region 14 with fail
    go_loopg [21] rest (fun gk own wr => ∃ j : Nat, j ≤ rest ∧ gk = rest - j ∧ OwnB wr w5.heap.size own (sub ++ List.replicate j 0) ∧ Upd (fun _ => False) w5 wr)
    case atStart => exact ⟨0, Nat.zero_le _, rfl, by simpa using HO6.out, HU6.out⟩
    case round =>
     clear HO6 HU6 HO6A HX6
     obtain ⟨j, hj, rfl, ho, hu⟩ := hrel
     have hlj : (sub ++ List.replicate j (0 : Int)).length = M - 4 + j := by rw [List.length_append, HSL.out, List.length_replicate]
     obtain ⟨bs, hbs⟩ : ∃ bs, bs = sub ++ List.replicate j (0 : Int) := ⟨_, rfl⟩
     rw [← hbs] at ho hlj
     have hrs := HREST.out; have hMb := HMBB.out; have hmb := HMB.out
     obtain ⟨sa, sc, rfl⟩ := OwnB.slice' ho
     rw [hlj] at ho ⊢
     have HOJ := Lib.hid ho; have HUJ := Lib.hid hu; have HBS := Lib.hid hbs; have HLJ := Lib.hid hlj
     obtain ⟨q, hq⟩ : ∃ q, q = M - 4 + j := ⟨_, rfl⟩
     rw [← hq] at HOJ HLJ ⊢
     have hqb : q ≤ 41000 ∧ (j < rest ↔ q < N) := by omega
     have HQB := Lib.hid hqb
     clear ho hu hbs hlj hrs hMb hmb hq
     by_cases hjr : j < rest
     ·have hqi : (q : Int) < N := by omega
      clear hqb
      go_upto_region 15 with fail
      iterate 7 go_step
      refine wpList_appB (base := w5.heap.size) (bs := bs) (cs := [0]) rfl (.tmp 83) (.tmp 84) rfl rfl (OwnB.keptF HOJ.out ((Upd.refl (fun _ => False) wr).alloc _) (fun _ _ e => e)) rfl ?_ (by rw [HLJ.out]; have := HQB.out; simp only [List.length_cons, List.length_nil]; omega) (Nat.le_trans HUJ.out.size (by simp)) ?_
      ·exact one_inL wr 0
      intro v2 w2 g1 g2
      have HO2 := Lib.hid g1; have HU2 := Lib.hid ((HUJ.out.alloc _).step g2 (fun j hj e => by have := (HOJ.out.lt j e).1; omega))
      clear g1 g2
      go_wp2
      go_roundg (rest - (j + 1))
      case measure => omega
      case rel => exact ⟨j + 1, by omega, rfl, by rw [List.replicate_succ', ← List.append_assoc, ← HBS.out]; exact HO2.out, HU2.out⟩
     ·obtain rfl : j = rest := by omega
      have hqi : ¬ (q : Int) < N := by omega
      rw [← HOKR.out] at HBS
      have HOB := Lib.hid (ownK_bytesL HTB.out N (k + 1))
      have hol := ownK_length T N (k + 1)
      have hqN : q = N := by rw [← hol, ← HLJ.out, HBS.out]
      have hqN' := hqN.symm
      subst hqN'
      have HOL := Lib.hid hol
      clear hqb hol hqN
      obtain ⟨w6, rfl⟩ : ∃ w6, w6 = wr := ⟨_, rfl⟩
      have HX6 := Lib.hid ((HUJ.out.block _ (lt_of_heap HX5.out) (fun e => e)).trans HX5.out)
      have HO6A := Lib.hid (OwnB.keptF HO5.out HUJ.out (fun _ _ e => e))
      have HU6 := Lib.hid (HU5.out.trans HUJ.out)
      have hpart : ∀ W, Upd (fun _ => False) w6 W → Calls Tryz.prog 137 #[.int .i64 t, .int .i64 number, .bool snap, .slice sa N sc] W fun e w' => ∃ v, e = .returned v ∧ OwnR w' W.heap.size v ((List.range z).map (cutF t number snap (ownK T N (k + 1)))) ∧ Upd (fun _ => False) W w' := fun W hW => by
       have h1 := wpart_any (a := sa) (c := sc) (b := ownK T N (k + 1)) t number snap W (by rw [HOL.out, ← HBS.out]; exact HOJ.out.bytesIn.kept hW) HOB.out (by rw [HOL.out]; omega) (by have := HTL.out; omega) HNU.out
       rw [HOL.out, ← HZ.out] at h1
       exact h1
      have HPART := Lib.hid hpart
      clear hpart HOJ HUJ HBS
      have hkz : (k : Int) < z := hki
      go_upto_region 16 with fail
      have hA : w6.drew.heap[bk]? = some (.cells (bcells (T k)).toArray 48 (0, 0)) ∧ Upd (fun _ => False) w6 w6.drew := ⟨HX6.out, (Upd.refl _ _).drew⟩
      refine wp_region_G 9 (fun W => W.heap[bk]? = some (.cells (bcells (T k)).toArray 48 (0, 0)) ∧ Upd (fun _ => False) w6 W) [false, false, false, false, false, false, false, false, false, false] rfl (by kernel_rfl) ?_
      refine wpG_takeP (i := 0) (v := .int .i64 t) rfl (by kernel_rfl) (fun _ _ _ h => h) hA (.inl ⟨rfl, fun w5 q1 => ?_⟩) ?_
      ·go_simp
      simp only [Act.put, List.setIfInBounds_toArray, List.set]
      refine wpG_takeP (i := 1) (v := .int .i64 number) rfl (by kernel_rfl) (fun _ _ _ h => h) hA (.inl ⟨rfl, fun w5 q1 => ?_⟩) ?_
      ·go_simp
      simp only [Act.put, List.setIfInBounds_toArray, List.set]
      refine wpG_takeP (i := 2) (v := .bool snap) rfl (by kernel_rfl) (fun _ _ _ h => h) hA (.inl ⟨rfl, fun w5 q1 => ?_⟩) ?_
      ·go_simp
      simp only [Act.put, List.setIfInBounds_toArray, List.set]
      refine wpG_takeP (i := 3) (v := .slice sa N sc) rfl (by kernel_rfl) (fun _ _ _ h => h) hA (.inl ⟨rfl, fun w5 q1 => ?_⟩) ?_
      ·go_simp
      simp only [Act.put, List.setIfInBounds_toArray, List.set]
      refine wpG_takeP (i := 5) (v := .int .i64 k) rfl (by kernel_rfl) (fun _ _ _ h => h) hA (.inl ⟨rfl, fun w5 q1 => ?_⟩) ?_
      ·go_simp
      simp only [Act.put, List.setIfInBounds_toArray, List.set]
      refine wpG_takeT (i := 8) (v := .agg (bcells (T k)).toArray) rfl (fun L hc h => (hc.waits (n := 9) (i := 8) (by kernel_rfl) h)) (by kernel_rfl) (fun _ _ _ h => h) hA (.inl ⟨rfl, fun w5 q1 => ?_⟩) ?_
      ·exact run_load_mid' rfl rfl (bcells (T k)) (rangeAt_block q1.1) Tryz.underlying48 rfl HI0.out
      simp only [Act.put, List.setIfInBounds_toArray, List.set]
      refine wpG_doIf (i := 4) rfl (by kernel_rfl) rfl (fun K hK => ?_)
      have HKK := Lib.hid hK
      clear hK
      go_step
      refine (HPART.out _ hA.2).mono ?_
      rintro e w7 ⟨vP, rfl, hP, u7⟩
      have hA7 := (⟨(u7.block _ (lt_of_heap hA.1) (fun e => e)).trans hA.1, hA.2.trans u7⟩ : _ ∧ _)
      obtain ⟨gP, cP, rfl, hgP, hgP2⟩ := OwnR.slice_of hP (by simp; exact HSP.out)
      have hPr : w7.rangeAt gP (k * 64) (bcells (cutF t number snap (ownK T N (k + 1)) k)) := by
       have := OwnR.range hP (fun x hx => by obtain ⟨q, _, rfl⟩ := List.mem_map.1 hx; rw [cutF_length, allF_length]) (k := k) (x := cutF t number snap (ownK T N (k + 1)) k) (by simp [hkn])
       rwa [Nat.mul_comm] at this
      have HPR := Lib.hid hPr
      rw [show ((List.range z).map (cutF t number snap (ownK T N (k + 1)))).length = z by simp]
      clear hP hPr
      simp only []
      refine HKK.out _ _ hA7 ?_
      clear HKK
      simp only [Act.put, List.setIfInBounds_toArray, List.set]
      refine wpG_takeT (i := 6) (v := .pointer (some ⟨gP, k * 64, none⟩)) rfl (fun L hc h => (hc.waits (n := 9) (i := 7) (by kernel_rfl) (hc.waits (n := 7) (i := 6) (by kernel_rfl) h))) (by kernel_rfl) (fun _ _ _ h => h) hA7 (.inl ⟨rfl, fun w5 q1 => ?_⟩) ?_
      ·go_simp
      simp only [Act.put, List.setIfInBounds_toArray, List.set]
      refine wpG_doIf (i := 7) rfl (by kernel_rfl) rfl (fun K hK => ?_)
      have HKK := Lib.hid hK
      clear hK
      refine wp_exec (run_load_mid' rfl rfl (bcells (cutF t number snap (ownK T N (k + 1)) k)) HPR.out Tryz.underlying48 rfl (by rw [Tryz.info56p]; simp [bcells, cutF_length, allF_length])) ?_
      refine HKK.out _ _ hA7 ?_
      clear HKK
      simp only [Act.put, List.setIfInBounds_toArray, List.set]
      refine wpG_tail_lit (k := 9) rfl rfl (by kernel_rfl) ?_
      simp only [List.drop]
      have hne := neqV (cutF t number snap (ownK T N (k + 1)) k) (T k) (by rw [cutF_length, allF_length]) (HT64.out k) w7
      refine wpList_exec rfl (run_exec_neq rfl rfl rfl hne) ?_
      have HA7 := Lib.hid hA7.2
      have hst := goR_step (T := T) (t := t) (number := number) (snap := snap) (N := N) (m := z - (k + 1)) (k := k)
      rw [show z - (k + 1) + 1 = z - k by omega, ← HR.out] at hst
      have HST := Lib.hid hst
      clear hne hA hA7 hst
      by_cases heq : cutF t number snap (ownK T N (k + 1)) k = T k
      ·have hb : (!(cutF t number snap (ownK T N (k + 1)) k == T k)) = false := by simp [heq]
       rw [hb]
       have HR2 := Lib.hid (HST.out.1 heq)
       clear heq hb HST HR
       go_wp2
       go_roundg (z - (k + 1))
       case measure => omega
       case rel => exact ⟨k + 1, by omega, rfl, rfl, OwnB.keptF HO6A.out HA7.out (fun _ _ e => e), HR2.out, HU6.out.trans HA7.out⟩
      ·have hb : (!(cutF t number snap (ownK T N (k + 1)) k == T k)) = true := by simp [heq]
       rw [hb]
       have HRE := Lib.hid (HST.out.2 heq)
       clear heq hb HST HR
       go_wp2
       go_ret3
       exact ⟨(HA.out.trans HU6.out).trans HA7.out, _, by rw [HRE.out]; rfl, fun b e => by rw [HRE.out] at e; cases e⟩
   ·have hkz : k = z := by omega
    have hr := HR.out
    rw [hkz, Nat.sub_self] at hr
    unfold goR at hr
    have hzN := HZN.out
    have hfl := flatT_length HT64.out k
    obtain ⟨m, hm⟩ : ∃ m, m = 48 * k := ⟨_, rfl⟩
    rw [← hm] at hfl
    obtain ⟨ga, gc, rfl⟩ := HO.out.slice_of (by intro e; rw [e] at hfl; have := HSP.out; simp at hfl; omega)
    have HO5 := HO.out
    rw [hfl] at HO5 ⊢
    have hmb : N + 4 ≤ m ∧ 48 ≤ m := by have := HSP.out; omega
    have hgc := HO5.bytesIn.cap
    have hs9 := slice_atL (ga := ga) (n := m) (gc := gc) (fr := 4) (tn := 4 + N) (by omega) (by omega) hgc (by omega)
    rw [show 4 + N - 4 = N by omega] at hs9
    push_cast at hs9
    have hsub := sub_inL (fr := 4) (tn := 4 + N) (by omega) hfl.symm HO5.bytesIn
    rw [show 4 + N - 4 = N by omega] at hsub
    have hok : ((flatT T k).drop 4).take N = ownK T N z := by
     unfold ownK padTo
     rw [List.length_drop, flatT_length HT64.out, ← hkz, ← hm, show N - (m - 4) = 0 by omega, List.replicate_zero, List.append_nil]
    rw [hok] at hsub
    have hgl := HO5.lt ga rfl
    have HS9 := Lib.hid hs9; have HSUB := Lib.hid hsub; have HRE := Lib.hid hr; have HGL := Lib.hid hgl
    have hw4N : IntKind.i64.wrap (4 + (N : Int)) = 4 + N := by rw [IntKind.wrap_i64]; omega
    have hki : ¬ (k : Int) < z := by omega
    have hol := ownK_length T N z
    have HOL := Lib.hid hol
    clear hkz hr hzN hm hfl HO HO5 hmb hgc hs9 hsub hok hgl hol HR
    go_upto_region 19 with fail
    have hA : Upd (fun _ => False) wo wo.drew := (Upd.refl _ _).drew
    refine wp_region_G 8 (fun W => Upd (fun _ => False) wo W) [false, false, false, false, false, false, false, false, false] rfl (by kernel_rfl) ?_
    refine wpG_takeT (i := 0) (v := .slice (some ⟨ga, 0, none⟩) m gc) rfl (fun L hc h => (hc.waits (n := 8) (i := 0) (by kernel_rfl) h)) (by kernel_rfl) (fun _ _ _ h => h) hA (.inl ⟨rfl, fun w5 q1 => ?_⟩) ?_
    ·go_simp
    simp only [Act.put, List.setIfInBounds_toArray, List.set]
    refine wpG_takeT (i := 1) (v := .int .i64 N) rfl (fun L hc h => (hc.waits (n := 8) (i := 1) (by kernel_rfl) h)) (by kernel_rfl) (fun _ _ _ h => h) hA (.inl ⟨rfl, fun w5 q1 => ?_⟩) ?_
    ·go_simp
    simp only [Act.put, List.setIfInBounds_toArray, List.set]
    refine wpG_takeT (i := 2) (v := .int .i64 (4 + N)) rfl (fun L hc h => (hc.waits (n := 8) (i := 2) (by kernel_rfl) h)) (by kernel_rfl) (fun _ _ _ h => h) hA (.inl ⟨rfl, fun w5 q1 => ?_⟩) ?_
    ·go_simp
    simp only [Act.put, List.setIfInBounds_toArray, List.set]
    refine wpG_takeT (i := 3) (v := .slice (some ⟨ga, 4, none⟩) N (gc - 4)) rfl (fun L hc h => (hc.waits (n := 8) (i := 3) (by kernel_rfl) h)) (by kernel_rfl) (fun _ _ _ h => h) hA (.inl ⟨rfl, fun w5 q1 => ?_⟩) ?_
    ·exact run_exec_slice rfl rfl rfl rfl (HS9.out _)
    simp only [Act.put, List.setIfInBounds_toArray, List.set]
    refine wpG_takeT (i := 4) (v := .int .i64 N) rfl (fun L hc h => (hc.waits (n := 8) (i := 4) (by kernel_rfl) h)) (by kernel_rfl) (fun _ _ _ h => h) hA (.inl ⟨rfl, fun w5 q1 => ?_⟩) ?_
    ·go_simp
    simp only [Act.put, List.setIfInBounds_toArray, List.set]
    refine wpG_doIf (i := 5) rfl (by kernel_rfl) rfl (fun K hK => ?_)
    have HKK := Lib.hid hK
    clear hK
    go_step
    refine (wsec_any N _ (by omega)).mono ?_
    rintro e w9 ⟨rfl, rfl⟩
    rw [HSEC.out]
    simp only []
    refine HKK.out _ _ hA ?_
    clear HKK
    simp only [Act.put, List.setIfInBounds_toArray, List.set]
    refine wpG_takeT (i := 6) (v := .slice (some ⟨ga, 4, none⟩) N (gc - 4)) rfl (fun L hc h => (hc.waits (n := 8) (i := 6) (by kernel_rfl) h)) (by kernel_rfl) (fun _ _ _ h => h) hA (.inl ⟨rfl, fun w5 q1 => ?_⟩) ?_
    ·go_simp
    simp only [Act.put, List.setIfInBounds_toArray, List.set]
    refine wpG_takeT (i := 7) (v := .int .i64 z) rfl (fun L hc h => (hc.waits (n := 8) (i := 7) (by kernel_rfl) h)) (by kernel_rfl) (fun _ _ _ h => h) hA (.inl ⟨rfl, fun w5 q1 => ?_⟩) ?_
    ·go_simp
    simp only [Act.put, List.setIfInBounds_toArray, List.set]
    refine wpG_tail_lit (k := 8) rfl rfl (by kernel_rfl) ?_
    simp only [List.drop]
    go_wp2
    go_ret3
    refine ⟨(HA.out.trans HU.out).trans hA, _, by rw [HRE.out]; rfl, fun b e => ?_⟩
    rw [HRE.out] at e
    injection e with e
    subst e
    refine ⟨ga, 4, gc - 4, by rw [HOL.out]; rfl, Nat.le_trans HA.out.size HGL.out.1, Nat.lt_of_lt_of_le HGL.out.2 hA.size, ?_⟩
    rw [HOL.out]
    exact HSUB.out.kept hA
end
end Go.Proofs.YtbimkhdiplnbfaaGreat
