/- Walks: the model's head, part and refuses. -/
import Derived.Test.YtbimkhdiplnbfaaGreatY3
import Derived.Test.YtbimkhdiplnbfaaGreatY23
import Derived.ArgAppend
set_option linter.unusedVariables false
set_option linter.unusedSimpArgs false
namespace Go.Proofs.YtbimkhdiplnbfaaGreat
set_option maxRecDepth 1000000
set_option maxHeartbeats 16000000
section
open Go.RowKit Go.Shelf Go.Joins
theorem laysL_head (hd : Hd) : laysL (hd.turn % 2) 0 [headF hd] = raw [headSc hd] := by
 simp [laysL, raw, headSc]
theorem laysL_part {hd : Hd} {number place ar : Int} {snap : Bool} {b : List Int} (hb : Bytes b) (ha : 0 < hd.area) (har : ar = 2 * hd.area) : laysL place ar ((List.range (secsN b.length)).map (cutF hd.turn number snap b)) = raw (partSc hd number place snap b hb) := by
 subst har
 simp only [laysL, raw, partSc, List.length_map, List.length_range, List.map_map]
 apply List.map_congr_left
 intro k hk
 have hk2 := List.mem_range.1 hk
 simp only [Function.comp, atF]
 rw [if_pos (by omega)]
 simp [hk2]
theorem blks_one (w : World) {x : List Int} (hx : okBlk x) {g : Nat} (h : w.heap[g]? = some (.cells (bcells x).toArray 48 (0, 0))) : BlksAt w (some ⟨g, 0, none⟩) [x] := by
 refine ⟨fun y hy => by simp at hy; subst hy; exact hx.1, fun y hy => by simp at hy; subst hy; exact hx.2, g, rfl, fun i y hi => ?_⟩
 have : i = 0 ∧ y = x := by
  match i, hi with
  | 0, hi => simp at hi; exact ⟨rfl, hi.symm⟩
  |i + 1, hi => simp at hi
 obtain ⟨rfl, rfl⟩ := this
 exact rangeAt_block h
theorem OwnR.blks {w : World} {base g c n : Nat} {L : List (List Int)} (h : OwnR w base (.slice (some ⟨g, 0, none⟩) n c) L) (hl : ∀ x ∈ L, okBlk x) : BlksAt w (some ⟨g, 0, none⟩) L :=
 ⟨fun x hx => (hl x hx).1, fun x hx => (hl x hx).2, g, rfl, fun i x hx => OwnR.range h (fun y hy => (hl y hy).1) hx⟩
theorem whead_any {m p : Nat} {K : Nat} {D : Dk} {F : Nat → Prop} {hd : Hd} {pv av : Value} {br no : Bool} (h2 : Hd) (w : World) (hm : w.heap[m]? = some (.cells (mdC p hd pv av br no) 37 (0, 0))) (hmF : ¬ F m) (hD : Dsk w p D F) (hok : D.Ok K) (hK : K ≤ 1099511600000) (hu2 : h2.U32) :
  Calls Tryz.prog 128 #[.pointer (some ⟨m, 0, none⟩), h2.val] w fun e w' => e = .returned (.int .i64 (D.laysE (raw [headSc h2]))) ∧ Left w p (D.lays (raw [headSc h2])) F w' := by
 obtain ⟨bx, hbx⟩ : ∃ bx, bx = w.heap.size := ⟨_, rfl⟩
 obtain ⟨w2, hw2⟩ : ∃ w2, w2 = w.alloc (.cells #[.int .i64 h2.turn, .int .i64 h2.area, .int .i64 h2.place, .int .i64 h2.number] 31) := ⟨_, rfl⟩
 have hu : Upd (fun _ => False) w w2 := by rw [hw2]; exact (Upd.refl _ _).alloc _
 have hx2 : w2.heap[bx]? = some (.cells #[.int .i64 h2.turn, .int .i64 h2.area, .int .i64 h2.place, .int .i64 h2.number] 31 (0, 0)) := by rw [hw2]; exact alloc_at hbx
 have htl := hD.lt
 have HM := Lib.hid hm; have HMF := Lib.hid hmF; have HD := Lib.hid hD; have HOK := Lib.hid hok; have HU := Lib.hid hu; have HX := Lib.hid hx2; have HH := Lib.hid hu2; have HFL := Lib.hid htl
 have ht : 0 ≤ h2.turn ∧ h2.turn ≤ 4294967295 := hu2.turn
 have hrem : h2.turn.tmod 2 = h2.turn % 2 := Int.tmod_eq_emod_of_nonneg ht.1
 have hokb := headF_ok h2
 have HOB := Lib.hid hokb
 have h64 : (bcells (headF h2)).length = 64 := by rw [bcells_length]; exact hokb.1
 have HL64 := Lib.hid h64
 have hTb : 0 ≤ h2.turn % 2 ∧ h2.turn % 2 ≤ 1 := by omega
 unfold Hd.val
 clear hm hmF hD hok hu hx2 hu2 htl hokb h64
 go_enter Tryz.func128, Tryz.ntmps128
 go_upto_region 1 with fail
 rw [← hw2, ← hbx]
 clear hw2 hbx
 have hA : w2.drew.heap[bx]? = some (.cells #[.int .i64 h2.turn, .int .i64 h2.area, .int .i64 h2.place, .int .i64 h2.number] 31 (0, 0)) ∧ Upd (fun _ => False) w2 w2.drew := ⟨HX.out, (Upd.refl _ _).drew⟩
 refine wp_region_G 7 (fun W => W.heap[bx]? = some (.cells #[.int .i64 h2.turn, .int .i64 h2.area, .int .i64 h2.place, .int .i64 h2.number] 31 (0, 0)) ∧ Upd (fun _ => False) w2 W) [false, false, false, false, false, false, false, false, false] rfl (by kernel_rfl) ?_
 refine wpG_takeP (i := 0) (v := .pointer (some ⟨m, 0, none⟩)) rfl (by kernel_rfl) (fun _ _ _ h => h) hA (.inl ⟨rfl, fun w5 q1 => ?_⟩) ?_
 ·go_simp
 simp only [Act.put, List.setIfInBounds_toArray, List.set]
 refine wpG_takeP (i := 1) (v := .pointer (some ⟨bx, 0, none⟩)) rfl (by kernel_rfl) (fun _ _ _ h => h) hA (.inl ⟨rfl, fun w5 q1 => ?_⟩) ?_
 ·go_simp
 simp only [Act.put, List.setIfInBounds_toArray, List.set]
 refine wpG_takeT (i := 2) (v := .int .i64 h2.turn) rfl (fun L hc h => (hc.waits (n := 7) (i := 3) (by kernel_rfl) (hc.waits (n := 3) (i := 2) (by kernel_rfl) h))) (by kernel_rfl) (fun _ _ _ h => h) hA (.inl ⟨rfl, fun w5 q1 => ?_⟩) ?_
 ·obtain ⟨c0, c1, c2, c3⟩ := cells4_of q1.1
  go_simp
 simp only [Act.put, List.setIfInBounds_toArray, List.set]
 refine wpG_takeP (i := 3) (v := .int .i64 (h2.turn % 2)) rfl (by kernel_rfl) (fun _ _ _ h => h) hA (.inl ⟨rfl, fun w5 q1 => ?_⟩) ?_
 ·go_simp
 simp only [Act.put, List.setIfInBounds_toArray, List.set]
 refine wpG_takeT (i := 4) (v := .agg #[.int .i64 h2.turn, .int .i64 h2.area, .int .i64 h2.place, .int .i64 h2.number]) rfl (fun L hc h => (hc.waits (n := 7) (i := 5) (by kernel_rfl) (hc.waits (n := 5) (i := 4) (by kernel_rfl) h))) (by kernel_rfl) (fun _ _ _ h => h) hA (.inl ⟨rfl, fun w5 q1 => ?_⟩) ?_
 ·exact run_load_mid' rfl rfl [.int .i64 h2.turn, .int .i64 h2.area, .int .i64 h2.place, .int .i64 h2.number] (rangeAt_block (cs := [.int .i64 h2.turn, .int .i64 h2.area, .int .i64 h2.place, .int .i64 h2.number]) q1.1) Tryz.underlying31 rfl (by kernel_rfl)
 simp only [Act.put, List.setIfInBounds_toArray, List.set]
 refine wpG_doIf (i := 5) rfl (by kernel_rfl) rfl (fun K hK => ?_)
 have HKK := Lib.hid hK
 clear hK
 go_step
 refine (wblock_any h2 _ HH.out).mono ?_
 rintro e w3 ⟨rfl, u3⟩
 have hA3 := (⟨(u3.block _ (lt_of_heap hA.1) (fun e => e)).trans hA.1, hA.2.trans u3⟩ : _ ∧ _)
 simp only []
 refine HKK.out _ _ hA3 ?_
 clear HKK
 simp only [Act.put, List.setIfInBounds_toArray, List.set]
 refine wpG_doIf (i := 6) rfl (by kernel_rfl) rfl (fun K hK => ?_)
 have HKK := Lib.hid hK
 clear hK
 refine wp_exec (run_exec_buildSlice (run_build201 (bcells (headF h2)) w3 HL64.out) rfl (by simp [Act.eval, Act.put])) ?_
 have u4 : Upd (fun _ => False) w3 (w3.alloc (.cells (bcells (headF h2)).toArray 48)) := (Upd.refl _ _).alloc _
 have HX4 := Lib.hid (alloc_at (w := w3) (o := .cells (bcells (headF h2)).toArray 48) rfl)
 have hA4 := (⟨(u4.block _ (lt_of_heap hA3.1) (fun e => e)).trans hA3.1, hA3.2.trans u4⟩ : _ ∧ _)
 have HG4 := Lib.hid hA3.2.size
 clear u4
 generalize w3.alloc (.cells (bcells (headF h2)).toArray 48) = w4 at HX4 hA4 ⊢
 refine HKK.out _ _ hA4 ?_
 clear HKK
 simp only [Act.put, List.setIfInBounds_toArray, List.set]
 refine wpG_tail_lit (k := 7) rfl rfl (by kernel_rfl) ?_
 simp only [List.drop]
 have hu4 := HU.out.trans hA4.2
 have hg : ¬ F w3.heap.size := fun e => by have := HFL.out _ e; have := HG4.out; have := HU.out.size; omega
 have hml : (w4.heap[m]? = some (.cells (mdC p hd pv av br no) 37 (0, 0))) := (hu4.block _ (lt_of_heap HM.out) (fun e => e)).trans HM.out
 have hly := wlays_any (lc := 1) (g := w3.heap.size) (Ls := [headF h2]) (h2.turn % 2) 0 w4 hml HMF.out (HD.out.kept hu4 (fun _ _ e => e)) HOK.out hK (blks_one w4 HOB.out HX4.out) hg (by simp) (by omega) (by omega)
 rw [laysL_head] at hly
 have HLY := Lib.hid hly; have HU4 := Lib.hid hu4
 clear hly hu4 hg hml hA hA3 hA4 HX HX4
 go_wp2_with (go_at_call 136; fail)
 refine HLY.out.mono ?_
 rintro e w5 ⟨rfl, hl⟩
 have HLF := Lib.hid (hl.of_upd (HU4.out.mono (fun _ _ e => e.elim)) HU4.out.size)
 clear hl HLY
 simp only []
 go_wp2
 go_ret
 exact ⟨rfl, HLF.out⟩
theorem wmpart_any {m p : Nat} {K pc c : Nat} {pa a : Option Addr} {D : Dk} {F : Nat → Prop} {hd : Hd} {ps : List (List Int)} {av : Value} {br no : Bool} {b : List Int} (snap : Bool) (w : World) (hm : w.heap[m]? = some (.cells (mdC p hd (.slice pa ps.length pc) av br no) 37 (0, 0))) (hmF : ¬ F m) (hD : Dsk w p D F) (hok : D.Ok K) (hK : K ≤ 1099511600000)
  (hp : BRows w pa ps) (hv : BytesIn w (.slice a b.length c) b) (hb : Bytes b) (hl : b.length ≤ 40000) (ht : 0 ≤ hd.turn ∧ hd.turn ≤ 4294967295) (ha : 1 ≤ hd.area ∧ hd.area ≤ 1000) (hpl : 0 ≤ hd.place ∧ hd.place ≤ 100000) (hn : 0 ≤ hd.number ∧ hd.number + ps.length ≤ 4294967295) (hps : ps.length ≤ 1000) :
  Calls Tryz.prog 127 #[.pointer (some ⟨m, 0, none⟩), .bool snap, .slice a b.length c] w fun e w' => e = .returned (.int .i64 (D.laysE (raw (partSc hd (hd.number + ps.length) (hd.place + usedI ps) snap b hb)))) ∧ Left w p (D.lays (raw (partSc hd (hd.number + ps.length) (hd.place + usedI ps) snap b hb))) F w' := by
 have huse := wused_any (c := pc) w hp (by omega)
 have hub := usedI_le ps
 obtain ⟨U, hU⟩ : ∃ U, U = usedI ps := ⟨_, rfl⟩
 rw [← hU] at huse hub ⊢
 obtain ⟨N, hN⟩ : ∃ N, N = hd.number + (ps.length : Int) := ⟨_, rfl⟩
 rw [← hN] at hn ⊢
 have hpsI : (0 : Int) ≤ ps.length ∧ (ps.length : Int) ≤ 1000 := by omega
 have htl := hD.lt
 have HM := Lib.hid hm; have HMF := Lib.hid hmF; have HD := Lib.hid hD; have HOK := Lib.hid hok; have HUSE := Lib.hid huse; have HB := Lib.hid hb; have HV := Lib.hid hv; have HBL := Lib.hid hl; have HFL := Lib.hid htl
 have hw1 : IntKind.i64.wrap (hd.place + U) = hd.place + U := by rw [IntKind.wrap_i64]; omega
 have hw2 : IntKind.i64.wrap (hd.number + (ps.length : Int)) = N := by rw [IntKind.wrap_i64]; omega
 have hw3 : IntKind.i64.wrap (2 * hd.area) = 2 * hd.area := by rw [IntKind.wrap_i64]; omega
 have HN := Lib.hid hN; have HN4 := Lib.hid hn
 obtain ⟨c0, c1, c2, c3, c4, c5, c6, c7, c8⟩ := cells9_of hm
 clear hm hmF hD hok huse hv htl hU hp hN hn
 go_enter Tryz.func127, Tryz.ntmps127
 go_wp2_with (go_at_call 72; fail)
 refine HUSE.out.mono ?_
 rintro e w2 ⟨rfl, rfl⟩
 clear HUSE
 simp only []
 clear c0 c1 c2 c3 c4 c5 c6 c7 c8
 go_upto_region 2 with fail
 have hA : w.drew.heap[m]? = some (.cells (mdC p hd (.slice pa ps.length pc) av br no) 37 (0, 0)) ∧ Upd (fun _ => False) w w.drew := ⟨HM.out, (Upd.refl _ _).drew⟩
 refine wp_region_G 38 (fun W => W.heap[m]? = some (.cells (mdC p hd (.slice pa ps.length pc) av br no) 37 (0, 0)) ∧ Upd (fun _ => False) w W) [false, false, false, false, false, false, false, false, false, false, false, false, false, false, false, false, false, false, false, false, false, false, false, false, false, false, false, false, false, false, false, false, false, false, false, false, false, false, false, false] rfl (by kernel_rfl) ?_
 refine wpG_takeP (i := 0) (v := .pointer (some ⟨m, 0, none⟩)) rfl (by kernel_rfl) (fun _ _ _ h => h) hA (.inl ⟨rfl, fun w5 q1 => ?_⟩) ?_
 ·go_simp
 simp only [Act.put, List.setIfInBounds_toArray, List.set]
 refine wpG_takeP (i := 1) (v := .pointer (some ⟨m, 0, none⟩)) rfl (by kernel_rfl) (fun _ _ _ h => h) hA (.inl ⟨rfl, fun w5 q1 => ?_⟩) ?_
 ·go_simp
 simp only [Act.put, List.setIfInBounds_toArray, List.set]
 refine wpG_takeP (i := 2) (v := .pointer (some ⟨m, 0, none⟩)) rfl (by kernel_rfl) (fun _ _ _ h => h) hA (.inl ⟨rfl, fun w5 q1 => ?_⟩) ?_
 ·go_simp
 simp only [Act.put, List.setIfInBounds_toArray, List.set]
 refine wpG_takeP (i := 3) (v := .pointer (some ⟨m, 1, none⟩)) rfl (by kernel_rfl) (fun _ _ _ h => h) hA (.inl ⟨rfl, fun w5 q1 => ?_⟩) ?_
 ·go_simp
 simp only [Act.put, List.setIfInBounds_toArray, List.set]
 refine wpG_takeP (i := 4) (v := .pointer (some ⟨m, 1, none⟩)) rfl (by kernel_rfl) (fun _ _ _ h => h) hA (.inl ⟨rfl, fun w5 q1 => ?_⟩) ?_
 ·go_simp
 simp only [Act.put, List.setIfInBounds_toArray, List.set]
 refine wpG_takeP (i := 5) (v := .pointer (some ⟨m, 3, none⟩)) rfl (by kernel_rfl) (fun _ _ _ h => h) hA (.inl ⟨rfl, fun w5 q1 => ?_⟩) ?_
 ·go_simp
 simp only [Act.put, List.setIfInBounds_toArray, List.set]
 refine wpG_takeT (i := 6) (v := .int .i64 hd.place) rfl (fun L hc h => (hc.waits (n := 38) (i := 8) (by kernel_rfl) (hc.waits (n := 8) (i := 6) (by kernel_rfl) h))) (by kernel_rfl) (fun _ _ _ h => h) hA (.inl ⟨rfl, fun w5 q1 => ?_⟩) ?_
 ·obtain ⟨c0, c1, c2, c3, c4, c5, c6, c7, c8⟩ := cells9_of q1.1
  go_simp
 simp only [Act.put, List.setIfInBounds_toArray, List.set]
 refine wpG_takeP (i := 7) (v := .int .i64 U) rfl (by kernel_rfl) (fun _ _ _ h => h) hA (.inl ⟨rfl, fun w5 q1 => ?_⟩) ?_
 ·go_simp
 simp only [Act.put, List.setIfInBounds_toArray, List.set]
 refine wpG_takeP (i := 8) (v := .int .i64 (hd.place + U)) rfl (by kernel_rfl) (fun _ _ _ h => h) hA (.inl ⟨rfl, fun w5 q1 => ?_⟩) ?_
 ·go_simp
 simp only [Act.put, List.setIfInBounds_toArray, List.set]
 refine wpG_takeP (i := 9) (v := .pointer (some ⟨m, 0, none⟩)) rfl (by kernel_rfl) (fun _ _ _ h => h) hA (.inl ⟨rfl, fun w5 q1 => ?_⟩) ?_
 ·go_simp
 simp only [Act.put, List.setIfInBounds_toArray, List.set]
 refine wpG_takeP (i := 10) (v := .pointer (some ⟨m, 0, none⟩)) rfl (by kernel_rfl) (fun _ _ _ h => h) hA (.inl ⟨rfl, fun w5 q1 => ?_⟩) ?_
 ·go_simp
 simp only [Act.put, List.setIfInBounds_toArray, List.set]
 refine wpG_takeP (i := 11) (v := .pointer (some ⟨m, 1, none⟩)) rfl (by kernel_rfl) (fun _ _ _ h => h) hA (.inl ⟨rfl, fun w5 q1 => ?_⟩) ?_
 ·go_simp
 simp only [Act.put, List.setIfInBounds_toArray, List.set]
 refine wpG_takeP (i := 12) (v := .pointer (some ⟨m, 1, none⟩)) rfl (by kernel_rfl) (fun _ _ _ h => h) hA (.inl ⟨rfl, fun w5 q1 => ?_⟩) ?_
 ·go_simp
 simp only [Act.put, List.setIfInBounds_toArray, List.set]
 refine wpG_takeP (i := 13) (v := .pointer (some ⟨m, 1, none⟩)) rfl (by kernel_rfl) (fun _ _ _ h => h) hA (.inl ⟨rfl, fun w5 q1 => ?_⟩) ?_
 ·go_simp
 simp only [Act.put, List.setIfInBounds_toArray, List.set]
 refine wpG_takeT (i := 14) (v := .int .i64 hd.turn) rfl (fun L hc h => (hc.waits (n := 38) (i := 30) (by kernel_rfl) (hc.waits (n := 30) (i := 14) (by kernel_rfl) h))) (by kernel_rfl) (fun _ _ _ h => h) hA (.inl ⟨rfl, fun w5 q1 => ?_⟩) ?_
 ·obtain ⟨c0, c1, c2, c3, c4, c5, c6, c7, c8⟩ := cells9_of q1.1
  go_simp
 simp only [Act.put, List.setIfInBounds_toArray, List.set]
 refine wpG_takeP (i := 15) (v := .pointer (some ⟨m, 0, none⟩)) rfl (by kernel_rfl) (fun _ _ _ h => h) hA (.inl ⟨rfl, fun w5 q1 => ?_⟩) ?_
 ·go_simp
 simp only [Act.put, List.setIfInBounds_toArray, List.set]
 refine wpG_takeP (i := 16) (v := .pointer (some ⟨m, 0, none⟩)) rfl (by kernel_rfl) (fun _ _ _ h => h) hA (.inl ⟨rfl, fun w5 q1 => ?_⟩) ?_
 ·go_simp
 simp only [Act.put, List.setIfInBounds_toArray, List.set]
 refine wpG_takeP (i := 17) (v := .pointer (some ⟨m, 1, none⟩)) rfl (by kernel_rfl) (fun _ _ _ h => h) hA (.inl ⟨rfl, fun w5 q1 => ?_⟩) ?_
 ·go_simp
 simp only [Act.put, List.setIfInBounds_toArray, List.set]
 refine wpG_takeP (i := 18) (v := .pointer (some ⟨m, 1, none⟩)) rfl (by kernel_rfl) (fun _ _ _ h => h) hA (.inl ⟨rfl, fun w5 q1 => ?_⟩) ?_
 ·go_simp
 simp only [Act.put, List.setIfInBounds_toArray, List.set]
 refine wpG_takeP (i := 19) (v := .pointer (some ⟨m, 4, none⟩)) rfl (by kernel_rfl) (fun _ _ _ h => h) hA (.inl ⟨rfl, fun w5 q1 => ?_⟩) ?_
 ·go_simp
 simp only [Act.put, List.setIfInBounds_toArray, List.set]
 refine wpG_takeT (i := 20) (v := .int .i64 hd.number) rfl (fun L hc h => (hc.waits (n := 38) (i := 30) (by kernel_rfl) (hc.waits (n := 30) (i := 27) (by kernel_rfl) (hc.waits (n := 27) (i := 20) (by kernel_rfl) h)))) (by kernel_rfl) (fun _ _ _ h => h) hA (.inl ⟨rfl, fun w5 q1 => ?_⟩) ?_
 ·obtain ⟨c0, c1, c2, c3, c4, c5, c6, c7, c8⟩ := cells9_of q1.1
  go_simp
 simp only [Act.put, List.setIfInBounds_toArray, List.set]
 refine wpG_takeP (i := 21) (v := .pointer (some ⟨m, 0, none⟩)) rfl (by kernel_rfl) (fun _ _ _ h => h) hA (.inl ⟨rfl, fun w5 q1 => ?_⟩) ?_
 ·go_simp
 simp only [Act.put, List.setIfInBounds_toArray, List.set]
 refine wpG_takeP (i := 22) (v := .pointer (some ⟨m, 0, none⟩)) rfl (by kernel_rfl) (fun _ _ _ h => h) hA (.inl ⟨rfl, fun w5 q1 => ?_⟩) ?_
 ·go_simp
 simp only [Act.put, List.setIfInBounds_toArray, List.set]
 refine wpG_takeP (i := 23) (v := .pointer (some ⟨m, 1, none⟩)) rfl (by kernel_rfl) (fun _ _ _ h => h) hA (.inl ⟨rfl, fun w5 q1 => ?_⟩) ?_
 ·go_simp
 simp only [Act.put, List.setIfInBounds_toArray, List.set]
 refine wpG_takeP (i := 24) (v := .pointer (some ⟨m, 5, none⟩)) rfl (by kernel_rfl) (fun _ _ _ h => h) hA (.inl ⟨rfl, fun w5 q1 => ?_⟩) ?_
 ·go_simp
 simp only [Act.put, List.setIfInBounds_toArray, List.set]
 refine wpG_takeT (i := 25) (v := .slice pa ps.length pc) rfl (fun L hc h => (hc.waits (n := 38) (i := 30) (by kernel_rfl) (hc.waits (n := 30) (i := 27) (by kernel_rfl) (hc.waits (n := 27) (i := 26) (by kernel_rfl) (hc.waits (n := 26) (i := 25) (by kernel_rfl) h))))) (by kernel_rfl) (fun _ _ _ h => h) hA (.inl ⟨rfl, fun w5 q1 => ?_⟩) ?_
 ·obtain ⟨c0, c1, c2, c3, c4, c5, c6, c7, c8⟩ := cells9_of q1.1
  go_simp
 simp only [Act.put, List.setIfInBounds_toArray, List.set]
 refine wpG_takeT (i := 26) (v := .int .i64 ps.length) rfl (fun L hc h => (hc.waits (n := 38) (i := 30) (by kernel_rfl) (hc.waits (n := 30) (i := 27) (by kernel_rfl) (hc.waits (n := 27) (i := 26) (by kernel_rfl) h)))) (by kernel_rfl) (fun _ _ _ h => h) hA (.inl ⟨rfl, fun w5 q1 => ?_⟩) ?_
 ·go_simp
 simp only [Act.put, List.setIfInBounds_toArray, List.set]
 refine wpG_takeP (i := 27) (v := .int .i64 N) rfl (by kernel_rfl) (fun _ _ _ h => h) hA (.inl ⟨rfl, fun w5 q1 => ?_⟩) ?_
 ·go_simp
 simp only [Act.put, List.setIfInBounds_toArray, List.set]
 refine wpG_takeP (i := 28) (v := .bool snap) rfl (by kernel_rfl) (fun _ _ _ h => h) hA (.inl ⟨rfl, fun w5 q1 => ?_⟩) ?_
 ·go_simp
 simp only [Act.put, List.setIfInBounds_toArray, List.set]
 refine wpG_takeP (i := 29) (v := .slice a b.length c) rfl (by kernel_rfl) (fun _ _ _ h => h) hA (.inl ⟨rfl, fun w5 q1 => ?_⟩) ?_
 ·go_simp
 simp only [Act.put, List.setIfInBounds_toArray, List.set]
 refine wpG_takeP (i := 31) (v := .pointer (some ⟨m, 0, none⟩)) rfl (by kernel_rfl) (fun _ _ _ h => h) hA (.inl ⟨rfl, fun w5 q1 => ?_⟩) ?_
 ·go_simp
 simp only [Act.put, List.setIfInBounds_toArray, List.set]
 refine wpG_takeP (i := 32) (v := .pointer (some ⟨m, 0, none⟩)) rfl (by kernel_rfl) (fun _ _ _ h => h) hA (.inl ⟨rfl, fun w5 q1 => ?_⟩) ?_
 ·go_simp
 simp only [Act.put, List.setIfInBounds_toArray, List.set]
 refine wpG_takeP (i := 33) (v := .pointer (some ⟨m, 1, none⟩)) rfl (by kernel_rfl) (fun _ _ _ h => h) hA (.inl ⟨rfl, fun w5 q1 => ?_⟩) ?_
 ·go_simp
 simp only [Act.put, List.setIfInBounds_toArray, List.set]
 refine wpG_takeP (i := 34) (v := .pointer (some ⟨m, 1, none⟩)) rfl (by kernel_rfl) (fun _ _ _ h => h) hA (.inl ⟨rfl, fun w5 q1 => ?_⟩) ?_
 ·go_simp
 simp only [Act.put, List.setIfInBounds_toArray, List.set]
 refine wpG_takeP (i := 35) (v := .pointer (some ⟨m, 2, none⟩)) rfl (by kernel_rfl) (fun _ _ _ h => h) hA (.inl ⟨rfl, fun w5 q1 => ?_⟩) ?_
 ·go_simp
 simp only [Act.put, List.setIfInBounds_toArray, List.set]
 refine wpG_takeT (i := 36) (v := .int .i64 hd.area) rfl (fun L hc h => (hc.waits (n := 38) (i := 37) (by kernel_rfl) (hc.waits (n := 37) (i := 36) (by kernel_rfl) h))) (by kernel_rfl) (fun _ _ _ h => h) hA (.inl ⟨rfl, fun w5 q1 => ?_⟩) ?_
 ·obtain ⟨c0, c1, c2, c3, c4, c5, c6, c7, c8⟩ := cells9_of q1.1
  go_simp
 simp only [Act.put, List.setIfInBounds_toArray, List.set]
 refine wpG_takeP (i := 37) (v := .int .i64 (2 * hd.area)) rfl (by kernel_rfl) (fun _ _ _ h => h) hA (.inl ⟨rfl, fun w5 q1 => ?_⟩) ?_
 ·go_simp
 simp only [Act.put, List.setIfInBounds_toArray, List.set]
 refine wpG_doIf (i := 30) rfl (by kernel_rfl) rfl (fun K hK => ?_)
 have HKK := Lib.hid hK
 clear hK
 go_step
 refine (wpart_any hd.turn N snap _ (HV.out.kept hA.2) HB.out HBL.out ht (by have := HN4.out; have := HN.out; omega)).mono ?_
 rintro e w3 ⟨vP, rfl, hP, u3⟩
 have hA3 := (⟨(u3.block _ (lt_of_heap hA.1) (fun e => e)).trans hA.1, hA.2.trans u3⟩ : _ ∧ _)
 have HP := Lib.hid hP; have HS3 := Lib.hid hA.2.size
 clear hP u3
 simp only []
 refine HKK.out _ _ hA3 ?_
 clear HKK
 simp only [Act.put, List.setIfInBounds_toArray, List.set]
 refine wpG_tail_lit (k := 38) rfl rfl (by kernel_rfl) ?_
 simp only [List.drop]
 have hL64 : ∀ x ∈ (List.range (secsN b.length)).map (cutF hd.turn N snap b), okBlk x := fun x hx => by
  obtain ⟨k, _, rfl⟩ := List.mem_map.1 hx
  exact cutF_ok HB.out
 have hll : ((List.range (secsN b.length)).map (cutF hd.turn N snap b)).length = secsN b.length := by simp
 have hsp := secsN_pos b.length
 have hsb := secsN_bound HBL.out
 obtain ⟨gP, cP, rfl, hgP, hgP2⟩ := OwnR.slice_of HP.out (by rw [hll]; omega)
 have hg : ¬ F gP := fun e => by have := HFL.out _ e; have := HS3.out; omega
 have hml := hA3.1
 have hly := wlays_any (lc := cP) (g := gP) (hd.place + U) (2 * hd.area) w3 hml HMF.out (HD.out.kept hA3.2 (fun _ _ e => e)) HOK.out hK (OwnR.blks HP.out hL64) hg (by rw [hll]; omega) (by omega) (by omega)
 rw [laysL_part HB.out (by omega) rfl, hll] at hly
 rw [hll]
 have HLY := Lib.hid hly; have HU4 := Lib.hid hA3.2
 clear hly hg hml hA hA3 hL64 hll hsp hsb HP
 go_wp2_with (go_at_call 136; fail)
 refine HLY.out.mono ?_
 rintro e w5 ⟨rfl, hl⟩
 have HLF := Lib.hid (hl.of_upd (HU4.out.mono (fun _ _ e => e.elim)) HU4.out.size)
 clear hl HLY
 simp only []
 go_wp2
 go_ret
 exact ⟨rfl, HLF.out⟩
def refN (no : Bool) (X : Lg) (n : Nat) (u : Int) : Int := if no then 1 else X.refuses n u
theorem wrefuses_any {m p : Nat} {pc c : Nat} {pa a : Option Addr} {X : Lg} {av : Value} {no : Bool} {n : Nat} (u : Int) (w : World) (hm : w.heap[m]? = some (.cells (mdC p X.h (.slice pa X.parts.length pc) av X.broken no) 37 (0, 0)))
  (hn : n ≤ 9223372036854775807) (hu : 0 ≤ u ∧ u ≤ 1000000) (hnum : 0 ≤ X.h.number ∧ X.h.number ≤ 1073741825) (hps : X.parts.length ≤ 1000) :
  Calls Tryz.prog 126 #[.pointer (some ⟨m, 0, none⟩), .slice a n c, .int .i64 u] w fun e w' => e = .returned (.int .i64 (refN no X n u)) ∧ Upd (fun _ => False) w w' := by
 have HM := Lib.hid hm
 obtain ⟨c0, c1, c2, c3, c4, c5, c6, c7, c8⟩ := cells9_of hm
 have hpsI : (0 : Int) ≤ X.parts.length ∧ (X.parts.length : Int) ≤ 1000 := by omega
 obtain ⟨R, hR⟩ : ∃ R, R = refN no X n u := ⟨_, rfl⟩
 rw [← hR]
 have HR := Lib.hid hR
 clear hm hR
 cases no with
 |true =>
  have hr : R = 1 := HR.out
  subst hr
  go_enter Tryz.func126, Tryz.ntmps126
  go_wp2
  go_ret
  exact ⟨rfl, Upd.refl _ _⟩
 |false =>
  obtain ⟨B, hB⟩ : ∃ B, B = X.broken := ⟨_, rfl⟩
  rw [← hB] at c7
  have HB := Lib.hid hB
  clear hB
  cases B with
  |true =>
   have hr : R = 8 := by rw [HR.out]; unfold refN Lg.refuses; rw [← HB.out]; rfl
   subst hr
   clear HR HB HM
   go_enter Tryz.func126, Tryz.ntmps126
   go_wp2
   go_ret
   exact ⟨rfl, Upd.refl _ _⟩
  |false =>
   by_cases h4 : 40000 < n
   ·have hr : R = 3 := by rw [HR.out]; unfold refN Lg.refuses; rw [← HB.out]; simp [h4]
    have h4i : (n : Int) > 40000 := by omega
    subst hr
    clear HR HB HM
    go_enter Tryz.func126, Tryz.ntmps126
    go_wp2
    go_ret
    exact ⟨rfl, Upd.refl _ _⟩
   ·have hr : R = if X.h.area < u + secsN n ∨ 1073741824 < X.h.number + X.parts.length then 6 else 0 := by rw [HR.out]; unfold refN Lg.refuses; rw [← HB.out]; simp [h4]
    have h4i : ¬ (n : Int) > 40000 := by omega
    have HSEC := Lib.hid (secsI_nat (n := n) (by omega))
    have hsb := secsN_bound (n := n) (by omega)
    obtain ⟨S, hS⟩ : ∃ S : Nat, S = secsN n := ⟨_, rfl⟩
    rw [← hS] at hr HSEC hsb
    have hw1 : IntKind.i64.wrap (u + (S : Int)) = u + S := by rw [IntKind.wrap_i64]; omega
    have hw2 : IntKind.i64.wrap (X.h.number + (X.parts.length : Int)) = X.h.number + X.parts.length := by rw [IntKind.wrap_i64]; omega
    have HRR := Lib.hid hr
    clear HR HB hr hS
    go_enter Tryz.func126, Tryz.ntmps126
    go_upto_region 7 with fail
    clear c0 c1 c2 c3 c4 c5 c6 c7 c8
    have hA : w.drew.heap[m]? = some (.cells (mdC p X.h (.slice pa X.parts.length pc) av X.broken false) 37 (0, 0)) ∧ Upd (fun _ => False) w w.drew := ⟨HM.out, (Upd.refl _ _).drew⟩
    by_cases h6 : X.h.area < u + S
    ·have h6g : u + (S : Int) > X.h.area := h6
     refine wp_region_G 28 (fun W => W.heap[m]? = some (.cells (mdC p X.h (.slice pa X.parts.length pc) av X.broken false) 37 (0, 0)) ∧ Upd (fun _ => False) w W) [false, false, false, false, false, false, false, false, false, false, false, false, false, false, false, false, false, false, false, false, false, false, false, false, false, false, false, false, false] rfl (by kernel_rfl) ?_
     refine wpG_takeP (i := 0) (v := .int .i64 u) rfl (by kernel_rfl) (fun _ _ _ h => h) hA (.inl ⟨rfl, fun w5 q1 => ?_⟩) ?_
     ·go_simp
     simp only [Act.put, List.setIfInBounds_toArray, List.set]
     refine wpG_takeP (i := 1) (v := .slice a n c) rfl (by kernel_rfl) (fun _ _ _ h => h) hA (.inl ⟨rfl, fun w5 q1 => ?_⟩) ?_
     ·go_simp
     simp only [Act.put, List.setIfInBounds_toArray, List.set]
     refine wpG_takeT (i := 2) (v := .int .i64 n) rfl (fun L hc h => (hc.waits (n := 28) (i := 12) (by kernel_rfl) (hc.waits (n := 12) (i := 3) (by kernel_rfl) (hc.waits (n := 3) (i := 2) (by kernel_rfl) h)))) (by kernel_rfl) (fun _ _ _ h => h) hA (.inl ⟨rfl, fun w5 q1 => ?_⟩) ?_
     ·go_simp
     simp only [Act.put, List.setIfInBounds_toArray, List.set]
     refine wpG_takeP (i := 5) (v := .pointer (some ⟨m, 0, none⟩)) rfl (by kernel_rfl) (fun _ _ _ h => h) hA (.inl ⟨rfl, fun w5 q1 => ?_⟩) ?_
     ·go_simp
     simp only [Act.put, List.setIfInBounds_toArray, List.set]
     refine wpG_takeP (i := 6) (v := .pointer (some ⟨m, 0, none⟩)) rfl (by kernel_rfl) (fun _ _ _ h => h) hA (.inl ⟨rfl, fun w5 q1 => ?_⟩) ?_
     ·go_simp
     simp only [Act.put, List.setIfInBounds_toArray, List.set]
     refine wpG_takeP (i := 7) (v := .pointer (some ⟨m, 1, none⟩)) rfl (by kernel_rfl) (fun _ _ _ h => h) hA (.inl ⟨rfl, fun w5 q1 => ?_⟩) ?_
     ·go_simp
     simp only [Act.put, List.setIfInBounds_toArray, List.set]
     refine wpG_takeP (i := 8) (v := .pointer (some ⟨m, 1, none⟩)) rfl (by kernel_rfl) (fun _ _ _ h => h) hA (.inl ⟨rfl, fun w5 q1 => ?_⟩) ?_
     ·go_simp
     simp only [Act.put, List.setIfInBounds_toArray, List.set]
     refine wpG_takeP (i := 9) (v := .pointer (some ⟨m, 2, none⟩)) rfl (by kernel_rfl) (fun _ _ _ h => h) hA (.inl ⟨rfl, fun w5 q1 => ?_⟩) ?_
     ·go_simp
     simp only [Act.put, List.setIfInBounds_toArray, List.set]
     refine wpG_takeT (i := 10) (v := .int .i64 X.h.area) rfl (fun L hc h => (hc.waits (n := 28) (i := 12) (by kernel_rfl) (hc.waits (n := 12) (i := 11) (by kernel_rfl) (hc.waits (n := 11) (i := 10) (by kernel_rfl) h)))) (by kernel_rfl) (fun _ _ _ h => h) hA (.inl ⟨rfl, fun w5 q1 => ?_⟩) ?_
     ·obtain ⟨c0, c1, c2, c3, c4, c5, c6, c7, c8⟩ := cells9_of q1.1
      go_simp
     simp only [Act.put, List.setIfInBounds_toArray, List.set]
     refine wpG_doIf (i := 3) rfl (by kernel_rfl) rfl (fun K hK => ?_)
     have HKK := Lib.hid hK
     clear hK
     go_step
     refine (wsec_any n _ (by omega)).mono ?_
     rintro e w3 ⟨rfl, rfl⟩
     rw [HSEC.out]
     simp only []
     refine HKK.out _ _ hA ?_
     clear HKK
     simp only [Act.put, List.setIfInBounds_toArray, List.set]
     refine wpG_takeP (i := 4) (v := .int .i64 (u + S)) rfl (by kernel_rfl) (fun _ _ _ h => h) hA (.inl ⟨rfl, fun w5 q1 => ?_⟩) ?_
     ·go_simp
     simp only [Act.put, List.setIfInBounds_toArray, List.set]
     refine wpG_takeP (i := 11) (v := .bool true) rfl (by kernel_rfl) (fun _ _ _ h => h) hA (.inl ⟨rfl, fun w5 q1 => ?_⟩) ?_
     ·go_simp
     simp only [Act.put, List.setIfInBounds_toArray, List.set]
     refine wpG_takeP (i := 12) (v := .bool true) rfl (by kernel_rfl) (fun _ _ _ h => h) hA (.inl ⟨rfl, fun w5 q1 => ?_⟩) ?_
     ·go_simp
     simp only [Act.put, List.setIfInBounds_toArray, List.set]
     refine wpG_takeP (i := 13) (v := undef) rfl (by kernel_rfl) (fun _ _ _ h => h) hA (.inr ⟨rfl, rfl⟩) ?_
     simp only [Act.put, List.setIfInBounds_toArray, List.set]
     refine wpG_takeP (i := 14) (v := undef) rfl (by kernel_rfl) (fun _ _ _ h => h) hA (.inr ⟨rfl, rfl⟩) ?_
     simp only [Act.put, List.setIfInBounds_toArray, List.set]
     refine wpG_takeP (i := 15) (v := undef) rfl (by kernel_rfl) (fun _ _ _ h => h) hA (.inr ⟨rfl, rfl⟩) ?_
     simp only [Act.put, List.setIfInBounds_toArray, List.set]
     refine wpG_takeP (i := 16) (v := undef) rfl (by kernel_rfl) (fun _ _ _ h => h) hA (.inr ⟨rfl, rfl⟩) ?_
     simp only [Act.put, List.setIfInBounds_toArray, List.set]
     refine wpG_takeP (i := 17) (v := undef) rfl (by kernel_rfl) (fun _ _ _ h => h) hA (.inr ⟨rfl, rfl⟩) ?_
     simp only [Act.put, List.setIfInBounds_toArray, List.set]
     refine wpG_takeT (i := 18) (v := undef) rfl (fun L hc h => (hc.waits (n := 28) (i := 27) (by kernel_rfl) (hc.waits (n := 27) (i := 26) (by kernel_rfl) (hc.waits (n := 26) (i := 25) (by kernel_rfl) (hc.waits (n := 25) (i := 18) (by kernel_rfl) h))))) (by kernel_rfl) (fun _ _ _ h => h) hA (.inr ⟨rfl, rfl⟩) ?_
     simp only [Act.put, List.setIfInBounds_toArray, List.set]
     refine wpG_takeP (i := 19) (v := undef) rfl (by kernel_rfl) (fun _ _ _ h => h) hA (.inr ⟨rfl, rfl⟩) ?_
     simp only [Act.put, List.setIfInBounds_toArray, List.set]
     refine wpG_takeP (i := 20) (v := undef) rfl (by kernel_rfl) (fun _ _ _ h => h) hA (.inr ⟨rfl, rfl⟩) ?_
     simp only [Act.put, List.setIfInBounds_toArray, List.set]
     refine wpG_takeP (i := 21) (v := undef) rfl (by kernel_rfl) (fun _ _ _ h => h) hA (.inr ⟨rfl, rfl⟩) ?_
     simp only [Act.put, List.setIfInBounds_toArray, List.set]
     refine wpG_takeP (i := 22) (v := undef) rfl (by kernel_rfl) (fun _ _ _ h => h) hA (.inr ⟨rfl, rfl⟩) ?_
     simp only [Act.put, List.setIfInBounds_toArray, List.set]
     refine wpG_takeT (i := 23) (v := undef) rfl (fun L hc h => (hc.waits (n := 28) (i := 27) (by kernel_rfl) (hc.waits (n := 27) (i := 26) (by kernel_rfl) (hc.waits (n := 26) (i := 25) (by kernel_rfl) (hc.waits (n := 25) (i := 24) (by kernel_rfl) (hc.waits (n := 24) (i := 23) (by kernel_rfl) h)))))) (by kernel_rfl) (fun _ _ _ h => h) hA (.inr ⟨rfl, rfl⟩) ?_
     simp only [Act.put, List.setIfInBounds_toArray, List.set]
     refine wpG_takeT (i := 24) (v := undef) rfl (fun L hc h => (hc.waits (n := 28) (i := 27) (by kernel_rfl) (hc.waits (n := 27) (i := 26) (by kernel_rfl) (hc.waits (n := 26) (i := 25) (by kernel_rfl) (hc.waits (n := 25) (i := 24) (by kernel_rfl) h))))) (by kernel_rfl) (fun _ _ _ h => h) hA (.inr ⟨rfl, rfl⟩) ?_
     simp only [Act.put, List.setIfInBounds_toArray, List.set]
     refine wpG_takeP (i := 25) (v := undef) rfl (by kernel_rfl) (fun _ _ _ h => h) hA (.inr ⟨rfl, rfl⟩) ?_
     simp only [Act.put, List.setIfInBounds_toArray, List.set]
     refine wpG_takeP (i := 26) (v := undef) rfl (by kernel_rfl) (fun _ _ _ h => h) hA (.inr ⟨rfl, rfl⟩) ?_
     simp only [Act.put, List.setIfInBounds_toArray, List.set]
     refine wpG_takeP (i := 27) (v := .bool true) rfl (by kernel_rfl) (fun _ _ _ h => h) hA (.inl ⟨rfl, fun w5 q1 => ?_⟩) ?_
     ·go_simp
     simp only [Act.put, List.setIfInBounds_toArray, List.set]
     refine wpG_tail_lit (k := 28) rfl rfl (by kernel_rfl) ?_
     simp only [List.drop]
     have HA := Lib.hid hA.2
     clear hA
     go_wp2
     go_ret
     exact ⟨by rw [HRR.out, if_pos (by omega)]; rfl, HA.out⟩
    ·have h6g : ¬ u + (S : Int) > X.h.area := h6
     by_cases h7 : 1073741824 < X.h.number + (X.parts.length : Int)
     ·have h7g : X.h.number + (X.parts.length : Int) > 1073741824 := h7
      refine wp_region_G 28 (fun W => W.heap[m]? = some (.cells (mdC p X.h (.slice pa X.parts.length pc) av X.broken false) 37 (0, 0)) ∧ Upd (fun _ => False) w W) [false, false, false, false, false, false, false, false, false, false, false, false, false, false, false, false, false, false, false, false, false, false, false, false, false, false, false, false, false] rfl (by kernel_rfl) ?_
      refine wpG_takeP (i := 0) (v := .int .i64 u) rfl (by kernel_rfl) (fun _ _ _ h => h) hA (.inl ⟨rfl, fun w5 q1 => ?_⟩) ?_
      ·go_simp
      simp only [Act.put, List.setIfInBounds_toArray, List.set]
      refine wpG_takeP (i := 1) (v := .slice a n c) rfl (by kernel_rfl) (fun _ _ _ h => h) hA (.inl ⟨rfl, fun w5 q1 => ?_⟩) ?_
      ·go_simp
      simp only [Act.put, List.setIfInBounds_toArray, List.set]
      refine wpG_takeT (i := 2) (v := .int .i64 n) rfl (fun L hc h => (hc.waits (n := 28) (i := 12) (by kernel_rfl) (hc.waits (n := 12) (i := 3) (by kernel_rfl) (hc.waits (n := 3) (i := 2) (by kernel_rfl) h)))) (by kernel_rfl) (fun _ _ _ h => h) hA (.inl ⟨rfl, fun w5 q1 => ?_⟩) ?_
      ·go_simp
      simp only [Act.put, List.setIfInBounds_toArray, List.set]
      refine wpG_takeP (i := 5) (v := .pointer (some ⟨m, 0, none⟩)) rfl (by kernel_rfl) (fun _ _ _ h => h) hA (.inl ⟨rfl, fun w5 q1 => ?_⟩) ?_
      ·go_simp
      simp only [Act.put, List.setIfInBounds_toArray, List.set]
      refine wpG_takeP (i := 6) (v := .pointer (some ⟨m, 0, none⟩)) rfl (by kernel_rfl) (fun _ _ _ h => h) hA (.inl ⟨rfl, fun w5 q1 => ?_⟩) ?_
      ·go_simp
      simp only [Act.put, List.setIfInBounds_toArray, List.set]
      refine wpG_takeP (i := 7) (v := .pointer (some ⟨m, 1, none⟩)) rfl (by kernel_rfl) (fun _ _ _ h => h) hA (.inl ⟨rfl, fun w5 q1 => ?_⟩) ?_
      ·go_simp
      simp only [Act.put, List.setIfInBounds_toArray, List.set]
      refine wpG_takeP (i := 8) (v := .pointer (some ⟨m, 1, none⟩)) rfl (by kernel_rfl) (fun _ _ _ h => h) hA (.inl ⟨rfl, fun w5 q1 => ?_⟩) ?_
      ·go_simp
      simp only [Act.put, List.setIfInBounds_toArray, List.set]
      refine wpG_takeP (i := 9) (v := .pointer (some ⟨m, 2, none⟩)) rfl (by kernel_rfl) (fun _ _ _ h => h) hA (.inl ⟨rfl, fun w5 q1 => ?_⟩) ?_
      ·go_simp
      simp only [Act.put, List.setIfInBounds_toArray, List.set]
      refine wpG_takeT (i := 10) (v := .int .i64 X.h.area) rfl (fun L hc h => (hc.waits (n := 28) (i := 12) (by kernel_rfl) (hc.waits (n := 12) (i := 11) (by kernel_rfl) (hc.waits (n := 11) (i := 10) (by kernel_rfl) h)))) (by kernel_rfl) (fun _ _ _ h => h) hA (.inl ⟨rfl, fun w5 q1 => ?_⟩) ?_
      ·obtain ⟨c0, c1, c2, c3, c4, c5, c6, c7, c8⟩ := cells9_of q1.1
       go_simp
      simp only [Act.put, List.setIfInBounds_toArray, List.set]
      refine wpG_doIf (i := 3) rfl (by kernel_rfl) rfl (fun K hK => ?_)
      have HKK := Lib.hid hK
      clear hK
      go_step
      refine (wsec_any n _ (by omega)).mono ?_
      rintro e w3 ⟨rfl, rfl⟩
      rw [HSEC.out]
      simp only []
      refine HKK.out _ _ hA ?_
      clear HKK
      simp only [Act.put, List.setIfInBounds_toArray, List.set]
      refine wpG_takeP (i := 4) (v := .int .i64 (u + S)) rfl (by kernel_rfl) (fun _ _ _ h => h) hA (.inl ⟨rfl, fun w5 q1 => ?_⟩) ?_
      ·go_simp
      simp only [Act.put, List.setIfInBounds_toArray, List.set]
      refine wpG_takeP (i := 11) (v := .bool false) rfl (by kernel_rfl) (fun _ _ _ h => h) hA (.inl ⟨rfl, fun w5 q1 => ?_⟩) ?_
      ·go_simp
      simp only [Act.put, List.setIfInBounds_toArray, List.set]
      refine wpG_takeP (i := 12) (v := .bool false) rfl (by kernel_rfl) (fun _ _ _ h => h) hA (.inl ⟨rfl, fun w5 q1 => ?_⟩) ?_
      ·go_simp
      simp only [Act.put, List.setIfInBounds_toArray, List.set]
      refine wpG_takeP (i := 13) (v := .pointer (some ⟨m, 0, none⟩)) rfl (by kernel_rfl) (fun _ _ _ h => h) hA (.inl ⟨rfl, fun w5 q1 => ?_⟩) ?_
      ·go_simp
      simp only [Act.put, List.setIfInBounds_toArray, List.set]
      refine wpG_takeP (i := 14) (v := .pointer (some ⟨m, 0, none⟩)) rfl (by kernel_rfl) (fun _ _ _ h => h) hA (.inl ⟨rfl, fun w5 q1 => ?_⟩) ?_
      ·go_simp
      simp only [Act.put, List.setIfInBounds_toArray, List.set]
      refine wpG_takeP (i := 15) (v := .pointer (some ⟨m, 1, none⟩)) rfl (by kernel_rfl) (fun _ _ _ h => h) hA (.inl ⟨rfl, fun w5 q1 => ?_⟩) ?_
      ·go_simp
      simp only [Act.put, List.setIfInBounds_toArray, List.set]
      refine wpG_takeP (i := 16) (v := .pointer (some ⟨m, 1, none⟩)) rfl (by kernel_rfl) (fun _ _ _ h => h) hA (.inl ⟨rfl, fun w5 q1 => ?_⟩) ?_
      ·go_simp
      simp only [Act.put, List.setIfInBounds_toArray, List.set]
      refine wpG_takeP (i := 17) (v := .pointer (some ⟨m, 4, none⟩)) rfl (by kernel_rfl) (fun _ _ _ h => h) hA (.inl ⟨rfl, fun w5 q1 => ?_⟩) ?_
      ·go_simp
      simp only [Act.put, List.setIfInBounds_toArray, List.set]
      refine wpG_takeT (i := 18) (v := .int .i64 X.h.number) rfl (fun L hc h => (hc.waits (n := 28) (i := 27) (by kernel_rfl) (hc.waits (n := 27) (i := 26) (by kernel_rfl) (hc.waits (n := 26) (i := 25) (by kernel_rfl) (hc.waits (n := 25) (i := 18) (by kernel_rfl) h))))) (by kernel_rfl) (fun _ _ _ h => h) hA (.inl ⟨rfl, fun w5 q1 => ?_⟩) ?_
      ·obtain ⟨c0, c1, c2, c3, c4, c5, c6, c7, c8⟩ := cells9_of q1.1
       go_simp
      simp only [Act.put, List.setIfInBounds_toArray, List.set]
      refine wpG_takeP (i := 19) (v := .pointer (some ⟨m, 0, none⟩)) rfl (by kernel_rfl) (fun _ _ _ h => h) hA (.inl ⟨rfl, fun w5 q1 => ?_⟩) ?_
      ·go_simp
      simp only [Act.put, List.setIfInBounds_toArray, List.set]
      refine wpG_takeP (i := 20) (v := .pointer (some ⟨m, 0, none⟩)) rfl (by kernel_rfl) (fun _ _ _ h => h) hA (.inl ⟨rfl, fun w5 q1 => ?_⟩) ?_
      ·go_simp
      simp only [Act.put, List.setIfInBounds_toArray, List.set]
      refine wpG_takeP (i := 21) (v := .pointer (some ⟨m, 1, none⟩)) rfl (by kernel_rfl) (fun _ _ _ h => h) hA (.inl ⟨rfl, fun w5 q1 => ?_⟩) ?_
      ·go_simp
      simp only [Act.put, List.setIfInBounds_toArray, List.set]
      refine wpG_takeP (i := 22) (v := .pointer (some ⟨m, 5, none⟩)) rfl (by kernel_rfl) (fun _ _ _ h => h) hA (.inl ⟨rfl, fun w5 q1 => ?_⟩) ?_
      ·go_simp
      simp only [Act.put, List.setIfInBounds_toArray, List.set]
      refine wpG_takeT (i := 23) (v := .slice pa X.parts.length pc) rfl (fun L hc h => (hc.waits (n := 28) (i := 27) (by kernel_rfl) (hc.waits (n := 27) (i := 26) (by kernel_rfl) (hc.waits (n := 26) (i := 25) (by kernel_rfl) (hc.waits (n := 25) (i := 24) (by kernel_rfl) (hc.waits (n := 24) (i := 23) (by kernel_rfl) h)))))) (by kernel_rfl) (fun _ _ _ h => h) hA (.inl ⟨rfl, fun w5 q1 => ?_⟩) ?_
      ·obtain ⟨c0, c1, c2, c3, c4, c5, c6, c7, c8⟩ := cells9_of q1.1
       go_simp
      simp only [Act.put, List.setIfInBounds_toArray, List.set]
      refine wpG_takeT (i := 24) (v := .int .i64 X.parts.length) rfl (fun L hc h => (hc.waits (n := 28) (i := 27) (by kernel_rfl) (hc.waits (n := 27) (i := 26) (by kernel_rfl) (hc.waits (n := 26) (i := 25) (by kernel_rfl) (hc.waits (n := 25) (i := 24) (by kernel_rfl) h))))) (by kernel_rfl) (fun _ _ _ h => h) hA (.inl ⟨rfl, fun w5 q1 => ?_⟩) ?_
      ·go_simp
      simp only [Act.put, List.setIfInBounds_toArray, List.set]
      refine wpG_takeP (i := 25) (v := .int .i64 (X.h.number + X.parts.length)) rfl (by kernel_rfl) (fun _ _ _ h => h) hA (.inl ⟨rfl, fun w5 q1 => ?_⟩) ?_
      ·go_simp
      simp only [Act.put, List.setIfInBounds_toArray, List.set]
      refine wpG_takeP (i := 26) (v := .bool true) rfl (by kernel_rfl) (fun _ _ _ h => h) hA (.inl ⟨rfl, fun w5 q1 => ?_⟩) ?_
      ·go_simp
      simp only [Act.put, List.setIfInBounds_toArray, List.set]
      refine wpG_takeP (i := 27) (v := .bool true) rfl (by kernel_rfl) (fun _ _ _ h => h) hA (.inl ⟨rfl, fun w5 q1 => ?_⟩) ?_
      ·go_simp
      simp only [Act.put, List.setIfInBounds_toArray, List.set]
      refine wpG_tail_lit (k := 28) rfl rfl (by kernel_rfl) ?_
      simp only [List.drop]
      have HA := Lib.hid hA.2
      clear hA
      go_wp2
      go_ret
      exact ⟨by rw [HRR.out, if_pos (by omega)]; rfl, HA.out⟩
     ·have h7g : ¬ X.h.number + (X.parts.length : Int) > 1073741824 := h7
      refine wp_region_G 28 (fun W => W.heap[m]? = some (.cells (mdC p X.h (.slice pa X.parts.length pc) av X.broken false) 37 (0, 0)) ∧ Upd (fun _ => False) w W) [false, false, false, false, false, false, false, false, false, false, false, false, false, false, false, false, false, false, false, false, false, false, false, false, false, false, false, false, false] rfl (by kernel_rfl) ?_
      refine wpG_takeP (i := 0) (v := .int .i64 u) rfl (by kernel_rfl) (fun _ _ _ h => h) hA (.inl ⟨rfl, fun w5 q1 => ?_⟩) ?_
      ·go_simp
      simp only [Act.put, List.setIfInBounds_toArray, List.set]
      refine wpG_takeP (i := 1) (v := .slice a n c) rfl (by kernel_rfl) (fun _ _ _ h => h) hA (.inl ⟨rfl, fun w5 q1 => ?_⟩) ?_
      ·go_simp
      simp only [Act.put, List.setIfInBounds_toArray, List.set]
      refine wpG_takeT (i := 2) (v := .int .i64 n) rfl (fun L hc h => (hc.waits (n := 28) (i := 12) (by kernel_rfl) (hc.waits (n := 12) (i := 3) (by kernel_rfl) (hc.waits (n := 3) (i := 2) (by kernel_rfl) h)))) (by kernel_rfl) (fun _ _ _ h => h) hA (.inl ⟨rfl, fun w5 q1 => ?_⟩) ?_
      ·go_simp
      simp only [Act.put, List.setIfInBounds_toArray, List.set]
      refine wpG_takeP (i := 5) (v := .pointer (some ⟨m, 0, none⟩)) rfl (by kernel_rfl) (fun _ _ _ h => h) hA (.inl ⟨rfl, fun w5 q1 => ?_⟩) ?_
      ·go_simp
      simp only [Act.put, List.setIfInBounds_toArray, List.set]
      refine wpG_takeP (i := 6) (v := .pointer (some ⟨m, 0, none⟩)) rfl (by kernel_rfl) (fun _ _ _ h => h) hA (.inl ⟨rfl, fun w5 q1 => ?_⟩) ?_
      ·go_simp
      simp only [Act.put, List.setIfInBounds_toArray, List.set]
      refine wpG_takeP (i := 7) (v := .pointer (some ⟨m, 1, none⟩)) rfl (by kernel_rfl) (fun _ _ _ h => h) hA (.inl ⟨rfl, fun w5 q1 => ?_⟩) ?_
      ·go_simp
      simp only [Act.put, List.setIfInBounds_toArray, List.set]
      refine wpG_takeP (i := 8) (v := .pointer (some ⟨m, 1, none⟩)) rfl (by kernel_rfl) (fun _ _ _ h => h) hA (.inl ⟨rfl, fun w5 q1 => ?_⟩) ?_
      ·go_simp
      simp only [Act.put, List.setIfInBounds_toArray, List.set]
      refine wpG_takeP (i := 9) (v := .pointer (some ⟨m, 2, none⟩)) rfl (by kernel_rfl) (fun _ _ _ h => h) hA (.inl ⟨rfl, fun w5 q1 => ?_⟩) ?_
      ·go_simp
      simp only [Act.put, List.setIfInBounds_toArray, List.set]
      refine wpG_takeT (i := 10) (v := .int .i64 X.h.area) rfl (fun L hc h => (hc.waits (n := 28) (i := 12) (by kernel_rfl) (hc.waits (n := 12) (i := 11) (by kernel_rfl) (hc.waits (n := 11) (i := 10) (by kernel_rfl) h)))) (by kernel_rfl) (fun _ _ _ h => h) hA (.inl ⟨rfl, fun w5 q1 => ?_⟩) ?_
      ·obtain ⟨c0, c1, c2, c3, c4, c5, c6, c7, c8⟩ := cells9_of q1.1
       go_simp
      simp only [Act.put, List.setIfInBounds_toArray, List.set]
      refine wpG_doIf (i := 3) rfl (by kernel_rfl) rfl (fun K hK => ?_)
      have HKK := Lib.hid hK
      clear hK
      go_step
      refine (wsec_any n _ (by omega)).mono ?_
      rintro e w3 ⟨rfl, rfl⟩
      rw [HSEC.out]
      simp only []
      refine HKK.out _ _ hA ?_
      clear HKK
      simp only [Act.put, List.setIfInBounds_toArray, List.set]
      refine wpG_takeP (i := 4) (v := .int .i64 (u + S)) rfl (by kernel_rfl) (fun _ _ _ h => h) hA (.inl ⟨rfl, fun w5 q1 => ?_⟩) ?_
      ·go_simp
      simp only [Act.put, List.setIfInBounds_toArray, List.set]
      refine wpG_takeP (i := 11) (v := .bool false) rfl (by kernel_rfl) (fun _ _ _ h => h) hA (.inl ⟨rfl, fun w5 q1 => ?_⟩) ?_
      ·go_simp
      simp only [Act.put, List.setIfInBounds_toArray, List.set]
      refine wpG_takeP (i := 12) (v := .bool false) rfl (by kernel_rfl) (fun _ _ _ h => h) hA (.inl ⟨rfl, fun w5 q1 => ?_⟩) ?_
      ·go_simp
      simp only [Act.put, List.setIfInBounds_toArray, List.set]
      refine wpG_takeP (i := 13) (v := .pointer (some ⟨m, 0, none⟩)) rfl (by kernel_rfl) (fun _ _ _ h => h) hA (.inl ⟨rfl, fun w5 q1 => ?_⟩) ?_
      ·go_simp
      simp only [Act.put, List.setIfInBounds_toArray, List.set]
      refine wpG_takeP (i := 14) (v := .pointer (some ⟨m, 0, none⟩)) rfl (by kernel_rfl) (fun _ _ _ h => h) hA (.inl ⟨rfl, fun w5 q1 => ?_⟩) ?_
      ·go_simp
      simp only [Act.put, List.setIfInBounds_toArray, List.set]
      refine wpG_takeP (i := 15) (v := .pointer (some ⟨m, 1, none⟩)) rfl (by kernel_rfl) (fun _ _ _ h => h) hA (.inl ⟨rfl, fun w5 q1 => ?_⟩) ?_
      ·go_simp
      simp only [Act.put, List.setIfInBounds_toArray, List.set]
      refine wpG_takeP (i := 16) (v := .pointer (some ⟨m, 1, none⟩)) rfl (by kernel_rfl) (fun _ _ _ h => h) hA (.inl ⟨rfl, fun w5 q1 => ?_⟩) ?_
      ·go_simp
      simp only [Act.put, List.setIfInBounds_toArray, List.set]
      refine wpG_takeP (i := 17) (v := .pointer (some ⟨m, 4, none⟩)) rfl (by kernel_rfl) (fun _ _ _ h => h) hA (.inl ⟨rfl, fun w5 q1 => ?_⟩) ?_
      ·go_simp
      simp only [Act.put, List.setIfInBounds_toArray, List.set]
      refine wpG_takeT (i := 18) (v := .int .i64 X.h.number) rfl (fun L hc h => (hc.waits (n := 28) (i := 27) (by kernel_rfl) (hc.waits (n := 27) (i := 26) (by kernel_rfl) (hc.waits (n := 26) (i := 25) (by kernel_rfl) (hc.waits (n := 25) (i := 18) (by kernel_rfl) h))))) (by kernel_rfl) (fun _ _ _ h => h) hA (.inl ⟨rfl, fun w5 q1 => ?_⟩) ?_
      ·obtain ⟨c0, c1, c2, c3, c4, c5, c6, c7, c8⟩ := cells9_of q1.1
       go_simp
      simp only [Act.put, List.setIfInBounds_toArray, List.set]
      refine wpG_takeP (i := 19) (v := .pointer (some ⟨m, 0, none⟩)) rfl (by kernel_rfl) (fun _ _ _ h => h) hA (.inl ⟨rfl, fun w5 q1 => ?_⟩) ?_
      ·go_simp
      simp only [Act.put, List.setIfInBounds_toArray, List.set]
      refine wpG_takeP (i := 20) (v := .pointer (some ⟨m, 0, none⟩)) rfl (by kernel_rfl) (fun _ _ _ h => h) hA (.inl ⟨rfl, fun w5 q1 => ?_⟩) ?_
      ·go_simp
      simp only [Act.put, List.setIfInBounds_toArray, List.set]
      refine wpG_takeP (i := 21) (v := .pointer (some ⟨m, 1, none⟩)) rfl (by kernel_rfl) (fun _ _ _ h => h) hA (.inl ⟨rfl, fun w5 q1 => ?_⟩) ?_
      ·go_simp
      simp only [Act.put, List.setIfInBounds_toArray, List.set]
      refine wpG_takeP (i := 22) (v := .pointer (some ⟨m, 5, none⟩)) rfl (by kernel_rfl) (fun _ _ _ h => h) hA (.inl ⟨rfl, fun w5 q1 => ?_⟩) ?_
      ·go_simp
      simp only [Act.put, List.setIfInBounds_toArray, List.set]
      refine wpG_takeT (i := 23) (v := .slice pa X.parts.length pc) rfl (fun L hc h => (hc.waits (n := 28) (i := 27) (by kernel_rfl) (hc.waits (n := 27) (i := 26) (by kernel_rfl) (hc.waits (n := 26) (i := 25) (by kernel_rfl) (hc.waits (n := 25) (i := 24) (by kernel_rfl) (hc.waits (n := 24) (i := 23) (by kernel_rfl) h)))))) (by kernel_rfl) (fun _ _ _ h => h) hA (.inl ⟨rfl, fun w5 q1 => ?_⟩) ?_
      ·obtain ⟨c0, c1, c2, c3, c4, c5, c6, c7, c8⟩ := cells9_of q1.1
       go_simp
      simp only [Act.put, List.setIfInBounds_toArray, List.set]
      refine wpG_takeT (i := 24) (v := .int .i64 X.parts.length) rfl (fun L hc h => (hc.waits (n := 28) (i := 27) (by kernel_rfl) (hc.waits (n := 27) (i := 26) (by kernel_rfl) (hc.waits (n := 26) (i := 25) (by kernel_rfl) (hc.waits (n := 25) (i := 24) (by kernel_rfl) h))))) (by kernel_rfl) (fun _ _ _ h => h) hA (.inl ⟨rfl, fun w5 q1 => ?_⟩) ?_
      ·go_simp
      simp only [Act.put, List.setIfInBounds_toArray, List.set]
      refine wpG_takeP (i := 25) (v := .int .i64 (X.h.number + X.parts.length)) rfl (by kernel_rfl) (fun _ _ _ h => h) hA (.inl ⟨rfl, fun w5 q1 => ?_⟩) ?_
      ·go_simp
      simp only [Act.put, List.setIfInBounds_toArray, List.set]
      refine wpG_takeP (i := 26) (v := .bool false) rfl (by kernel_rfl) (fun _ _ _ h => h) hA (.inl ⟨rfl, fun w5 q1 => ?_⟩) ?_
      ·go_simp
      simp only [Act.put, List.setIfInBounds_toArray, List.set]
      refine wpG_takeP (i := 27) (v := .bool false) rfl (by kernel_rfl) (fun _ _ _ h => h) hA (.inl ⟨rfl, fun w5 q1 => ?_⟩) ?_
      ·go_simp
      simp only [Act.put, List.setIfInBounds_toArray, List.set]
      refine wpG_tail_lit (k := 28) rfl rfl (by kernel_rfl) ?_
      simp only [List.drop]
      have HA := Lib.hid hA.2
      clear hA
      go_wp2
      go_ret
      exact ⟨by rw [HRR.out, if_neg (by omega)]; rfl, HA.out⟩
theorem wp_append_growsQ {P : Program} (w : World) {o : Oper} {a : Act} {K : Act → World → Prop} {Q : Exit → Act → World → Prop}
  (s x : Operand) (t : TypeId) (hop : o.op = Op.call { callee := Callee.builtin Builtin.append, args := #[s, x], argTypes := #[t, t] })
  (e : TypeId) (i : TypeInfo) (z : Value) (size bytes : Nat) (h1 : P.underlying t = some (.slice e)) (h2 : P.info? e = some i) (h3 : i.zero = some z) (h4 : i.size = size) (h5 : i.bytes = bytes) (h6 : z.cells.size = size) (h7 : 0 < size)
  (ao : Option Addr) (n cap : Nat) (olds : List Value) (hs : a.eval s = .slice ao n cap) (hnone : ao = none → n = 0 ∧ cap = 0) (hlo : olds.length = n * size) (holds : ∀ b, ao = some b → ∀ j u, olds[j]? = some u → w.cell? (b.add j) = some u)
  (ad : Addr) (m c : Nat) (news : List Value) (hx : a.eval x = .slice (some ad) m c) (hn : news.length = m * size) (hc : ∀ j u, news[j]? = some u → w.cell? (ad.add j) = some u) (h1c : ∀ u ∈ news, u.oneCell' = true)
  (hfull : cap < n + m) (b1 : n + m ≤ maxLen) (b2 : (n + m) * bytes ≤ 140737488355328)
  (hK : ∀ v' w', w'.ownsRow w.heap.size e size v' (n + m) (olds ++ news) → w.grownBy w' none → K (a.put o.dst v') w') : o.wp P a w K Q := by
 cases ao with
 |some b =>
  obtain ⟨v', w', hrun, r1, r2⟩ := run_append_arg_grows (P := P) w t o.type e i z size bytes h1 h2 h3 h4 h5 h6 h7 b n cap olds hlo (holds b rfl) ad m c news hn hc hfull b1 b2
  unfold Oper.wp
  simp [execOp, hop, resolve, invoke, builtin, hs, hx, hrun, Result.andThen]
  exact hK v' w' r1 r2
 |none =>
  obtain ⟨rfl, rfl⟩ := hnone rfl
  obtain rfl : olds = [] := List.eq_nil_of_length_eq_zero (by simpa using hlo)
  obtain ⟨v', w', hrun, r1, r2, _⟩ := run_append_own (P := P) w w.heap.size t o.type e i z size bytes h1 h2 h3 h4 h5 h6 h7 (.slice none 0 0) 0 [] (World.ownsRow_nil w _ e size) ad m c news hn hc h1c b1 b2 (Nat.le_refl _)
  unfold Oper.wp
  simp [execOp, hop, resolve, invoke, builtin, hs, hx, hrun, Result.andThen]
  exact hK v' w' r1 r2
theorem cell_eqQ {W w : World} {a : Addr} (h : W.heap[a.block]? = w.heap[a.block]?) : W.cell? a = w.cell? a := by simp [World.cell?, h]
theorem bytesIn_eqQ {W w : World} {g o n c : Nat} {bs : List Int} (h : BytesIn w (.slice (some ⟨g, o, none⟩) n c) bs) (hW : W.heap[g]? = w.heap[g]?) : BytesIn W (.slice (some ⟨g, o, none⟩) n c) bs := by
 rcases h with ⟨e, _⟩ | ⟨ad, c', e, h1, h2, h3⟩
 ·cases e
 ·injection e with e1 e2 e3
  injection e1 with e1
  subst e1
  exact .inr ⟨⟨g, o, none⟩, c', by rw [e2, e3], h1, h2, fun i u hi => by
   have := h3 i u hi
   rw [Addr.add_mid] at this ⊢
   rwa [cell_eqQ hW]⟩
def PIn (C : Nat → Prop) (w : World) (a : Option Addr) (l : List (List Int)) : Prop :=
 (∀ k, C k → k < w.heap.size) ∧ ∃ vs : List Value, vs.length = l.length ∧ ∀ W : World, (∀ k, C k → W.heap[k]? = w.heap[k]?) →
  (∀ (i : Nat) v, vs[i]? = some v → ∃ g o, a = some ⟨g, o, none⟩ ∧ W.cell? ⟨g, o + i, none⟩ = some v) ∧ ∀ (i : Nat) v x, vs[i]? = some v → l[i]? = some x → ∃ ba bc, v = .slice ba x.length bc ∧ BytesIn W v x
theorem PIn.kept {C G : Nat → Prop} {w w' : World} {a : Option Addr} {l : List (List Int)} (h : PIn C w a l) (hu : Upd G w w') (hg : ∀ k, C k → ¬ G k) : PIn C w' a l := by
 obtain ⟨h1, vs, h2, h3⟩ := h
 exact ⟨fun k hk => Nat.lt_of_lt_of_le (h1 k hk) hu.size, vs, h2, fun W hW => h3 W (fun k hk => (hW k hk).trans (hu.block k (h1 k hk) (hg k hk)))⟩
theorem PIn.rows {C : Nat → Prop} {w : World} {a : Option Addr} {l : List (List Int)} (h : PIn C w a l) (hl : ∀ x ∈ l, x.length ≤ 40000) : BRows w a l := by
 obtain ⟨h1, vs, h2, h3⟩ := h
 obtain ⟨g1, g2⟩ := h3 w (fun _ _ => rfl)
 intro i x hx
 have hi : i < vs.length := by rw [h2]; exact (List.getElem?_eq_some_iff.1 hx).1
 obtain ⟨g, o, e, hc⟩ := g1 i _ (List.getElem?_eq_getElem hi)
 obtain ⟨ba, bc, e2, hb⟩ := g2 i _ x (List.getElem?_eq_getElem hi) hx
 rw [e2] at hc hb
 exact ⟨g, o, ba, bc, e, hc, hb, by have := hl x (List.mem_of_getElem? hx); omega⟩
structure MdSt (w : World) (m p : Nat) (X : Lg) (no : Bool) (C : Nat → Prop) : Prop where
 st : ∃ pa pc aa an ac, w.heap[m]? = some (.cells (mdC p X.h (.slice pa X.parts.length pc) (.slice aa an ac) X.broken no) 37 (0, 0)) ∧ PIn C w pa X.parts ∧ X.parts.length ≤ pc ∧ pc ≤ maxLen ∧ (pa = none → X.parts.length = 0)
 cm : ∀ k, C k → k ≠ m
theorem MdSt.kept {C G : Nat → Prop} {w w' : World} {m p : Nat} {X : Lg} {no : Bool} (h : MdSt w m p X no C) (hu : Upd G w w') (hg : ∀ k, C k → ¬ G k) (hm : ¬ G m) : MdSt w' m p X no C := by
 obtain ⟨⟨pa, pc, aa, an, ac, h1, h2, h4⟩, h3⟩ := h
 exact ⟨⟨pa, pc, aa, an, ac, (hu.block _ (lt_of_heap h1) hm).trans h1, h2.kept hu hg, h4⟩, h3⟩
theorem usedI_of {l : List (List Int)} (h : ∀ x ∈ l, x.length ≤ 40000) : usedI l = usedOf l := by
 induction l with
 |nil => rfl
 |cons x l ih =>
  have h1 := secsI_nat (h x (by simp))
  have h2 := ih (fun y hy => h y (by simp [hy]))
  unfold usedI usedOf at h2 ⊢
  simp only [List.map_cons, List.sum_cons, h2, h1]
theorem elem32Q : Tryz.prog.underlying 32 = some (.slice (Tryz.prog.elem 32)) := by kernel_rfl
theorem full_sliceQ (ta : Option Addr) (n tc : Nat) (hn : n ≤ tc) (_h63 : tc ≤ 9223372036854775807) : ∀ W, (Instr.slice 32 (.slice ta n tc) none (some (.int .i64 (n : Int))) (some (.int .i64 (n : Int)))).run Tryz.prog W = .ok (.slice (if n = 0 then ta else ta.map (·.add (0 * 1))) n n) W := by
 have hz : ∀ W : World, (sizeOf (Tryz.prog.elem 32)).run Tryz.prog W = .ok 1 W := fun W => by kernel_rfl
 intro W
 rw [run_slice_hm W 32 ta n tc elem32Q .i64 .i64 n n (by omega) (by omega) (by omega), hz]
 rfl
theorem Tryz.info39q : (Tryz.prog.info? 39).map (fun i => (i.zero, i.size, i.bytes)) = some (some (.slice none 0 0), 1, 24) := by kernel_rfl
theorem Tryz.under32q : Tryz.prog.underlying 32 = some (.slice 39) := by kernel_rfl
structure BIn (Cb : Nat → Prop) (w : World) (a : Option Addr) (c : Nat) (b : List Int) : Prop where
 lt : ∀ k, Cb k → k < w.heap.size
 bytes : ∀ W : World, (∀ k, Cb k → W.heap[k]? = w.heap[k]?) → BytesIn W (.slice a b.length c) b
 cap : b.length ≤ c
theorem BIn.kept {C G : Nat → Prop} {w w' : World} {a : Option Addr} {c : Nat} {b : List Int} (h : BIn C w a c b) (hu : Upd G w w') (hg : ∀ k, C k → ¬ G k) : BIn C w' a c b :=
 ⟨fun k hk => Nat.lt_of_lt_of_le (h.lt k hk) hu.size, fun W hW => h.bytes W (fun k hk => (hW k hk).trans (hu.block k (h.lt k hk) (hg k hk))), h.cap⟩
theorem BIn.now {C : Nat → Prop} {w : World} {a : Option Addr} {c : Nat} {b : List Int} (h : BIn C w a c b) : BytesIn w (.slice a b.length c) b := h.bytes w (fun _ _ => rfl)
theorem own_ltP {w : World} {B e s n g c : Nat} {k : Nat} {xs : List Value} (h : w.ownsRow B e s (.slice (some ⟨g, 0, none⟩) k c) n xs) (_h : True = True) : g < w.heap.size := by
 rcases h.2 with ⟨e1, _⟩ | ⟨g2, cap, cur, e1, _, hg, _⟩
 ·cases e1
 ·injection e1 with e1 _ _
  injection e1 with e1
  injection e1 with e1 _ _
  subst e1
  exact lt_of_heap hg
theorem PIn.snoc {C Cb : Nat → Prop} {w W : World} {pa a : Option Addr} {g9 c c9 : Nat} {l : List (List Int)} {b : List Int} {olds : List Value} (h : PIn C w pa l) (hb : BIn Cb w a c b) (hu : Upd (fun k => w.heap.size ≤ k) w W) (ho : olds.length = l.length)
  (hol : ∀ (i : Nat) v, olds[i]? = some v → ∃ g o, pa = some ⟨g, o, none⟩ ∧ w.cell? ⟨g, o + i, none⟩ = some v) (hrow : W.ownsRow w.heap.size 39 1 (.slice (some ⟨g9, 0, none⟩) (l.length + 1) c9) (l.length + 1) (olds ++ [.slice a b.length c])) :
  PIn (fun k => C k ∨ Cb k ∨ k = g9) W (some ⟨g9, 0, none⟩) (l ++ [b]) := by
 obtain ⟨h1, vs, h2, h3⟩ := h
 obtain ⟨z1, z2⟩ := h3 w (fun _ _ => rfl)
 have hev : olds = vs := by
  apply List.ext_getElem?
  intro i
  rcases Nat.lt_or_ge i olds.length with hi | hi
  ·obtain ⟨g, o, e, hc⟩ := hol i _ (List.getElem?_eq_getElem hi)
   obtain ⟨g', o', e', hc'⟩ := z1 i _ (List.getElem?_eq_getElem (show i < vs.length by omega))
   rw [e] at e'
   injection e' with e'
   injection e' with e1 e2
   subst e1; subst e2
   rw [List.getElem?_eq_getElem hi, List.getElem?_eq_getElem (show i < vs.length by omega), ← hc, ← hc']
  ·rw [List.getElem?_eq_none hi, List.getElem?_eq_none (by omega)]
 subst hev
 have hlt := own_ltP hrow rfl
 refine ⟨fun k hk => ?_, olds ++ [.slice a b.length c], by simp [ho], fun W' hW' => ⟨fun i v hi => ?_, fun i v x hi hx => ?_⟩⟩
 ·rcases hk with hk | hk | rfl
  ·exact Nat.lt_of_lt_of_le (h1 k hk) hu.size
  ·exact Nat.lt_of_lt_of_le (hb.lt k hk) hu.size
  ·exact hlt
 ·refine ⟨g9, 0, rfl, ?_⟩
  have := World.ownsRow.cells hrow (g := g9) rfl i v hi
  rw [Addr.add_mid] at this
  rwa [cell_eqQ (hW' g9 (.inr (.inr rfl)))]
 ·have hw : ∀ k, (C k ∨ Cb k) → W'.heap[k]? = w.heap[k]? := fun k hk => by
   rcases hk with hk | hk
   ·exact (hW' k (.inl hk)).trans (hu.block k (h1 k hk) (fun e => by have := h1 k hk; omega))
   ·exact (hW' k (.inr (.inl hk))).trans (hu.block k (hb.lt k hk) (fun e => by have := hb.lt k hk; omega))
  rcases Nat.lt_or_ge i olds.length with hlt | hge
  ·rw [List.getElem?_append_left hlt] at hi
   rw [List.getElem?_append_left (by omega)] at hx
   exact (h3 W' (fun k hk => hw k (.inl hk))).2 i v x hi hx
  ·have hi0 : i = olds.length := by
    have := (List.getElem?_eq_some_iff.1 hi).1
    simp at this
    omega
   subst hi0
   simp at hi
   rw [ho] at hx
   simp at hx
   subst hi
   subst hx
   exact ⟨a, c, rfl, hb.bytes W' (fun k hk => hw k (.inr hk))⟩
theorem own_sliceP {w : World} {B e s n : Nat} {v : Value} {xs : List Value} (h : w.ownsRow B e s v (n + 1) xs) : ∃ g c, v = .slice (some ⟨g, 0, none⟩) (n + 1) c ∧ B ≤ g := by
 rcases h.2 with ⟨e1, e2⟩ | ⟨g2, cap, cur, e1, hB, hg, _⟩
 ·omega
 ·exact ⟨g2, cap, e1, hB⟩
theorem own_ltR {w : World} {B e s n g c k : Nat} {xs : List Value} (h : w.ownsRow B e s (.slice (some ⟨g, 0, none⟩) k c) n xs) : B ≤ g := by
 rcases h.2 with ⟨e1, _⟩ | ⟨g2, cap, cur, e1, hB, hg, _⟩
 ·cases e1
 ·injection e1 with e1 _ _
  injection e1 with e1
  injection e1 with e1 _ _
  subst e1
  exact hB
theorem own_capP {w : World} {B e s n g c k : Nat} {xs : List Value} (h : w.ownsRow B e s (.slice (some ⟨g, 0, none⟩) k c) n xs) : n ≤ c ∧ c ≤ maxLen := by
 rcases h.2 with ⟨e1, _⟩ | ⟨g2, cap, cur, e1, hB, hg, h4, h5, _⟩
 ·cases e1
 ·injection e1 with e1 _ e3
  subst e3
  exact ⟨h4, h5⟩
theorem mdc_lit {p : Nat} {hd : Hd} {pv av : Value} {br no : Bool} : mdC p hd pv av br no = #[.pointer (some ⟨p, 0, none⟩), .int .i64 hd.turn, .int .i64 hd.area, .int .i64 hd.place, .int .i64 hd.number, pv, av, .bool br, .bool no] := rfl
def MApp (w : World) (m p : Nat) (X : Lg) (no : Bool) (D : Dk) (C Cb F : Nat → Prop) (R : Int) (L : List (Int × List Int)) (Y : Int → Lg) (D' : Dk) (E : Int) (e : Ending) (w' : World) : Prop :=
 (R ≠ 0 ∧ e = .returned (.int .i64 R) ∧ Upd (fun _ => False) w w') ∨
 (R = 0 ∧ e = .returned (.int .i64 E) ∧ ∃ C' F', MdSt w' m p (Y E) no C' ∧ Dsk w' p D' F' ∧ (∀ k, F' k → F k ∨ w.heap.size ≤ k) ∧ (∀ k, C' k → C k ∨ Cb k ∨ w.heap.size ≤ k) ∧ (∀ k, C' k → ¬ F' k) ∧ Upd (fun k => F k ∨ k = m) w w')
theorem wmapp_any {m p K c : Nat} {a : Option Addr} {X : Lg} {no : Bool} {D : Dk} {F C Cb : Nat → Prop} {b : List Int} (w : World) (hM : MdSt w m p X no C) (hD : Dsk w p D F) (hmF : ¬ F m) (hCF : ∀ k, C k → ¬ F k) (hok : D.Ok K) (hK : K ≤ 1099511600000) (hX : X.Ok) (hU : X.used = usedOf X.parts)
  (hb : BIn Cb w a c b) (hB : Bytes b) (hbl : b.length ≤ 100000) (hCb : ∀ k, Cb k → ¬ F k ∧ k ≠ m) :
  Calls Tryz.prog 64 #[.pointer (some ⟨m, 0, none⟩), .slice a b.length c] w (MApp w m p X no D C Cb F (refN no X b.length X.used) (raw (partSc X.h (X.h.number + X.parts.length) (X.h.place + X.used) false b hB)) (fun E => X.after b E) (D.lays (raw (partSc X.h (X.h.number + X.parts.length) (X.h.place + X.used) false b hB))) (D.laysE (raw (partSc X.h (X.h.number + X.parts.length) (X.h.place + X.used) false b hB)))) := by
 obtain ⟨L, hL⟩ : ∃ L, L = raw (partSc X.h (X.h.number + X.parts.length) (X.h.place + X.used) false b hB) := ⟨_, rfl⟩
 rw [← hL]
 obtain ⟨⟨pa, pc, aa, an, ac, hm, hp, hpc, hpm, hpn⟩, hcm⟩ := hM
 have hxb : ∀ x ∈ X.parts, x.length ≤ 40000 := fun x hx => (hX.bytes x hx).2
 have hrows := hp.rows hxb
 have huse := wused_any (c := pc) w hrows (by have := hX.len; omega)
 rw [usedI_of hxb, ← hU] at huse
 have hux := hX.used
 have href := wrefuses_any (m := m) (p := p) (pc := pc) (c := c) (pa := pa) (a := a) (X := X) (av := .slice aa an ac) (no := no) (n := b.length) X.used w hm (by omega) (by omega) hX.number hX.len
 obtain ⟨R, hR⟩ : ∃ R, R = refN no X b.length X.used := ⟨_, rfl⟩
 rw [← hR] at href ⊢
 have htl := hD.lt
 have HM := Lib.hid hm; have HP := Lib.hid hp; have HD := Lib.hid hD; have HMF := Lib.hid hmF; have HCF := Lib.hid hCF; have HOK := Lib.hid hok; have HX := Lib.hid hX; have HUSE := Lib.hid huse; have HREF := Lib.hid href; have HB := Lib.hid hb; have HCB := Lib.hid hCb; have HL := Lib.hid hL; have HRR := Lib.hid hR; have HRO := Lib.hid hrows; have HUU := Lib.hid hU; have HCM := Lib.hid hcm; have HBY := Lib.hid hB; have HPC := Lib.hid hpc; have HPM := Lib.hid hpm; have HPN := Lib.hid hpn; have HXB := Lib.hid hxb; have HBL := Lib.hid hbl; have HTL := Lib.hid htl
 obtain ⟨c0, c1, c2, c3, c4, c5, c6, c7, c8⟩ := cells9_of hm
 clear hm hp hpc hpm hpn hcm hxb hrows huse hux href hR htl hmF hCF hok hX hU hb hbl hCb hD
 go_enter Tryz.func64, Tryz.ntmps64
 go_wp2_with (go_at_call 72; fail)
 refine HUSE.out.mono ?_
 rintro e w1 ⟨rfl, rfl⟩
 clear HUSE
 simp only []
 go_wp2_with (go_at_call 126; fail)
 refine HREF.out.mono ?_
 rintro e w2 ⟨rfl, hu2⟩
 have HU2 := Lib.hid hu2
 clear hu2 HREF c0 c1 c2 c3 c4 c5 c6 c7 c8
 simp only []
 by_cases hR0 : R = 0
 rotate_left
 ·have hRb : (R != 0) = true := by simpa using hR0
  have HR0 := Lib.hid hR0
  clear hR0
  go_wp2
  go_ret
  exact .inl ⟨HR0.out, rfl, HU2.out⟩
 ·subst hR0
  have hfin : no = false ∧ b.length ≤ 40000 ∧ X.broken = false ∧ X.used + secsN b.length ≤ X.h.area ∧ X.h.number + X.parts.length ≤ 1073741824 := by
   have h := HRR.out
   unfold refN Lg.refuses at h
   split at h
   ·omega
   split at h
   ·omega
   split at h
   ·omega
   split at h
   ·omega
   rename_i h1 h2 h3 h4
   exact ⟨by simpa using h1, by omega, by simpa using h2, by omega, by omega⟩
  obtain ⟨hno, h40, hbr, hfit, hnum⟩ := hfin
  subst hno
  have hM2 := (HU2.out.block _ (lt_of_heap HM.out) (fun e => e)).trans HM.out
  have hxo := HX.out
  have hpt := wmpart_any (m := m) (p := p) (pc := pc) (c := c) (K := K) (pa := pa) (a := a) (D := D) (F := F) (hd := X.h) (ps := X.parts) (av := .slice aa an ac) (br := X.broken) (no := false) (b := b) false w2 hM2 HMF.out (HD.out.kept HU2.out (fun _ _ e => e)) HOK.out hK ((HP.out.kept HU2.out (fun _ _ e => e)).rows HXB.out) (HB.out.kept HU2.out (fun _ _ e => e)).now hB h40 (by have := hxo.turn; omega) (by have := hxo.area; omega) hxo.place (by have := hxo.number; omega) hxo.len
  rw [usedI_of HXB.out, ← HUU.out, ← HL.out] at hpt
  have HPT := Lib.hid hpt; have HM2 := Lib.hid hM2; have HBR := Lib.hid hbr
  clear hpt hM2 hxo hfit hnum h40 hbr
  go_wp2_with (go_at_call 127; fail)
  refine HPT.out.mono ?_
  rintro e w3 ⟨rfl, F3, hd3, hf3, hu3⟩
  have HD3 := Lib.hid hd3; have HF3 := Lib.hid hf3; have HU3 := Lib.hid hu3
  have hM3 := (hu3.block _ (lt_of_heap HM2.out) HMF.out).trans HM2.out
  have HM3 := Lib.hid hM3
  rw [mdc_lit] at hM3
  obtain ⟨E, hE⟩ : ∃ E, E = D.laysE L := ⟨_, rfl⟩
  rw [← hE]
  have HE := Lib.hid hE
  obtain ⟨c0, c1, c2, c3, c4, c5, c6, c7, c8⟩ := cells9_of hM3
  have f7 : w3.frozen? ⟨m, 7, none⟩ = false := frozen_of_heap hM3
  clear hd3 hf3 hu3 hM3 hE HPT
  simp only []
  by_cases hE0 : E = 0
  ·subst hE0
   go_upto_region 7 with fail
   obtain ⟨w4, hw4⟩ : ∃ w4, w4 = w3.setCell ⟨m, 7, none⟩ (.bool false) := ⟨_, rfl⟩
   have hm4 : w4.heap[m]? = some (.cells #[.pointer (some ⟨p, 0, none⟩), .int .i64 X.h.turn, .int .i64 X.h.area, .int .i64 X.h.place, .int .i64 X.h.number, .slice pa X.parts.length pc, .slice aa an ac, .bool false, .bool false] 37 (0, 0)) := by
    rw [hw4]
    have := block_setCell (i := 7) HM3.out (.bool false)
    rw [mdc_lit] at this
    simpa using this
   have hu4 : Upd (fun k => k = m) w3 w4 := by rw [hw4]; exact upd_own _ _ _ _
   rw [← hw4]
   have HM4 := Lib.hid hm4; have HU4 := Lib.hid hu4
   clear hm4 hu4 hw4 f7 c0 c1 c2 c3 c4 c5 c6 c7 c8
   obtain ⟨n, hn⟩ : ∃ n, n = X.parts.length := ⟨_, rfl⟩
   have hsl := full_sliceQ pa n pc (by rw [hn]; exact HPC.out) (by have := HPM.out; unfold maxLen at this; omega)
   obtain ⟨ao, hao⟩ : ∃ ao, ao = (if n = 0 then pa else pa.map (·.add (0 * 1))) := ⟨_, rfl⟩
   rw [← hao] at hsl
   have HN := Lib.hid hn; have HAO := Lib.hid hao
   have hA : w4.drew.heap[m]? = some (.cells #[.pointer (some ⟨p, 0, none⟩), .int .i64 X.h.turn, .int .i64 X.h.area, .int .i64 X.h.place, .int .i64 X.h.number, .slice pa n pc, .slice aa an ac, .bool false, .bool false] 37 (0, 0)) ∧ Upd (fun _ => False) w4 w4.drew := ⟨by rw [HN.out]; exact HM4.out, (Upd.refl _ _).drew⟩
   clear hn hao
   have HUD := Lib.hid ((Upd.refl (fun _ => False) w4).drew)
   rw [← HN.out]
   refine wp_region_G 25 (fun W => W.heap[m]? = some (.cells #[.pointer (some ⟨p, 0, none⟩), .int .i64 X.h.turn, .int .i64 X.h.area, .int .i64 X.h.place, .int .i64 X.h.number, .slice pa n pc, .slice aa an ac, .bool false, .bool false] 37 (0, 0)) ∧ Upd (fun _ => False) w4 W) [false, false, false, false, false, false, false, false, false, false, false, false, false, false, false, false, false, false, false, false, false, false, false, false, false, false] rfl (by kernel_rfl) ?_
   generalize w4.drew = wd at hA HUD ⊢
   refine wpG_takeP (i := 0) (v := .pointer (some ⟨m, 0, none⟩)) rfl (by kernel_rfl) (fun _ _ _ h => h) hA (.inl ⟨rfl, fun w5 q1 => ?_⟩) ?_
   ·go_simp
   simp only [Act.put, List.setIfInBounds_toArray, List.set]
   refine wpG_takeP (i := 1) (v := .pointer (some ⟨m, 0, none⟩)) rfl (by kernel_rfl) (fun _ _ _ h => h) hA (.inl ⟨rfl, fun w5 q1 => ?_⟩) ?_
   ·go_simp
   simp only [Act.put, List.setIfInBounds_toArray, List.set]
   refine wpG_takeP (i := 2) (v := .pointer (some ⟨m, 0, none⟩)) rfl (by kernel_rfl) (fun _ _ _ h => h) hA (.inl ⟨rfl, fun w5 q1 => ?_⟩) ?_
   ·go_simp
   simp only [Act.put, List.setIfInBounds_toArray, List.set]
   refine wpG_takeP (i := 3) (v := .pointer (some ⟨m, 1, none⟩)) rfl (by kernel_rfl) (fun _ _ _ h => h) hA (.inl ⟨rfl, fun w5 q1 => ?_⟩) ?_
   ·go_simp
   simp only [Act.put, List.setIfInBounds_toArray, List.set]
   refine wpG_takeP (i := 4) (v := .pointer (some ⟨m, 5, none⟩)) rfl (by kernel_rfl) (fun _ _ _ h => h) hA (.inl ⟨rfl, fun w5 q1 => ?_⟩) ?_
   ·go_simp
   simp only [Act.put, List.setIfInBounds_toArray, List.set]
   refine wpG_takeT (i := 5) (v := .slice pa n pc) rfl (fun L hc h => (hc.waits (n := 25) (i := 5) (by kernel_rfl) h)) (by kernel_rfl) (fun _ _ _ h => h) hA (.inl ⟨rfl, fun w5 q1 => ?_⟩) ?_
   ·obtain ⟨c0, c1, c2, c3, c4, c5, c6, c7, c8⟩ := cells9_of q1.1
    go_simp
   simp only [Act.put, List.setIfInBounds_toArray, List.set]
   refine wpG_takeP (i := 6) (v := .pointer (some ⟨m, 0, none⟩)) rfl (by kernel_rfl) (fun _ _ _ h => h) hA (.inl ⟨rfl, fun w5 q1 => ?_⟩) ?_
   ·go_simp
   simp only [Act.put, List.setIfInBounds_toArray, List.set]
   refine wpG_takeP (i := 7) (v := .pointer (some ⟨m, 0, none⟩)) rfl (by kernel_rfl) (fun _ _ _ h => h) hA (.inl ⟨rfl, fun w5 q1 => ?_⟩) ?_
   ·go_simp
   simp only [Act.put, List.setIfInBounds_toArray, List.set]
   refine wpG_takeP (i := 8) (v := .pointer (some ⟨m, 1, none⟩)) rfl (by kernel_rfl) (fun _ _ _ h => h) hA (.inl ⟨rfl, fun w5 q1 => ?_⟩) ?_
   ·go_simp
   simp only [Act.put, List.setIfInBounds_toArray, List.set]
   refine wpG_takeP (i := 9) (v := .pointer (some ⟨m, 5, none⟩)) rfl (by kernel_rfl) (fun _ _ _ h => h) hA (.inl ⟨rfl, fun w5 q1 => ?_⟩) ?_
   ·go_simp
   simp only [Act.put, List.setIfInBounds_toArray, List.set]
   refine wpG_takeT (i := 10) (v := .slice pa n pc) rfl (fun L hc h => (hc.waits (n := 25) (i := 10) (by kernel_rfl) h)) (by kernel_rfl) (fun _ _ _ h => h) hA (.inl ⟨rfl, fun w5 q1 => ?_⟩) ?_
   ·obtain ⟨c0, c1, c2, c3, c4, c5, c6, c7, c8⟩ := cells9_of q1.1
    go_simp
   simp only [Act.put, List.setIfInBounds_toArray, List.set]
   refine wpG_takeT (i := 11) (v := .int .i64 n) rfl (fun L hc h => (hc.waits (n := 25) (i := 11) (by kernel_rfl) h)) (by kernel_rfl) (fun _ _ _ h => h) hA (.inl ⟨rfl, fun w5 q1 => ?_⟩) ?_
   ·go_simp
   simp only [Act.put, List.setIfInBounds_toArray, List.set]
   refine wpG_takeP (i := 12) (v := .pointer (some ⟨m, 0, none⟩)) rfl (by kernel_rfl) (fun _ _ _ h => h) hA (.inl ⟨rfl, fun w5 q1 => ?_⟩) ?_
   ·go_simp
   simp only [Act.put, List.setIfInBounds_toArray, List.set]
   refine wpG_takeP (i := 13) (v := .pointer (some ⟨m, 0, none⟩)) rfl (by kernel_rfl) (fun _ _ _ h => h) hA (.inl ⟨rfl, fun w5 q1 => ?_⟩) ?_
   ·go_simp
   simp only [Act.put, List.setIfInBounds_toArray, List.set]
   refine wpG_takeP (i := 14) (v := .pointer (some ⟨m, 1, none⟩)) rfl (by kernel_rfl) (fun _ _ _ h => h) hA (.inl ⟨rfl, fun w5 q1 => ?_⟩) ?_
   ·go_simp
   simp only [Act.put, List.setIfInBounds_toArray, List.set]
   refine wpG_takeP (i := 15) (v := .pointer (some ⟨m, 5, none⟩)) rfl (by kernel_rfl) (fun _ _ _ h => h) hA (.inl ⟨rfl, fun w5 q1 => ?_⟩) ?_
   ·go_simp
   simp only [Act.put, List.setIfInBounds_toArray, List.set]
   refine wpG_takeT (i := 16) (v := .slice pa n pc) rfl (fun L hc h => (hc.waits (n := 25) (i := 16) (by kernel_rfl) h)) (by kernel_rfl) (fun _ _ _ h => h) hA (.inl ⟨rfl, fun w5 q1 => ?_⟩) ?_
   ·obtain ⟨c0, c1, c2, c3, c4, c5, c6, c7, c8⟩ := cells9_of q1.1
    go_simp
   simp only [Act.put, List.setIfInBounds_toArray, List.set]
   refine wpG_takeT (i := 17) (v := .int .i64 n) rfl (fun L hc h => (hc.waits (n := 25) (i := 17) (by kernel_rfl) h)) (by kernel_rfl) (fun _ _ _ h => h) hA (.inl ⟨rfl, fun w5 q1 => ?_⟩) ?_
   ·go_simp
   simp only [Act.put, List.setIfInBounds_toArray, List.set]
   refine wpG_takeT (i := 18) (v := .slice ao n n) rfl (fun L hc h => (hc.waits (n := 25) (i := 18) (by kernel_rfl) h)) (by kernel_rfl) (fun _ _ _ h => h) hA (.inl ⟨rfl, fun w5 q1 => ?_⟩) ?_
   ·go_simp
   simp only [Act.put, List.setIfInBounds_toArray, List.set]
   refine wpG_takeP (i := 19) (v := .slice a b.length c) rfl (by kernel_rfl) (fun _ _ _ h => h) hA (.inl ⟨rfl, fun w5 q1 => ?_⟩) ?_
   ·go_simp
   simp only [Act.put, List.setIfInBounds_toArray, List.set]
   refine wpG_doIf (i := 20) rfl (by kernel_rfl) rfl (fun K hK => ?_)
   have HKK := Lib.hid hK
   clear hK
   go_step
   have ua : Upd (fun _ => False) wd (wd.alloc (.cells #[.slice a b.length c] 39)) := (Upd.refl _ _).alloc _
   have hA5 : (wd.alloc (.cells #[.slice a b.length c] 39)).heap[m]? = some (.cells #[.pointer (some ⟨p, 0, none⟩), .int .i64 X.h.turn, .int .i64 X.h.area, .int .i64 X.h.place, .int .i64 X.h.number, .slice pa n pc, .slice aa an ac, .bool false, .bool false] 37 (0, 0)) ∧ Upd (fun _ => False) w4 (wd.alloc (.cells #[.slice a b.length c] 39)) := ⟨(ua.block _ (lt_of_heap hA.1) (fun e => e)).trans hA.1, hA.2.trans ua⟩
   have HG5 := Lib.hid (cells1_of (alloc_at (w := wd) (o := .cells #[.slice a b.length c] 39) rfl))
   have HUA := Lib.hid ua
   clear ua
   generalize wd.alloc (.cells #[.slice a b.length c] 39) = w5 at hA5 HG5 HUA ⊢
   refine HKK.out _ _ hA5 ?_
   clear HKK
   simp only [Act.put, List.setIfInBounds_toArray, List.set]
   refine wpG_doIf (i := 21) rfl (by kernel_rfl) rfl (fun K hK => ?_)
   have HKK := Lib.hid hK
   clear hK
   obtain ⟨hp1, vs, hvl, hvW⟩ := HP.out
   have HVL := Lib.hid hvl
   have hu0d : Upd (fun k => F k ∨ k = m) w wd := ((((HU2.out.mono (F := fun _ => False) (G := fun k => F k ∨ k = m) (fun _ _ e => e.elim)).trans (HU3.out.mono (fun _ _ e => .inl e))).trans (HU4.out.mono (fun _ _ e => .inr e))).trans (HUD.out.mono (fun _ _ e => e.elim)))
   have hvc := (hvW wd (fun k hk => hu0d.block k (hp1 k hk) (fun e => e.elim (HCF.out k hk) (HCM.out k hk)))).1
   have HVC := Lib.hid hvc
   obtain ⟨i, hi, hz, hsz, hby⟩ := info_parts Tryz.info39q
   have hao := HAO.out
   refine wp_append_growsQ (P := Tryz.prog) w5 (.tmp 50) (.tmp 52) 32 rfl 39 i (.slice none 0 0) 1 24 Tryz.under32q hi hz hsz hby rfl (by omega) ao n n vs rfl (fun e => ?_) (by rw [hvl, HN.out]; omega) (fun b0 e j u hj => ?_) ⟨wd.heap.size, 0, none⟩ 1 1 [.slice a b.length c] rfl rfl (fun j u hj => by
    match j, hj with
    | 0, hj => simp at hj; subst hj; simpa [Addr.add] using HG5.out
    |j + 1, hj => simp at hj) (fun u hu => by simp at hu; subst hu; rfl) (by omega) (by have := HX.out.len; have := HN.out; unfold maxLen; omega) (by have := HX.out.len; have := HN.out; omega) ?_
   ·by_cases h0 : n = 0
    ·exact ⟨h0, h0⟩
    ·rw [hao, if_neg h0] at e
     have : pa = none := by cases pa with
      |none => rfl
      |some x => simp at e
     exact absurd (by rw [HN.out]; exact HPN.out this) h0
   ·obtain ⟨g, o, e1, hc⟩ := hvc j u hj
    have h0 : n ≠ 0 := fun e0 => by
     have := (List.getElem?_eq_some_iff.1 hj).1
     rw [hvl, ← HN.out] at this
     omega
    rw [hao, if_neg h0, e1] at e
    have hb0 : b0 = ⟨g, o, none⟩ := by simpa [Addr.add] using e.symm
    subst hb0
    rw [Addr.add_mid]
    exact cell_keptF HUA.out (fun e => e) hc
   intro v6 w6 hrow hgrow
   have hu56 : Upd (fun _ => False) w5 w6 := Upd.of_grown hgrow (fun k hk => by cases hk)
   have hA6 : w6.heap[m]? = some (.cells #[.pointer (some ⟨p, 0, none⟩), .int .i64 X.h.turn, .int .i64 X.h.area, .int .i64 X.h.place, .int .i64 X.h.number, .slice pa n pc, .slice aa an ac, .bool false, .bool false] 37 (0, 0)) ∧ Upd (fun _ => False) w4 w6 := ⟨(hu56.block _ (lt_of_heap hA5.1) (fun e => e)).trans hA5.1, hA5.2.trans hu56⟩
   obtain ⟨g9, c9, rfl, hg9⟩ := own_sliceP hrow
   have HROW2 := Lib.hid (own_capP hrow)
   have HROW := Lib.hid (ownsRow_le hrow HUA.out.size)
   have HU6 := Lib.hid hu56; have HU56 : RowKit.Hid (Upd (fun k => wd.heap.size ≤ k) wd w6) := Lib.hid ((HUA.out.trans hu56).mono (fun _ _ e => e.elim))
   clear hi hz hsz hby hrow hgrow hu56 hvl hvc hvW hp1 hao hu0d
   refine HKK.out _ _ hA6 ?_
   clear HKK
   simp only [Act.put, List.setIfInBounds_toArray, List.set]
   refine wpG_takeP (i := 22) (v := .pointer (some ⟨m, 0, none⟩)) rfl (by kernel_rfl) (fun _ _ _ h => h) hA6 (.inl ⟨rfl, fun w5 q1 => ?_⟩) ?_
   ·go_simp
   simp only [Act.put, List.setIfInBounds_toArray, List.set]
   refine wpG_takeP (i := 23) (v := .pointer (some ⟨m, 1, none⟩)) rfl (by kernel_rfl) (fun _ _ _ h => h) hA6 (.inl ⟨rfl, fun w5 q1 => ?_⟩) ?_
   ·go_simp
   simp only [Act.put, List.setIfInBounds_toArray, List.set]
   refine wpG_takeP (i := 24) (v := .pointer (some ⟨m, 5, none⟩)) rfl (by kernel_rfl) (fun _ _ _ h => h) hA6 (.inl ⟨rfl, fun w5 q1 => ?_⟩) ?_
   ·go_simp
   simp only [Act.put, List.setIfInBounds_toArray, List.set]
   refine wpG_tail_lit (k := 25) rfl rfl (by kernel_rfl) ?_
   simp only [List.drop]
   have f7 : w6.frozen? ⟨m, 5, none⟩ = false := frozen_of_heap hA6.1
   obtain ⟨c0, c1, c2, c3, c4, c5, c6, c7, c8⟩ := cells9_of hA6.1
   have HM6 := Lib.hid hA6.1
   clear hA hA5 hA6 hsl
   go_wp2
   go_ret
   have hm7 : (w6.setCell ⟨m, 5, none⟩ (.slice (some ⟨g9, 0, none⟩) (n + 1) c9)).heap[m]? = some (.cells (mdC p X.h (.slice (some ⟨g9, 0, none⟩) (n + 1) c9) (.slice aa an ac) false false) 37 (0, 0)) := by
    have := block_setCell (i := 5) HM6.out (.slice (some ⟨g9, 0, none⟩) (n + 1) c9)
    rw [mdc_lit]
    simpa using this
   have hu7 : Upd (fun k => k = m) w6 (w6.setCell ⟨m, 5, none⟩ (.slice (some ⟨g9, 0, none⟩) (n + 1) c9)) := upd_own _ _ _ _
   have hlm := lt_of_heap HM.out
   have hs3 := HU3.out.size; have hs2 := HU2.out.size; have hs4 := HU4.out.size; have hs6 := HU6.out.size; have hs5 := HUD.out.size
   have hF3m : ¬ F3 m := fun e => by
    rcases HF3.out m e with q | q
    ·exact HMF.out q
    ·omega
   -- C and Cb up to w5
   have hC0 : ∀ k, C k → k < w.heap.size := HP.out.1
   have hu05 : Upd (fun k => F k ∨ k = m) w wd := ((((HU2.out.mono (F := fun _ => False) (G := fun k => F k ∨ k = m) (fun _ _ e => e.elim)).trans (HU3.out.mono (fun _ _ e => .inl e))).trans (HU4.out.mono (fun _ _ e => .inr e))).trans (HUD.out.mono (fun _ _ e => e.elim)))
   have hp5 := HP.out.kept hu05 (fun k hk e => e.elim (HCF.out k hk) (HCM.out k hk))
   have hb5 := HB.out.kept hu05 (fun k hk e => e.elim (HCB.out k hk).1 (HCB.out k hk).2)
   have hrow := HROW.out
   have hg9 : wd.heap.size ≤ g9 ∧ g9 < w6.heap.size := ⟨(own_ltR hrow), own_ltP hrow rfl⟩
   have hsn := PIn.snoc hp5 hb5 (HU56.out) HVL.out HVC.out (by rw [← HN.out]; exact hrow)
   have hsn7 := hsn.kept hu7 (fun k hk e => by
    have e2 : k = m := e
    rcases hk with hk | hk | hk
    ·exact HCM.out k hk e2
    ·exact (HCB.out k hk).2 e2
    ·omega)
   have hu07 : Upd (fun k => F k ∨ k = m) w (w6.setCell ⟨m, 5, none⟩ (.slice (some ⟨g9, 0, none⟩) (n + 1) c9)) := (hu05.step HU56.out (fun k hk e => by omega)).trans (hu7.mono (fun _ _ e => .inr e))
   have hYE : X.after b 0 = X.add b := rfl
   have hE0 := HE.out
   have hsn' : (n : Int) = X.parts.length := by rw [HN.out]
   rw [← hE0]
   refine .inr ⟨rfl, rfl, fun k => C k ∨ Cb k ∨ k = g9, F3, ?_, (((HD3.out.kept HU4.out (fun k hk e => hF3m (by have e2 : k = m := e; rw [← e2]; exact hk))).kept HUD.out (fun _ _ e => e)).kept HU56.out (fun k hk e => ?_)).kept hu7 (fun k hk e => hF3m (by have e2 : k = m := e; rw [← e2]; exact hk)), fun k hk => (HF3.out k hk).imp_right (fun e => by omega), fun k hk => ?_, fun k hk e => ?_, hu07⟩
   ·show MdSt _ m p (X.after b 0) false _
    rw [hYE]
    have hll : (X.add b).parts.length = n + 1 := by rw [HN.out]; simp [Lg.add]
    refine ⟨⟨some ⟨g9, 0, none⟩, c9, aa, an, ac, ?_, ?_, ?_, ?_, fun e => by cases e⟩, fun k hk => ?_⟩
    ·rw [hll, show (X.add b).broken = false from HBR.out]
     exact hm7
    ·exact hsn7
    ·rw [hll]
     exact HROW2.out.1
    ·exact HROW2.out.2
    ·rcases hk with hk | hk | hk
     ·exact HCM.out k hk
     ·exact (HCB.out k hk).2
     ·omega
   ·have := HD3.out.lt k hk; omega
   ·rcases hk with hk | hk | hk
    ·exact .inl hk
    ·exact .inr (.inl hk)
    ·exact .inr (.inr (by omega))
   ·rcases HF3.out k e with q | q
    ·rcases hk with hk | hk | hk
     ·exact HCF.out k hk q
     ·exact (HCB.out k hk).1 q
     ·have := HTL.out k q; omega
    ·rcases hk with hk | hk | hk
     ·have := hC0 k hk; omega
     ·have := HB.out.lt k hk; omega
     ·have := HD3.out.lt k e; omega
  ·have hEb : (E != 0) = true := by simpa using hE0
   have HE0 := Lib.hid hE0
   clear hE0
   go_wp2
   go_ret
   have hm4 : (w3.setCell ⟨m, 7, none⟩ (.bool true)).heap[m]? = some (.cells (mdC p X.h (.slice pa X.parts.length pc) (.slice aa an ac) true false) 37 (0, 0)) := by
    have := block_setCell (i := 7) HM3.out (.bool true)
    rw [mdc_lit] at this ⊢
    simpa using this
   have hu4 : Upd (fun k => k = m) w3 (w3.setCell ⟨m, 7, none⟩ (.bool true)) := upd_own _ _ _ _
   have hF3m : ¬ F3 m := fun e => by
    rcases HF3.out m e with q | q
    ·exact HMF.out q
    ·have := lt_of_heap HM.out; have := HU2.out.size; omega
   have hu04 : Upd (fun k => F k ∨ k = m) w (w3.setCell ⟨m, 7, none⟩ (.bool true)) := ((HU2.out.mono (F := fun _ => False) (G := fun k => F k ∨ k = m) (fun _ _ e => e.elim)).trans (HU3.out.mono (fun _ _ e => .inl e))).trans (hu4.mono (fun _ _ e => .inr e))
   have hYE : X.after b E = X.brk true := by unfold Lg.after; rw [if_neg HE0.out]
   rw [← HE.out]
   refine .inr ⟨rfl, rfl, C, F3, ?_, HD3.out.kept hu4 (fun k hk e => hF3m (by have e2 : k = m := e; rw [← e2]; exact hk)), fun k hk => (HF3.out k hk).imp_right (fun e => by have := HU2.out.size; omega), fun k hk => .inl hk, fun k hk e => ?_, hu04⟩
   ·show MdSt _ m p (X.after b E) false C
    rw [hYE]
    exact ⟨⟨pa, pc, aa, an, ac, hm4, HP.out.kept hu04 (fun k hk e => e.elim (HCF.out k hk) (HCM.out k hk)), HPC.out, HPM.out, HPN.out⟩, HCM.out⟩
   ·rcases HF3.out k e with q | q
    ·exact HCF.out k hk q
    ·have := HP.out.1 k hk; have := HU2.out.size; omega
theorem partSc_mod {h : Hd} {n p : Int} {s : Bool} {b : List Int} (hb : Bytes b) : raw (partSc h n (p % (2 * h.area)) s b hb) = raw (partSc h n p s b hb) := by
 simp only [raw, partSc, List.map_map]
 apply List.map_congr_left
 intro k _
 simp only [Function.comp, atF, Int.emod_add_emod]
theorem PIn.one {Cb : Nat → Prop} {w : World} {a : Option Addr} {g9 c : Nat} {b : List Int} (hb : BIn Cb w a c b) (hg : w.heap[g9]? = some (.cells #[.slice a b.length c] 39 (0, 0))) : PIn (fun k => Cb k ∨ k = g9) w (some ⟨g9, 0, none⟩) [b] := by
 refine ⟨fun k hk => ?_, [.slice a b.length c], rfl, fun W hW => ⟨fun i v hi => ?_, fun i v x hi hx => ?_⟩⟩
 ·rcases hk with hk | rfl
  ·exact hb.lt k hk
  ·exact lt_of_heap hg
 ·match i, hi with
  | 0, hi =>
   simp at hi
   subst hi
   exact ⟨g9, 0, rfl, by rw [cell_eqQ (hW g9 (.inr rfl))]; exact cells1_of hg⟩
  |i + 1, hi => simp at hi
 ·match i, hi, hx with
  | 0, hi, hx =>
   simp at hi hx
   subst hi
   subst hx
   exact ⟨a, c, rfl, hb.bytes W (fun k hk => hW k (.inl hk))⟩
  |i + 1, hi, hx => simp at hi
def MCp (w : World) (m p : Nat) (X : Lg) (no : Bool) (C Cb F : Nat → Prop) (R : Int) (Y : Lg) (D' : Dk) (E : Int) (e : Ending) (w' : World) : Prop :=
 (R ≠ 0 ∧ e = .returned (.int .i64 R) ∧ Upd (fun _ => False) w w') ∨
 (R = 0 ∧ X.h.turn = 1073741824 ∧ e = .returned (.int .i64 6) ∧ Upd (fun _ => False) w w') ∨
 (R = 0 ∧ X.h.turn ≠ 1073741824 ∧ e = .returned (.int .i64 E) ∧ ∃ C' F', MdSt w' m p Y no C' ∧ Dsk w' p D' F' ∧ (∀ k, F' k → F k ∨ w.heap.size ≤ k) ∧ (∀ k, C' k → C k ∨ Cb k ∨ w.heap.size ≤ k) ∧ (∀ k, C' k → ¬ F' k) ∧ Upd (fun k => F k ∨ k = m) w w')
theorem wmcp_any {m p Kd c : Nat} {a : Option Addr} {X : Lg} {no : Bool} {D : Dk} {F C Cb : Nat → Prop} {b : List Int} (w : World) (hM : MdSt w m p X no C) (hD : Dsk w p D F) (hmF : ¬ F m) (hCF : ∀ k, C k → ¬ F k) (hok : D.Ok Kd) (hK : Kd ≤ 1099511500000) (hX : X.Ok) (hU : X.used = usedOf X.parts)
  (hb : BIn Cb w a c b) (hB : Bytes b) (hbl : b.length ≤ 100000) (hCb : ∀ k, Cb k → ¬ F k ∧ k ≠ m) :
  Calls Tryz.prog 58 #[.pointer (some ⟨m, 0, none⟩), .slice a b.length c] w (MCp w m p X no C Cb F (refN no X b.length 0) (X.cp b (X.cpE D b hB)) (X.cpD D b hB) (X.cpE D b hB)) := by
 obtain ⟨⟨pa, pc, aa, an, ac, hm, hp, hpc, hpm, hpn⟩, hcm⟩ := hM
 have hxb : ∀ x ∈ X.parts, x.length ≤ 40000 := fun x hx => (hX.bytes x hx).2
 have href := wrefuses_any (m := m) (p := p) (pc := pc) (c := c) (pa := pa) (a := a) (X := X) (av := .slice aa an ac) (no := no) (n := b.length) 0 w hm (by omega) (by omega) hX.number hX.len
 obtain ⟨R, hR⟩ : ∃ R, R = refN no X b.length 0 := ⟨_, rfl⟩
 rw [← hR] at href ⊢
 have htl := hD.lt
 have HM := Lib.hid hm; have HP := Lib.hid hp; have HD := Lib.hid hD; have HMF := Lib.hid hmF; have HCF := Lib.hid hCF; have HOK := Lib.hid hok; have HX := Lib.hid hX; have HREF := Lib.hid href; have HB := Lib.hid hb; have HCB := Lib.hid hCb; have HRR := Lib.hid hR; have HUU := Lib.hid hU; have HCM := Lib.hid hcm; have HBY := Lib.hid hB; have HPC := Lib.hid hpc; have HPM := Lib.hid hpm; have HPN := Lib.hid hpn; have HXB := Lib.hid hxb; have HBL := Lib.hid hbl; have HTL := Lib.hid htl
 clear hm hp hpc hpm hpn hcm hxb href hR htl hmF hCF hok hX hU hb hbl hCb hD
 go_enter Tryz.func58, Tryz.ntmps58
 go_wp2_with (go_at_call 126; fail)
 refine HREF.out.mono ?_
 rintro e w2 ⟨rfl, hu2⟩
 have HU2 := Lib.hid hu2
 clear hu2 HREF
 simp only []
 by_cases hR0 : R = 0
 rotate_left
 ·have hRb : (R != 0) = true := by simpa using hR0
  have HR0 := Lib.hid hR0
  clear hR0
  go_wp2
  go_ret
  exact .inl ⟨HR0.out, rfl, HU2.out⟩
 subst hR0
 have hfin : no = false ∧ b.length ≤ 40000 ∧ X.broken = false ∧ 0 + (secsN b.length : Int) ≤ X.h.area ∧ X.h.number + X.parts.length ≤ 1073741824 := by
  have h := HRR.out
  unfold refN Lg.refuses at h
  split at h
  ·omega
  split at h
  ·omega
  split at h
  ·omega
  split at h
  ·omega
  rename_i h1 h2 h3 h4
  exact ⟨by simpa using h1, by omega, by simpa using h2, by omega, by omega⟩
 obtain ⟨hno, h40, hbr, hfit, hnum⟩ := hfin
 subst hno
 have hM2 := (HU2.out.block _ (lt_of_heap HM.out) (fun e => e)).trans HM.out
 rw [hbr] at hM2
 have HM2 := Lib.hid hM2
 rw [mdc_lit] at hM2
 obtain ⟨c0, c1, c2, c3, c4, c5, c6, c7, c8⟩ := cells9_of hM2
 have H40 := Lib.hid h40; have HBR := Lib.hid hbr; have HNUM := Lib.hid hnum
 clear hM2 h40 hbr hfit hnum
 by_cases ht : X.h.turn = 1073741824
 ·have htb : (X.h.turn == 1073741824) = true := by simpa using ht
  have HT := Lib.hid ht
  clear ht
  go_wp2
  go_ret
  exact .inr (.inl ⟨rfl, HT.out, rfl, HU2.out⟩)
 have htb : (X.h.turn == 1073741824) = false := by simpa using ht
 have HT := Lib.hid ht
 clear ht
 go_upto_region 7 with fail
 obtain ⟨bh, hbh⟩ : ∃ bh, bh = w2.heap.size := ⟨_, rfl⟩
 obtain ⟨w3, hw3⟩ : ∃ w3, w3 = w2.alloc (.cells #[.int .i64 X.h.turn, .int .i64 X.h.area, .int .i64 X.h.place, .int .i64 X.h.number] 31) := ⟨_, rfl⟩
 have hu3 : Upd (fun _ => False) w2 w3 := by rw [hw3]; exact (Upd.refl _ _).alloc _
 have hh3 : w3.heap[bh]? = some (.cells #[.int .i64 X.h.turn, .int .i64 X.h.area, .int .i64 X.h.place, .int .i64 X.h.number] 31 (0, 0)) := by rw [hw3]; exact alloc_at hbh
 have hm3 := (hu3.block _ (lt_of_heap HM2.out) (fun e => e)).trans HM2.out
 rw [← hw3, ← hbh]
 have HU3 := Lib.hid hu3; have HH3 := Lib.hid hh3; have HM3 := Lib.hid hm3; have HBH := Lib.hid hbh
 have hln := HX.out.len; have hna := HX.out.number; have hta := HX.out.turn
 have hw1 : IntKind.i64.wrap (X.h.turn + 1) = X.h.turn + 1 := by rw [IntKind.wrap_i64]; omega
 have hw2 : IntKind.i64.wrap (X.h.number + (X.parts.length : Int)) = X.h.number + X.parts.length := by rw [IntKind.wrap_i64]; omega
 have hne : bh ≠ m := by have := lt_of_heap HM2.out; omega
 have hne2 : m ≠ bh := fun e => hne e.symm
 have f0 : w3.frozen? ⟨bh, 0, none⟩ = false := frozen_of_heap hh3
 have f3 : w3.frozen? ⟨bh, 3, none⟩ = false := frozen_of_heap hh3
 rw [mdc_lit] at hm3
 obtain ⟨e0, e1, e2, e3⟩ := cells4_of hh3
 obtain ⟨d0, d1, d2, d3, d4, d5, d6, d7, d8⟩ := cells9_of hm3
 have HNE := Lib.hid hne
 clear hu3 hh3 hm3 hw3 hbh c0 c1 c2 c3 c4 c5 c6 c7 c8 hln hna hta
 go_region
 clear f0 f3 d0 d1 d2 d3 d4 d5 d6 d7 d8 e0 e1 e2 e3 hw1 hw2
 obtain ⟨w4, hw4⟩ : ∃ w4, w4 = ((w3.setCell ⟨bh, 0, none⟩ (.int .i64 (X.h.turn + 1))).setCell ⟨bh, 3, none⟩ (.int .i64 (X.h.number + X.parts.length))).drew := ⟨_, rfl⟩
 have hh4 : w4.heap[bh]? = some (.cells #[.int .i64 (X.h.turn + 1), .int .i64 X.h.area, .int .i64 X.h.place, .int .i64 (X.h.number + X.parts.length)] 31 (0, 0)) := by
  rw [hw4]
  exact block_setCell (i := 3) (block_setCell (i := 0) HH3.out (.int .i64 (X.h.turn + 1))) (.int .i64 (X.h.number + X.parts.length))
 have hu4 : Upd (fun k => k = bh) w3 w4 := by rw [hw4]; exact ((upd_own _ _ _ _).trans (upd_own _ _ _ _)).drew
 go_upto_region 8 with fail
 rw [← hw4]
 have HH4 := Lib.hid hh4
 have HU4 : RowKit.Hid (Upd (fun _ => False) w w4) := Lib.hid ((HU2.out.trans HU3.out).step hu4 (fun k hk e => by have e2 : k = bh := e; have := HBH.out; have := HU2.out.size; omega))
 have hm4 := (hu4.block _ (lt_of_heap HM3.out) (fun e => HNE.out e.symm)).trans HM3.out
 have HM4 := Lib.hid hm4
 have hrows := (HP.out.kept HU4.out (fun _ _ e => e)).rows HXB.out
 have huse : ∀ W, Upd (fun _ => False) w4 W → Calls Tryz.prog 72 #[.slice pa X.parts.length pc] W fun e w' => e = .returned (.int .i64 X.used) ∧ W = w' := fun W hW => by
  have := wused_any (c := pc) W (((HP.out.kept HU4.out (fun _ _ e => e)).kept hW (fun _ _ e => e)).rows HXB.out) (by have := HX.out.len; omega)
  rwa [usedI_of HXB.out, ← HUU.out] at this
 have HUSE := Lib.hid huse
 have hxa := HX.out.area; have hxp := HX.out.place; have hxu := HX.out.used
 have hw1 : IntKind.i64.wrap (X.h.place + X.used) = X.h.place + X.used := by rw [IntKind.wrap_i64]; omega
 have hw2 : IntKind.i64.wrap (2 * X.h.area) = 2 * X.h.area := by rw [IntKind.wrap_i64]; omega
 have htm : (X.h.place + X.used).tmod (2 * X.h.area) = (X.h.place + X.used) % (2 * X.h.area) := Int.tmod_eq_emod_of_nonneg (by omega)
 have hnz : ¬ 2 * X.h.area = 0 := by omega
 have hnzb : (2 * X.h.area == 0) = false := by simpa using hnz
 have hnz2 : ¬ X.h.area = 0 := by omega
 have hA : w4.drew.heap[bh]? = some (.cells #[.int .i64 (X.h.turn + 1), .int .i64 X.h.area, .int .i64 X.h.place, .int .i64 (X.h.number + X.parts.length)] 31 (0, 0)) ∧ w4.drew.heap[m]? = some (.cells #[.pointer (some ⟨p, 0, none⟩), .int .i64 X.h.turn, .int .i64 X.h.area, .int .i64 X.h.place, .int .i64 X.h.number, .slice pa X.parts.length pc, .slice aa an ac, .bool false, .bool false] 37 (0, 0)) ∧ Upd (fun _ => False) w4 w4.drew := ⟨hh4, hm4, (Upd.refl _ _).drew⟩
 clear hh4 hu4 hw4 hm4 hrows huse hxa hxp hxu
 refine wp_region_G 14 (fun W => W.heap[bh]? = some (.cells #[.int .i64 (X.h.turn + 1), .int .i64 X.h.area, .int .i64 X.h.place, .int .i64 (X.h.number + X.parts.length)] 31 (0, 0)) ∧ W.heap[m]? = some (.cells #[.pointer (some ⟨p, 0, none⟩), .int .i64 X.h.turn, .int .i64 X.h.area, .int .i64 X.h.place, .int .i64 X.h.number, .slice pa X.parts.length pc, .slice aa an ac, .bool false, .bool false] 37 (0, 0)) ∧ Upd (fun _ => False) w4 W) [false, false, false, false, false, false, false, false, false, false, false, false, false, false, false] rfl (by kernel_rfl) ?_
 generalize w4.drew = wd at hA ⊢
 refine wpG_takeP (i := 0) (v := .pointer (some ⟨bh, 2, none⟩)) rfl (by kernel_rfl) (fun _ _ _ h => h) hA (.inl ⟨rfl, fun w5 q1 => ?_⟩) ?_
 ·go_simp
 simp only [Act.put, List.setIfInBounds_toArray, List.set]
 refine wpG_takeT (i := 1) (v := .int .i64 X.h.place) rfl (fun L hc h => (hc.waits (n := 14) (i := 1) (by kernel_rfl) h)) (by kernel_rfl) (fun _ _ _ h => h) hA (.inl ⟨rfl, fun w5 q1 => ?_⟩) ?_
 ·obtain ⟨c0, c1, c2, c3⟩ := cells4_of q1.1
  go_simp
 simp only [Act.put, List.setIfInBounds_toArray, List.set]
 refine wpG_takeP (i := 2) (v := .pointer (some ⟨m, 0, none⟩)) rfl (by kernel_rfl) (fun _ _ _ h => h) hA (.inl ⟨rfl, fun w5 q1 => ?_⟩) ?_
 ·go_simp
 simp only [Act.put, List.setIfInBounds_toArray, List.set]
 refine wpG_takeP (i := 3) (v := .pointer (some ⟨m, 0, none⟩)) rfl (by kernel_rfl) (fun _ _ _ h => h) hA (.inl ⟨rfl, fun w5 q1 => ?_⟩) ?_
 ·go_simp
 simp only [Act.put, List.setIfInBounds_toArray, List.set]
 refine wpG_takeP (i := 4) (v := .pointer (some ⟨m, 1, none⟩)) rfl (by kernel_rfl) (fun _ _ _ h => h) hA (.inl ⟨rfl, fun w5 q1 => ?_⟩) ?_
 ·go_simp
 simp only [Act.put, List.setIfInBounds_toArray, List.set]
 refine wpG_takeP (i := 5) (v := .pointer (some ⟨m, 5, none⟩)) rfl (by kernel_rfl) (fun _ _ _ h => h) hA (.inl ⟨rfl, fun w5 q1 => ?_⟩) ?_
 ·go_simp
 simp only [Act.put, List.setIfInBounds_toArray, List.set]
 refine wpG_takeT (i := 6) (v := .slice pa X.parts.length pc) rfl (fun L hc h => (hc.waits (n := 14) (i := 6) (by kernel_rfl) h)) (by kernel_rfl) (fun _ _ _ h => h) hA (.inl ⟨rfl, fun w5 q1 => ?_⟩) ?_
 ·obtain ⟨c0, c1, c2, c3, c4, c5, c6, c7, c8⟩ := cells9_of q1.2.1
  go_simp
 simp only [Act.put, List.setIfInBounds_toArray, List.set]
 refine wpG_takeP (i := 9) (v := .pointer (some ⟨bh, 1, none⟩)) rfl (by kernel_rfl) (fun _ _ _ h => h) hA (.inl ⟨rfl, fun w5 q1 => ?_⟩) ?_
 ·go_simp
 simp only [Act.put, List.setIfInBounds_toArray, List.set]
 refine wpG_takeT (i := 10) (v := .int .i64 X.h.area) rfl (fun L hc h => (hc.waits (n := 14) (i := 10) (by kernel_rfl) h)) (by kernel_rfl) (fun _ _ _ h => h) hA (.inl ⟨rfl, fun w5 q1 => ?_⟩) ?_
 ·obtain ⟨c0, c1, c2, c3⟩ := cells4_of q1.1
  go_simp
 simp only [Act.put, List.setIfInBounds_toArray, List.set]
 refine wpG_takeP (i := 11) (v := .int .i64 (2 * X.h.area)) rfl (by kernel_rfl) (fun _ _ _ h => h) hA (.inl ⟨rfl, fun w5 q1 => ?_⟩) ?_
 ·go_simp
 simp only [Act.put, List.setIfInBounds_toArray, List.set]
 refine wpG_doIf (i := 7) rfl (by kernel_rfl) rfl (fun K hK => ?_)
 have HKK := Lib.hid hK
 clear hK
 go_step
 refine (HUSE.out _ hA.2.2).mono ?_
 rintro e w9 ⟨rfl, rfl⟩
 simp only []
 refine HKK.out _ _ hA ?_
 clear HKK
 simp only [Act.put, List.setIfInBounds_toArray, List.set]
 refine wpG_takeP (i := 8) (v := .int .i64 (X.h.place + X.used)) rfl (by kernel_rfl) (fun _ _ _ h => h) hA (.inl ⟨rfl, fun w5 q1 => ?_⟩) ?_
 ·go_simp
 simp only [Act.put, List.setIfInBounds_toArray, List.set]
 refine wpG_takeP (i := 12) (v := .int .i64 ((X.h.place + X.used) % (2 * X.h.area))) rfl (by kernel_rfl) (fun _ _ _ h => h) hA (.inl ⟨rfl, fun w5 q1 => ?_⟩) ?_
 ·go_simp
 simp only [Act.put, List.setIfInBounds_toArray, List.set]
 refine wpG_takeP (i := 13) (v := .pointer (some ⟨bh, 2, none⟩)) rfl (by kernel_rfl) (fun _ _ _ h => h) hA (.inl ⟨rfl, fun w5 q1 => ?_⟩) ?_
 ·go_simp
 simp only [Act.put, List.setIfInBounds_toArray, List.set]
 refine wpG_tail_lit (k := 14) rfl rfl (by kernel_rfl) ?_
 simp only [List.drop]
 have f2 : wd.frozen? ⟨bh, 2, none⟩ = false := frozen_of_heap hA.1
 obtain ⟨e0, e1, e2, e3⟩ := cells4_of hA.1
 have HA := Lib.hid hA
 clear hA hw1 hw2 htm hnz hnzb hnz2
 go_wp2_with (go_at_call 127; fail)
 clear f2 e0 e1 e2 e3
 obtain ⟨w5, hw5⟩ : ∃ w5, w5 = wd.setCell ⟨bh, 2, none⟩ (.int .i64 ((X.h.place + X.used) % (2 * X.h.area))) := ⟨_, rfl⟩
 have hh5 : w5.heap[bh]? = some (.cells #[.int .i64 X.cpH.turn, .int .i64 X.cpH.area, .int .i64 X.cpH.place, .int .i64 X.cpH.number] 31 (0, 0)) := by
  rw [hw5]
  exact block_setCell (i := 2) HA.out.1 _
 have hud : Upd (fun k => k = bh) wd w5 := by rw [hw5]; exact upd_own _ _ _ _
 have HU5 : RowKit.Hid (Upd (fun _ => False) w w5) := Lib.hid ((HU4.out.trans HA.out.2.2).step hud (fun k hk e => by have e2 : k = bh := e; have := HBH.out; have := HU2.out.size; omega))
 have hm5 := (hud.block _ (lt_of_heap HA.out.2.1) (fun e => HNE.out e.symm)).trans HA.out.2.1
 rw [← hw5]
 have HH5 := Lib.hid hh5; have HM5 := Lib.hid hm5
 clear hw5 hh5 hud hm5 HA
 have hxo := HX.out
 have hnum := HNUM.out
 have hpt := wmpart_any (m := m) (p := p) (pc := pc) (c := c) (K := Kd) (pa := pa) (a := a) (D := D) (F := F) (hd := X.h) (ps := X.parts) (av := .slice aa an ac) (br := false) (no := false) (b := b) true w5 HM5.out HMF.out (HD.out.kept HU5.out (fun _ _ e => e)) HOK.out (by omega) ((HP.out.kept HU5.out (fun _ _ e => e)).rows HXB.out) (HB.out.kept HU5.out (fun _ _ e => e)).now hB H40.out (by have := hxo.turn; omega) (by have := hxo.area; omega) hxo.place (by have := hxo.number; omega) hxo.len
 rw [usedI_of HXB.out, ← HUU.out, show raw (partSc X.h (X.h.number + X.parts.length) (X.h.place + X.used) true b hB) = X.cpS b hB from (partSc_mod hB).symm] at hpt
 have HPT := Lib.hid hpt
 clear hpt hxo hnum
 refine HPT.out.mono ?_
 rintro e w6 ⟨rfl, F6, hd6, hf6, hu6⟩
 have HD6 := Lib.hid hd6; have HF6 := Lib.hid hf6; have HU6 := Lib.hid hu6
 have hm6 := (hu6.block _ (lt_of_heap HM5.out) HMF.out).trans HM5.out
 have HM6 := Lib.hid hm6
 have hFlt : ¬ F bh := fun e => by have := HTL.out bh e; have := HBH.out; have := HU2.out.size; omega
 have hh6 := (hu6.block _ (lt_of_heap HH5.out) hFlt).trans HH5.out
 have HH6 := Lib.hid hh6
 have hF6m : ¬ F6 m := fun e => by
  rcases HF6.out m e with q | q
  ·exact HMF.out q
  ·have := lt_of_heap HM5.out; omega
 have HF6M := Lib.hid hF6m
 obtain ⟨E, hE⟩ : ∃ E, E = D.laysE (X.cpS b hB) := ⟨_, rfl⟩
 rw [← hE]
 have HE := Lib.hid hE
 clear hd6 hf6 hu6 hm6 hFlt hh6 hF6m hE HPT
 simp only []
 by_cases hE0 : E = 0
 rotate_left
 ·have hEb : (E == 0) = false := by simpa using hE0
  have hEb2 : (E != 0) = true := by simpa using hE0
  have HE0 := Lib.hid hE0
  have hm := HM6.out
  have f7 : w6.frozen? ⟨m, 7, none⟩ = false := frozen_of_heap hm
  obtain ⟨c0, c1, c2, c3, c4, c5, c6, c7, c8⟩ := cells9_of hm
  clear hE0 hm
  go_wp2
  go_ret
  have hm4 : (w6.setCell ⟨m, 7, none⟩ (.bool true)).heap[m]? = some (.cells (mdC p X.h (.slice pa X.parts.length pc) (.slice aa an ac) true false) 37 (0, 0)) := block_setCell (i := 7) HM6.out (.bool true)
  have hu4 : Upd (fun k => k = m) w6 (w6.setCell ⟨m, 7, none⟩ (.bool true)) := upd_own _ _ _ _
  have hu04 : Upd (fun k => F k ∨ k = m) w (w6.setCell ⟨m, 7, none⟩ (.bool true)) := ((HU5.out.mono (F := fun _ => False) (G := fun k => F k ∨ k = m) (fun _ _ e => e.elim)).trans (HU6.out.mono (fun _ _ e => .inl e))).trans (hu4.mono (fun _ _ e => .inr e))
  have hce : X.cpE D b hB = E := by unfold Lg.cpE; rw [if_neg (by rw [← HE.out]; exact HE0.out), HE.out]
  have hcd : X.cpD D b hB = D.lays (X.cpS b hB) := by unfold Lg.cpD; rw [if_neg (by rw [← HE.out]; exact HE0.out)]
  rw [hce, hcd]
  have hYE : X.cp b E = X.brk true := by unfold Lg.cp; rw [if_neg HE0.out]
  rw [hYE]
  refine .inr (.inr ⟨rfl, HT.out, rfl, C, F6, ⟨⟨pa, pc, aa, an, ac, hm4, HP.out.kept hu04 (fun k hk e => e.elim (HCF.out k hk) (HCM.out k hk)), HPC.out, HPM.out, HPN.out⟩, HCM.out⟩, HD6.out.kept hu4 (fun k hk e => HF6M.out (by have e2 : k = m := e; rw [← e2]; exact hk)), fun k hk => (HF6.out k hk).imp_right (fun e => by have := HU5.out.size; omega), fun k hk => .inl hk, fun k hk e => ?_, hu04⟩)
  rcases HF6.out k e with q | q
  ·exact HCF.out k hk q
  ·have := HP.out.1 k hk; have := HU5.out.size; omega
 subst hE0
 have hu32 : X.cpH.U32 := by
  have hn := HNUM.out; have ht1 := HX.out.turn; have ha1 := HX.out.area; have hn1 := HX.out.number
  have hp1 := Int.emod_nonneg (X.h.place + X.used) (b := 2 * X.h.area) (by omega)
  have hp2 := Int.emod_lt_of_pos (X.h.place + X.used) (b := 2 * X.h.area) (by omega)
  exact ⟨by show 0 ≤ X.h.turn + 1 ∧ X.h.turn + 1 ≤ 4294967295; omega, by show 0 ≤ X.h.area ∧ X.h.area ≤ 4294967295; omega, by show 0 ≤ (X.h.place + X.used) % (2 * X.h.area) ∧ (X.h.place + X.used) % (2 * X.h.area) ≤ 4294967295; omega, by show 0 ≤ X.h.number + (X.parts.length : Int) ∧ X.h.number + (X.parts.length : Int) ≤ 4294967295; omega⟩
 have hok6 : (D.lays (X.cpS b hB)).Ok (Kd + 2 * secsN b.length + 1) := by
  have := Dk.lays_ok (partSc X.h X.cpH.number X.cpH.place true b hB) HOK.out
  rwa [partSc_length] at this
 have hsb := secsN_bound H40.out
 have hhd := whead_any (m := m) (p := p) (hd := X.h) (pv := .slice pa X.parts.length pc) (av := .slice aa an ac) (br := false) (no := false) X.cpH w6 HM6.out HF6M.out HD6.out hok6 (by omega) hu32
 have HHD := Lib.hid hhd
 have hh := HH6.out
 obtain ⟨e0, e1, e2, e3⟩ := cells4_of hh
 clear hu32 hok6 hsb hhd hh
 unfold Hd.val at HHD
 go_wp2_with (go_at_call 128; fail)
 refine HHD.out.mono ?_
 rintro e w7 ⟨rfl, F7, hd7, hf7, hu7⟩
 have HD7 := Lib.hid hd7; have HU7 := Lib.hid hu7
 have HF7 : RowKit.Hid (∀ k, F7 k → F k ∨ w5.heap.size ≤ k) := Lib.hid (fun k hk => (hf7 k hk).elim (HF6.out k) (fun e => .inr (Nat.le_trans HU6.out.size e)))
 have hm7 := (hu7.block _ (lt_of_heap HM6.out) HF6M.out).trans HM6.out
 have HM7 := Lib.hid hm7
 have hF6b : ¬ F6 bh := fun e => by
  rcases HF6.out bh e with q | q
  ·have := HTL.out bh q; have := HBH.out; have := HU2.out.size; omega
  ·have := lt_of_heap HH5.out; omega
 have hh7 := (hu7.block _ (lt_of_heap HH6.out) hF6b).trans HH6.out
 have HH7 := Lib.hid hh7
 have HF7M : RowKit.Hid (¬ F7 m) := Lib.hid (fun e => by
  rcases HF7.out m e with q | q
  ·exact HMF.out q
  ·have := lt_of_heap HM5.out; omega)
 have hu07 : Upd (fun k => F k ∨ k = m) w w7 := ((HU5.out.mono (F := fun _ => False) (G := fun k => F k ∨ k = m) (fun _ _ e => e.elim)).trans (HU6.out.mono (fun _ _ e => .inl e))).step hu7 (fun k hk e => (HF6.out k e).elim .inl (fun q => by have := HU5.out.size; omega))
 have HU07 := Lib.hid hu07
 obtain ⟨E2, hE2⟩ : ∃ E2, E2 = (D.lays (X.cpS b hB)).laysE (raw [headSc X.cpH]) := ⟨_, rfl⟩
 rw [← hE2]
 have hce : X.cpE D b hB = E2 := by unfold Lg.cpE; rw [if_pos HE.out.symm, hE2]
 have hcd : X.cpD D b hB = (D.lays (X.cpS b hB)).lays (raw [headSc X.cpH]) := by unfold Lg.cpD; rw [if_pos HE.out.symm]
 have HCE := Lib.hid hce; have HCD := Lib.hid hcd
 clear hd7 hf7 hu7 hm7 hF6b hh7 hu07 hE2 hce hcd HHD e0 e1 e2 e3
 have hm := HM7.out
 have f7 : w7.frozen? ⟨m, 7, none⟩ = false := frozen_of_heap hm
 obtain ⟨c0, c1, c2, c3, c4, c5, c6, c7, c8⟩ := cells9_of hm
 clear hm
 simp only []
 by_cases hE0 : E2 = 0
 rotate_left
 ·have hEb2 : (E2 != 0) = true := by simpa using hE0
  have HE0 := Lib.hid hE0
  clear hE0
  go_wp2
  go_ret
  have hm4 : (w7.setCell ⟨m, 7, none⟩ (.bool true)).heap[m]? = some (.cells (mdC p X.h (.slice pa X.parts.length pc) (.slice aa an ac) true false) 37 (0, 0)) := block_setCell (i := 7) HM7.out (.bool true)
  have hu4 : Upd (fun k => k = m) w7 (w7.setCell ⟨m, 7, none⟩ (.bool true)) := upd_own _ _ _ _
  have hu04 : Upd (fun k => F k ∨ k = m) w (w7.setCell ⟨m, 7, none⟩ (.bool true)) := HU07.out.trans (hu4.mono (fun _ _ e => .inr e))
  have hYE : X.cp b E2 = X.brk true := by unfold Lg.cp; rw [if_neg HE0.out]
  rw [HCE.out, HCD.out, hYE]
  refine .inr (.inr ⟨rfl, HT.out, rfl, C, F7, ⟨⟨pa, pc, aa, an, ac, hm4, HP.out.kept hu04 (fun k hk e => e.elim (HCF.out k hk) (HCM.out k hk)), HPC.out, HPM.out, HPN.out⟩, HCM.out⟩, HD7.out.kept hu4 (fun k hk e => HF7M.out (by have e2 : k = m := e; rw [← e2]; exact hk)), fun k hk => (HF7.out k hk).imp_right (fun e => by have := HU5.out.size; omega), fun k hk => .inl hk, fun k hk e => ?_, hu04⟩)
  rcases HF7.out k e with q | q
  ·exact HCF.out k hk q
  ·have := HP.out.1 k hk; have := HU5.out.size; omega
 subst hE0
 go_upto_region 14 with fail
 obtain ⟨w8, hw8⟩ : ∃ w8, w8 = w7.setCell ⟨m, 7, none⟩ (.bool false) := ⟨_, rfl⟩
 have hm8 : w8.heap[m]? = some (.cells #[.pointer (some ⟨p, 0, none⟩), .int .i64 X.h.turn, .int .i64 X.h.area, .int .i64 X.h.place, .int .i64 X.h.number, .slice pa X.parts.length pc, .slice aa an ac, .bool false, .bool false] 37 (0, 0)) := by rw [hw8]; exact block_setCell (i := 7) HM7.out (.bool false)
 have hu8 : Upd (fun k => k = m) w7 w8 := by rw [hw8]; exact upd_own _ _ _ _
 have hh8 := (hu8.block _ (lt_of_heap HH7.out) (fun e => HNE.out e)).trans HH7.out
 rw [← hw8]
 clear hw8 f7 c0 c1 c2 c3 c4 c5 c6 c7 c8
 have HM8 := Lib.hid hm8; have HU8 := Lib.hid hu8
 obtain ⟨e0, e1, e2, e3⟩ := cells4_of hh8
 clear hm8 hu8 hh8
 iterate 22 go_step
 refine (?_ : wpList _ _ _ _ _ (w8.alloc (.cells #[.slice a b.length c] 39)))
 obtain ⟨w9, hw9⟩ : ∃ w9, w9 = w8.alloc (.cells #[.slice a b.length c] 39) := ⟨_, rfl⟩
 have hu9 : Upd (fun _ => False) w8 w9 := by rw [hw9]; exact (Upd.refl _ _).alloc _
 have hg9 : w9.heap[w8.heap.size]? = some (.cells #[.slice a b.length c] 39 (0, 0)) := by rw [hw9]; exact alloc_at rfl
 have hm9 := (hu9.block _ (lt_of_heap HM8.out) (fun e => e)).trans HM8.out
 rw [← hw9]
 clear hw9 e0 e1 e2 e3
 have HM9 := Lib.hid hm9; have HU9 := Lib.hid hu9; have HG9 := Lib.hid hg9
 clear hm9 hu9 hg9
 refine wpList_store_mid rfl 35 (.tmp 78) (.tmp 76) rfl m 1 #[.int .i64 X.cpH.turn, .int .i64 X.cpH.area, .int .i64 X.cpH.place, .int .i64 X.cpH.number, .slice (some ⟨w8.heap.size, 0, none⟩) 1 1, .slice none 0 0] rfl rfl (by have := there_sub (o := 1) (m := 6) HM9.out (by simp); exact this) (by kernel_rfl) (by simp [Value.oneCell']) ?_
 refine (?_ : wpList _ _ _ _ _ (w9.setCells m 1 [.int .i64 X.cpH.turn, .int .i64 X.cpH.area, .int .i64 X.cpH.place, .int .i64 X.cpH.number, .slice (some ⟨w8.heap.size, 0, none⟩) 1 1, .slice none 0 0]))
 obtain ⟨w10, hw10⟩ : ∃ w10, w10 = w9.setCells m 1 [.int .i64 X.cpH.turn, .int .i64 X.cpH.area, .int .i64 X.cpH.place, .int .i64 X.cpH.number, .slice (some ⟨w8.heap.size, 0, none⟩) 1 1, .slice none 0 0] := ⟨_, rfl⟩
 have hm10 : w10.heap[m]? = some (.cells (mdC p X.cpH (.slice (some ⟨w8.heap.size, 0, none⟩) 1 1) (.slice none 0 0) false false) 37 (0, 0)) := by
  rw [hw10]
  have := heap_setCells_at (o := 1) (vs := [.int .i64 X.cpH.turn, .int .i64 X.cpH.area, .int .i64 X.cpH.place, .int .i64 X.cpH.number, .slice (some ⟨w8.heap.size, 0, none⟩) 1 1, .slice none 0 0]) (old := [.pointer (some ⟨p, 0, none⟩), .int .i64 X.h.turn, .int .i64 X.h.area, .int .i64 X.h.place, .int .i64 X.h.number, .slice pa X.parts.length pc, .slice aa an ac, .bool false, .bool false]) HM9.out (by simp)
  exact this
 have hu10 : Upd (fun k => k = m) w9 w10 := by rw [hw10]; exact Upd.setCells (b := m) (F := fun j => j = m) rfl _ 1 (Upd.refl _ w9)
 rw [← hw10]
 clear hw10
 have HM10 := Lib.hid hm10; have HU10 := Lib.hid hu10
 clear hm10 hu10
 go_wp2
 go_ret
 have hlm := lt_of_heap HM.out
 have hs2 := HU2.out.size; have hs5 := HU5.out.size; have hs07 := HU07.out.size; have hs8 := HU8.out.size; have hs9 := HU9.out.size
 have hu09 : Upd (fun k => F k ∨ k = m) w w9 := (HU07.out.trans (HU8.out.mono (fun _ _ e => .inr e))).trans (HU9.out.mono (fun _ _ e => e.elim))
 have hu010 : Upd (fun k => F k ∨ k = m) w w10 := hu09.trans (HU10.out.mono (fun _ _ e => .inr e))
 have hb10 := HB.out.kept hu010 (fun k hk e => e.elim (HCB.out k hk).1 (HCB.out k hk).2)
 have hg10 : w10.heap[w8.heap.size]? = some (.cells #[.slice a b.length c] 39 (0, 0)) := (HU10.out.block _ (lt_of_heap HG9.out) (fun e => by have e2 : w8.heap.size = m := e; omega)).trans HG9.out
 have hpo := PIn.one hb10 hg10
 have hYE : X.cp b 0 = (⟨X.cpH, [], 0, false⟩ : Lg).add b := rfl
 rw [HCE.out, HCD.out, hYE]
 have hnm : ∀ k, (fun k => k = m) k → ¬ F7 k := fun k e hk => HF7M.out (by have e2 : k = m := e; rw [← e2]; exact hk)
 refine .inr (.inr ⟨rfl, HT.out, rfl, fun k => Cb k ∨ k = w8.heap.size, F7, ⟨⟨some ⟨w8.heap.size, 0, none⟩, 1, none, 0, 0, HM10.out, hpo, Nat.le_refl _, by unfold maxLen; omega, fun e => by cases e⟩, fun k hk => ?_⟩, ((HD7.out.kept HU8.out (fun k hk e => hnm k e hk)).kept HU9.out (fun _ _ e => e)).kept HU10.out (fun k hk e => hnm k e hk), fun k hk => (HF7.out k hk).imp_right (fun e => by omega), fun k hk => ?_, fun k hk e => ?_, hu010⟩)
 ·rcases hk with hk | hk
  ·exact (HCB.out k hk).2
  ·omega
 ·rcases hk with hk | hk
  ·exact .inr (.inl hk)
  ·exact .inr (.inr (by omega))
 ·rcases hk with hk | hk
  ·rcases HF7.out k e with q | q
   ·exact (HCB.out k hk).1 q
   ·have := HB.out.lt k hk; omega
  ·have := HD7.out.lt k e; omega
end
end Go.Proofs.YtbimkhdiplnbfaaGreat
