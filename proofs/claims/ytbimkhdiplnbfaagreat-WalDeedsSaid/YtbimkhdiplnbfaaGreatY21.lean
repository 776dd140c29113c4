/- Walks: Encode; the reference's numbers as bytes and bytes as numbers; whether something is there, and what. -/
import Derived.Test.YtbimkhdiplnbfaaGreatY20
import Derived.Test.YtbimkhdiplnbfaaGreatY22
import Derived.Deep.CutBlock
set_option linter.unusedVariables false
set_option linter.unusedSimpArgs false
namespace Go.Proofs.YtbimkhdiplnbfaaGreat
set_option maxRecDepth 1000000
set_option maxHeartbeats 16000000
section
open Go.RowKit Go.Shelf
end
section
open Go.RowKit
theorem snap_any {q p : Nat} {X : Lg} {G : Nat → Prop} {b : List Int} (w : World) (h : Log w q p X G) (hok : X.Ok) (hb : X.parts[0]? = some b) :
  Calls Tryz.prog 71 #[.pointer (some ⟨q, 0, none⟩)] w fun e w' => ∃ u, e = .returned u ∧ OwnB w' w.heap.size u b ∧ Upd (fun _ => False) w w' := by
 obtain ⟨PV, vs, h1, _⟩ := h
 have hl : 0 < X.parts.length := (List.getElem?_eq_some_iff.1 hb).1
 have hvl := h1.vslen
 have hlb := (hok.bytes b (List.mem_of_getElem? hb)).2
 obtain ⟨v, hv⟩ : ∃ v, vs[0]? = some v := ⟨vs[0], List.getElem?_eq_getElem (by omega)⟩
 have hp := h1.parts 0 v b hv hb
 obtain ⟨c0, c1, c2, c3, c4, c5, c6, c7⟩ := cells8_of h1.main
 rcases h1.row.2 with ⟨_, h3⟩ | ⟨g, cap, cur, rfl, _⟩
 ·omega
 have d0 : w.cell? ⟨g, 0, none⟩ = some v := World.ownsRow.cells h1.row rfl 0 v hv
 have HC := Lib.hid (clone_any w (by omega) hp.bytesIn)
 obtain ⟨n, hn⟩ : ∃ n, n = X.parts.length := ⟨_, rfl⟩
 rw [← hn] at c5 hl
 have hln : (0 : Int) < n := by omega
 clear h1 c0 c1 c2 c3 c4 c6 c7 hp hv hvl hb hok hn
 go_enter Tryz.func71, Tryz.ntmps71
 go_wp2_with (go_at_call 99; fail)
 refine HC.out.mono ?_
 rintro e w1 ⟨u, rfl, ho, _, hu⟩
 have HO := Lib.hid ho; have HU := Lib.hid hu
 clear ho hu HC
 simp only []
 go_wp2
 go_ret
 exact ⟨_, rfl, HO.out, HU.out⟩
theorem get_any {q p bx : Nat} {X : Lg} {G F : Nat → Prop} {D : Dk} {place : Int} (w : World) (h : Log w q p X G) (hok : X.Ok) (hbx : w.heap[bx]? = some (.cells #[.pointer (some ⟨q, 0, none⟩)] 38 (0, 0))) (hD : Dsk w p D F) (hdok : D.Ok 1099511627774)
  (hFG : ∀ k, G k → ¬ F k) (hFb : ¬ F bx) (hp : 0 ≤ place ∧ place ≤ 1099511627776) :
  Calls Tryz.prog 171 #[.int .i64 place, .pointer (some ⟨bx, 0, none⟩)] w fun e w' => e = .returned (.tuple #[.agg (bcells (D.reads (atF X.h.area place))).toArray, .int .i64 (D.callE (atF X.h.area place) false)]) ∧ Dsk w' p (D.callD (atF X.h.area place) false) F ∧ Upd F w w' := by
 have hq := h.mem
 obtain ⟨PV, vs, h1, _⟩ := h
 have hm := h1.main
 have ha := hok.area
 have hrl : (D.reads (atF X.h.area place)).length = 64 := (reads_blk hdok _).1
 obtain ⟨i, hi⟩ : ∃ i, i = atF X.h.area place := ⟨_, rfl⟩
 have har : 1 ≤ X.h.area ∧ X.h.area ≤ 1000 := by omega
 have hat : ∀ W, Calls Tryz.prog 161 #[X.h.val, .int .i64 place] W fun e w' => e = .returned (.int .i64 i) ∧ Upd (fun _ => False) W w' := fun W => by rw [hi]; exact at_any X.h place W har hp
 rw [← hi] at hrl ⊢
 have HRL : RowKit.Hid ((bcells (D.reads i)).length = 64) := Lib.hid (by simp [bcells, hrl])
 have HRS : RowKit.Hid ((bcells (D.reads i)).toArray.size = 64) := Lib.hid (by simp [bcells, hrl])
 have HZ : RowKit.Hid ((bcells zblk).toArray.size = 64) := Lib.hid (by simp [bcells, zblk])
 have HIR : RowKit.Hid ((Tryz.prog.info? 48).map (·.size) = some (bcells (D.reads i)).toArray.size) := Lib.hid (by rw [Tryz.info56p]; simp [bcells, hrl])
 have HIL : RowKit.Hid ((Tryz.prog.info? 48).map (·.size) = some (bcells (D.reads i)).length) := Lib.hid (by rw [Tryz.info56p]; simp [bcells, hrl])
 have HR1 := Lib.hid (all_oneCell_toArray (bcells_one (D.reads i)))
 have HI := Lib.hid hi; have HAT := Lib.hid hat; have HD := Lib.hid hD; have HOK := Lib.hid hdok; have HFB := Lib.hid hFb; have HFQ := Lib.hid (hFG q hq); have HQL := Lib.hid (lt_of_heap hm); have HFL := Lib.hid hD.lt; have HBX := Lib.hid hbx
 have HFW : RowKit.Hid (¬ F w.heap.size) := Lib.hid (fun e => by have := hD.lt _ e; omega)
 have hu1 : Upd (fun _ => False) w (w.alloc (.cells (bcells zblk).toArray 48)) := (Upd.refl _ w).alloc _
 have hb1 : (w.alloc (.cells (bcells zblk).toArray 48)).heap[w.heap.size]? = some (.cells (bcells zblk).toArray 48 (0, 0)) := alloc_at rfl
 have hbx1 := (hu1.block _ (lt_of_heap hbx) (fun e => e)).trans hbx
 have hm1 := (hu1.block _ (lt_of_heap hm) (fun e => e)).trans hm
 have hd1 := hD.kept hu1 (fun _ _ e => e)
 clear hm h1 hq hok ha hrl hi har hat hp hD hdok hFb hFG hbx HI
 go_enter Tryz.func171, Tryz.ntmps171
 go_upto_region 1 with fail
 refine (?_ : Code.wp _ _ _ _ (w.alloc (.cells (bcells zblk).toArray 48)))
 obtain ⟨w1, hw1⟩ : ∃ w1, w1 = w.alloc (.cells (bcells zblk).toArray 48) := ⟨_, rfl⟩
 rw [← hw1] at hu1 hb1 hbx1 hm1 hd1 ⊢
 have HU1 := Lib.hid hu1; have HB1 := Lib.hid hb1; have HBX1 := Lib.hid hbx1; have HM1 := Lib.hid hm1; have HD := Lib.hid hd1
 clear hu1 hb1 hbx1 hm1 hd1 hw1
 have hA : Upd (fun k => F k ∨ k = w.heap.size) w1 w1.drew := (Upd.refl _ w1).drew
 refine wp_region_G 14 (fun W => Upd (fun k => F k ∨ k = w.heap.size) w1 W) [false, false, false, false, false, false, false, false, false, false, false, false, false, false, false] rfl (by kernel_rfl) ?_
 refine wpG_takeT (i := 0) (v := .pointer (some ⟨q, 0, none⟩)) rfl (fun L hc h => (hc.waits (n := 14) (i := 12) (by kernel_rfl) (hc.waits (n := 12) (i := 10) (by kernel_rfl) (hc.waits (n := 10) (i := 3) (by kernel_rfl) (hc.waits (n := 3) (i := 2) (by kernel_rfl) (hc.waits (n := 2) (i := 1) (by kernel_rfl) (hc.waits (n := 1) (i := 0) (by kernel_rfl) h))))))) (by kernel_rfl) (fun _ _ _ h => h) hA (.inl ⟨rfl, fun w5 q1 => ?_⟩) ?_
 ·have cc : w5.cell? ⟨bx, 0, none⟩ = some (.pointer (some ⟨q, 0, none⟩)) := by simp [World.cell?, (q1.block _ (lt_of_heap HBX1.out) (fun e => e.elim HFB.out (fun e => by have := lt_of_heap HBX.out; omega))).trans HBX1.out]
  go_simp
 simp only [Act.put, List.setIfInBounds_toArray, List.set]
 refine wpG_takeT (i := 1) (v := .pointer (some ⟨q, 0, none⟩)) rfl (fun L hc h => (hc.waits (n := 14) (i := 12) (by kernel_rfl) (hc.waits (n := 12) (i := 10) (by kernel_rfl) (hc.waits (n := 10) (i := 3) (by kernel_rfl) (hc.waits (n := 3) (i := 2) (by kernel_rfl) (hc.waits (n := 2) (i := 1) (by kernel_rfl) h)))))) (by kernel_rfl) (fun _ _ _ h => h) hA (.inl ⟨rfl, fun w5 q1 => ?_⟩) ?_
 ·go_simp
 simp only [Act.put, List.setIfInBounds_toArray, List.set]
 refine wpG_takeT (i := 2) (v := .pointer (some ⟨q, 4, none⟩)) rfl (fun L hc h => (hc.waits (n := 14) (i := 12) (by kernel_rfl) (hc.waits (n := 12) (i := 10) (by kernel_rfl) (hc.waits (n := 10) (i := 3) (by kernel_rfl) (hc.waits (n := 3) (i := 2) (by kernel_rfl) h))))) (by kernel_rfl) (fun _ _ _ h => h) hA (.inl ⟨rfl, fun w5 q1 => ?_⟩) ?_
 ·go_simp
 simp only [Act.put, List.setIfInBounds_toArray, List.set]
 refine wpG_takeT (i := 3) (v := .pointer (some ⟨p, 0, none⟩)) rfl (fun L hc h => (hc.waits (n := 14) (i := 12) (by kernel_rfl) (hc.waits (n := 12) (i := 10) (by kernel_rfl) (hc.waits (n := 10) (i := 3) (by kernel_rfl) h)))) (by kernel_rfl) (fun _ _ _ h => h) hA (.inl ⟨rfl, fun w5 q1 => ?_⟩) ?_
 ·have cc : w5.cell? ⟨q, 4, none⟩ = some (.pointer (some ⟨p, 0, none⟩)) := by simp [World.cell?, (q1.block _ (lt_of_heap HM1.out) (fun e => e.elim HFQ.out (fun e => by have := HQL.out; omega))).trans HM1.out, Lg.cells]
  go_simp
 simp only [Act.put, List.setIfInBounds_toArray, List.set]
 refine wpG_takeT (i := 4) (v := .pointer (some ⟨q, 0, none⟩)) rfl (fun L hc h => (hc.waits (n := 14) (i := 12) (by kernel_rfl) (hc.waits (n := 12) (i := 10) (by kernel_rfl) (hc.waits (n := 10) (i := 9) (by kernel_rfl) (hc.waits (n := 9) (i := 7) (by kernel_rfl) (hc.waits (n := 7) (i := 6) (by kernel_rfl) (hc.waits (n := 6) (i := 5) (by kernel_rfl) (hc.waits (n := 5) (i := 4) (by kernel_rfl) h)))))))) (by kernel_rfl) (fun _ _ _ h => h) hA (.inl ⟨rfl, fun w5 q1 => ?_⟩) ?_
 ·have cc : w5.cell? ⟨bx, 0, none⟩ = some (.pointer (some ⟨q, 0, none⟩)) := by simp [World.cell?, (q1.block _ (lt_of_heap HBX1.out) (fun e => e.elim HFB.out (fun e => by have := lt_of_heap HBX.out; omega))).trans HBX1.out]
  go_simp
 simp only [Act.put, List.setIfInBounds_toArray, List.set]
 refine wpG_takeT (i := 5) (v := .pointer (some ⟨q, 0, none⟩)) rfl (fun L hc h => (hc.waits (n := 14) (i := 12) (by kernel_rfl) (hc.waits (n := 12) (i := 10) (by kernel_rfl) (hc.waits (n := 10) (i := 9) (by kernel_rfl) (hc.waits (n := 9) (i := 7) (by kernel_rfl) (hc.waits (n := 7) (i := 6) (by kernel_rfl) (hc.waits (n := 6) (i := 5) (by kernel_rfl) h))))))) (by kernel_rfl) (fun _ _ _ h => h) hA (.inl ⟨rfl, fun w5 q1 => ?_⟩) ?_
 ·go_simp
 simp only [Act.put, List.setIfInBounds_toArray, List.set]
 refine wpG_takeT (i := 6) (v := .pointer (some ⟨q, 0, none⟩)) rfl (fun L hc h => (hc.waits (n := 14) (i := 12) (by kernel_rfl) (hc.waits (n := 12) (i := 10) (by kernel_rfl) (hc.waits (n := 10) (i := 9) (by kernel_rfl) (hc.waits (n := 9) (i := 7) (by kernel_rfl) (hc.waits (n := 7) (i := 6) (by kernel_rfl) h)))))) (by kernel_rfl) (fun _ _ _ h => h) hA (.inl ⟨rfl, fun w5 q1 => ?_⟩) ?_
 ·go_simp
 simp only [Act.put, List.setIfInBounds_toArray, List.set]
 refine wpG_takeT (i := 7) (v := X.h.val) rfl (fun L hc h => (hc.waits (n := 14) (i := 12) (by kernel_rfl) (hc.waits (n := 12) (i := 10) (by kernel_rfl) (hc.waits (n := 10) (i := 9) (by kernel_rfl) (hc.waits (n := 9) (i := 7) (by kernel_rfl) h))))) (by kernel_rfl) (fun _ _ _ h => h) hA (.inl ⟨rfl, fun w5 q1 => ?_⟩) ?_
 ·refine run_load_mid' rfl rfl [.int .i64 X.h.turn, .int .i64 X.h.area, .int .i64 X.h.place, .int .i64 X.h.number] (fun j v hj => ?_) Tryz.underlying184 rfl Tryz.size107r
  have hm := (q1.block _ (lt_of_heap HM1.out) (fun e => e.elim HFQ.out (fun e => by have := HQL.out; omega))).trans HM1.out
  match j, hj with
  | 0, hj => simp at hj; subst hj; simp [World.cell?, hm, Lg.cells]
  | 1, hj => simp at hj; subst hj; simp [World.cell?, hm, Lg.cells]
  | 2, hj => simp at hj; subst hj; simp [World.cell?, hm, Lg.cells]
  | 3, hj => simp at hj; subst hj; simp [World.cell?, hm, Lg.cells]
  |j + 4, hj => simp at hj
 simp only [Act.put, List.setIfInBounds_toArray, List.set]
 refine wpG_takeT (i := 8) (v := .int .i64 place) rfl (fun L hc h => (hc.waits (n := 14) (i := 12) (by kernel_rfl) (hc.waits (n := 12) (i := 10) (by kernel_rfl) (hc.waits (n := 10) (i := 9) (by kernel_rfl) (hc.waits (n := 9) (i := 8) (by kernel_rfl) h))))) (by kernel_rfl) (fun _ _ _ h => h) hA (.inl ⟨rfl, fun w5 q1 => ?_⟩) ?_
 ·go_simp
 simp only [Act.put, List.setIfInBounds_toArray, List.set]
 refine wpG_doIf (i := 9) rfl (by kernel_rfl) rfl (fun K hK => ?_)
 have HKK := Lib.hid hK
 clear hK
 go_step
 refine (HAT.out _).mono ?_
 rintro e w2 ⟨rfl, hu2⟩
 have hA2 : Upd (fun k => F k ∨ k = w.heap.size) w1 w2 := hA.trans (hu2.mono (fun _ _ e => e.elim))
 have HU2 := Lib.hid (((Upd.refl (fun _ => False) w1).drew).trans hu2)
 clear hA hu2
 simp only []
 refine HKK.out _ _ hA2 ?_
 clear HKK
 simp only [List.setIfInBounds_toArray, List.set]
 refine wpG_doIf (i := 10) rfl (by kernel_rfl) rfl (fun K hK => ?_)
 have HKK := Lib.hid hK
 clear hK
 go_step
 refine (read_any i w2 (HD.out.kept HU2.out (fun _ _ e => e)) HOK.out).mono ?_
 rintro e w3 ⟨rfl, hd3, hu3⟩
 have hA : Upd (fun k => F k ∨ k = w.heap.size) w1 w3 := hA2.trans (hu3.mono (fun _ _ e => .inl e))
 have hb3 : w3.heap[w.heap.size]? = some (.cells (bcells zblk).toArray 48 (0, 0)) := (hu3.block _ (lt_of_heap ((HU2.out.block _ (lt_of_heap HB1.out) (fun e => e)).trans HB1.out)) HFW.out).trans ((HU2.out.block _ (lt_of_heap HB1.out) (fun e => e)).trans HB1.out)
 have HD3 := Lib.hid hd3; have HU3 := Lib.hid (HU2.out.mono (F := fun _ => False) (G := F) (fun _ _ e => e.elim) |>.trans hu3); have HB3 := Lib.hid hb3
 clear hA2 hd3 hu3 hb3
 generalize hrv : bcells (D.reads i) = rv at *
 have HRV := Lib.hid hrv
 clear hrv
 simp only []
 refine HKK.out _ _ hA ?_
 clear HKK
 simp only [List.setIfInBounds_toArray, List.set]
 refine wpG_takeT (i := 11) (v := .agg rv.toArray) rfl (fun L hc h => (hc.waits (n := 14) (i := 13) (by kernel_rfl) (hc.waits (n := 13) (i := 11) (by kernel_rfl) h))) (by kernel_rfl) (fun _ _ _ h => h) hA (.inl ⟨rfl, fun w5 q1 => ?_⟩) ?_
 ·go_simp
 simp only [Act.put, List.setIfInBounds_toArray, List.set]
 refine wpG_takeT (i := 12) (v := .int .i64 (D.callE i false)) rfl (fun L hc h => (hc.waits (n := 14) (i := 12) (by kernel_rfl) h)) (by kernel_rfl) (fun _ _ _ h => h) hA (.inl ⟨rfl, fun w5 q1 => ?_⟩) ?_
 ·go_simp
 simp only [Act.put, List.setIfInBounds_toArray, List.set]
 refine wpG_do (i := 13) rfl (by kernel_rfl) rfl (fun K hK => ?_)
 refine wp_store_mid 48 (.tmp 3) (.tmp 16) rfl w.heap.size 0 rv.toArray rfl rfl (by have q := there_block HB3.out; rw [HZ.out] at q; rw [HRS.out]; exact q) HIR.out HR1.out ?_
 have hAv := Upd.setCells (b := w.heap.size) (F := fun k => F k ∨ k = w.heap.size) (.inr rfl) rv 0 hA
 have hAw := Upd.setCells (b := w.heap.size) (F := fun k => k = w.heap.size) rfl rv 0 (Upd.refl _ w3)
 have hAc := heap_setCells_whole (vs := rv) HB3.out (by rw [HZ.out, HRL.out])
 have HAW := Lib.hid hAw; have HAC := Lib.hid hAc
 clear hAw hAc
 refine hK _ _ hAv ?_
 clear hK hAv hA
 simp only [Act.put, List.setIfInBounds_toArray, List.set]
 refine wpG_tail_lit (k := 14) rfl rfl (by kernel_rfl) ?_
 simp only [List.drop]
 go_wp2
 have hl3 := run_loadVar_mid (P := Tryz.prog) _ w.heap.size 0 48 rv _ (rangeAt_block HAC.out) Tryz.underlying48 rfl HIL.out
 refine bodyPost_ret (results_cell_tmp Tryz.results171 rfl hl3) rfl ⟨by rw [HRV.out]; rfl, HD3.out.kept HAW.out (fun k hk e => by have := HFL.out k hk; omega), (HU1.out.mono (F := fun _ => False) (G := F) (fun _ _ e => e.elim) |>.trans HU3.out).step HAW.out (fun k hk e => by omega)⟩
end
section
open Go.RowKit Go.Shelf
def WholeAns (w : World) (p : Nat) (F : Nat → Prop) (R : Option (List Int) × Int × Dk) (e : Ending) (w' : World) : Prop :=
 Dsk w' p R.2.2 F ∧ Upd F w w' ∧ match R.1 with
 |none => e = .returned (.tuple #[.slice none 0 0, .bool false, .int .i64 R.2.1])
 |some b => ∃ v, e = .returned (.tuple #[v, .bool true, .int .i64 0]) ∧ OwnB w' w.heap.size v b ∧ Bytes b ∧ b.length ≤ 40000
structure WhAt (w : World) (p : Nat) (hd : Hd) (F : Nat → Prop) (D : Dk) (W : World) : Prop where
 dsk : Dsk W p D F
 upd : Upd F w W
 box : W.heap[w.heap.size]? = some (.cells #[.int .i64 hd.turn, .int .i64 hd.area, .int .i64 hd.place, .int .i64 hd.number] 184 (0, 0))
theorem WhAt.kept {w W W' : World} {p : Nat} {hd : Hd} {F G : Nat → Prop} {D : Dk} (h : WhAt w p hd F D W) (hu : Upd G W W') (hG : ∀ k, G k → w.heap.size < k) (hF : ∀ k, F k → k < w.heap.size) : WhAt w p hd F D W' :=
 ⟨h.dsk.kept hu (fun k h1 h2 => by have := hG k h2; have := hF k h1; omega), h.upd.step hu (fun k h1 h2 => by have := hG k h2; omega), (hu.block _ (lt_of_heap h.box) (fun e => by have := hG _ e; omega)).trans h.box⟩
theorem WhAt.read {w W W' : World} {p : Nat} {hd : Hd} {F : Nat → Prop} {D D' : Dk} (h : WhAt w p hd F D W) (hd' : Dsk W' p D' F) (hu : Upd F W W') (hF : ∀ k, F k → k < w.heap.size) : WhAt w p hd F D' W' :=
 ⟨hd', h.upd.step hu (fun k _ h2 => h2), (hu.block _ (lt_of_heap h.box) (fun e => by have := hF _ e; omega)).trans h.box⟩
structure BufAt (w W : World) (g n : Nat) (bs : List Int) : Prop where
 len : bs.length = n
 short : n ≤ 40000
 byte : Bytes bs
 blk : W.heap[g]? = some (.cells (bcells bs).toArray 5 (0, 0))
 gt : w.heap.size < g
theorem BufAt.kept {w W W' : World} {g n : Nat} {bs : List Int} {G : Nat → Prop} (h : BufAt w W g n bs) (hu : Upd G W W') (hg : ¬ G g) : BufAt w W' g n bs :=
 ⟨h.len, h.short, h.byte, (hu.block _ (lt_of_heap h.blk) hg).trans h.blk, h.gt⟩
theorem bytes_over {b : List Int} {off : Nat} {src : List Int} (h1 : Bytes b) (h2 : Bytes src) : Bytes (overF b off src) := by
 intro x hx
 unfold overF at hx
 rcases List.mem_append.1 hx with hx | hx
 ·exact h1 x (List.mem_of_mem_take hx)
 ·rcases List.mem_append.1 hx with hx | hx
  ·exact h2 x (List.mem_of_mem_take hx)
  ·exact h1 x (List.mem_of_mem_drop hx)
theorem bytes_drop {b : List Int} {o : Nat} (h : Bytes b) : Bytes (b.drop o) := fun x hx => h x (List.mem_of_mem_drop hx)
def LoopR (w : World) (R : Option (List Int) × Int × Dk) (hd : Hd) (number place left : Int) (snap : Bool) (kk : Nat) (b turn many : Value) (W : World) (D : Dk) : Prop :=
 (kk = 0 ∧ b = .slice none 0 0 ∧ turn = .int .i64 0 ∧ many = .int .i64 1 ∧ R = wholeD hd number place snap left D) ∨
 (1 ≤ kk ∧ ∃ (t : Int) (n : Nat) (bs : List Int) (g : Nat), b = .slice (some ⟨g, 0, none⟩) n n ∧ turn = .int .i64 t ∧ many = .int .i64 (secsN n) ∧ kk ≤ secsN n ∧ (1 ≤ t ∧ t ≤ 4294967295) ∧ R = goD hd number place t snap (secsN n - kk) kk bs D ∧ BufAt w W g n bs)
theorem LoopR.more {w : World} {R : Option (List Int) × Int × Dk} {hd : Hd} {number place left : Int} {snap : Bool} {kk : Nat} {b turn many : Value} {W : World} {D : Dk} (h : LoopR w R hd number place left snap kk b turn many W D) : ∃ m : Int, many = .int .i64 m ∧ ((kk : Int) < m ∨ ((kk : Int) = m ∧ ∃ bs g n, b = .slice (some ⟨g, 0, none⟩) n n ∧ R = (some bs, 0, D) ∧ BufAt w W g n bs)) ∧ m ≤ 1000 := by
 rcases h with ⟨rfl, _, _, rfl, _⟩ | ⟨_, t, n, bs, g, rfl, rfl, rfl, h3, _, h4, h5⟩
 ·exact ⟨1, rfl, .inl (by omega), by omega⟩
 ·refine ⟨secsN n, rfl, ?_, by have := h5.short; unfold secsN; omega⟩
  by_cases h6 : kk < secsN n
  ·exact .inl (by omega)
  ·refine .inr ⟨by omega, bs, g, n, rfl, ?_, h5⟩
   rw [h4, show secsN n - kk = 0 by omega]
   rfl
def Cont (R : Option (List Int) × Int × Dk) (hd : Hd) (number place _left : Int) (snap : Bool) (kk : Nat) (t : Int) (n : Nat) (bs s : List Int) (o : Nat) (D' : Dk) : Prop :=
 (overF bs (48 * kk - 4) (s.drop o)).length = n ∧ (cutF t number snap (overF bs (48 * kk - 4) (s.drop o)) kk = s → R = goD hd number place t snap (secsN n - (kk + 1)) (kk + 1) (overF bs (48 * kk - 4) (s.drop o)) D') ∧
 (cutF t number snap (overF bs (48 * kk - 4) (s.drop o)) kk ≠ s → R = (none, 0, D'))
theorem goD_step {hd : Hd} {number place t : Int} {snap : Bool} {m k : Nat} {b : List Int} {D : Dk} (he : D.callE (atF hd.area (place + k)) false ≠ 0) : goD hd number place t snap (m + 1) k b D = (none, D.callE (atF hd.area (place + k)) false, D.callD (atF hd.area (place + k)) false) := by
 unfold goD; rw [if_neg he]
theorem LoopR.fails {w : World} {R : Option (List Int) × Int × Dk} {hd : Hd} {number place left : Int} {snap : Bool} {kk : Nat} {b turn many : Value} {W : World} {D : Dk} {m : Int} (h : LoopR w R hd number place left snap kk b turn many W D) (hm : many = .int .i64 m) (hk : (kk : Int) < m) (hl : left ≠ 0)
  (he : D.callE (atF hd.area (place + kk)) false ≠ 0) : R = (none, D.callE (atF hd.area (place + kk)) false, D.callD (atF hd.area (place + kk)) false) := by
 rcases h with ⟨rfl, _, _, _, h4⟩ | ⟨_, t, n, bs, g, rfl, rfl, h2, h3, _, h4, h5⟩
 ·rw [h4]
  rw [show place + ((0 : Nat) : Int) = place by omega] at he ⊢
  unfold wholeD
  rw [if_neg hl, if_neg he]
 ·rw [hm] at h2
  obtain rfl : m = secsN n := by injection h2
  rw [h4, show secsN n - kk = (secsN n - (kk + 1)) + 1 by omega]
  exact goD_step he
theorem LoopR.cont {w : World} {R : Option (List Int) × Int × Dk} {hd : Hd} {number place left : Int} {snap : Bool} {kk : Nat} {b turn many : Value} {W : World} {D : Dk} {m : Int} (h : LoopR w R hd number place left snap kk b turn many W D) (hm : many = .int .i64 m) (hk : (kk : Int) < m) (h1 : 1 ≤ kk)
  (he : D.callE (atF hd.area (place + kk)) false = 0) : ∃ (t : Int) (n : Nat) (bs : List Int) (g : Nat), b = .slice (some ⟨g, 0, none⟩) n n ∧ turn = .int .i64 t ∧ m = secsN n ∧ (1 ≤ t ∧ t ≤ 4294967295) ∧ BufAt w W g n bs ∧ Cont R hd number place left snap kk t n bs (D.reads (atF hd.area (place + kk))) 16 (D.callD (atF hd.area (place + kk)) false) := by
 rcases h with ⟨rfl, _⟩ | ⟨_, t, n, bs, g, rfl, rfl, h2, h3, ht, h4, h5⟩
 ·omega
 ·rw [hm] at h2
  obtain rfl : m = secsN n := by injection h2
  have hl : (overF bs (48 * kk - 4) ((D.reads (atF hd.area (place + kk))).drop 16)).length = n := by
   rw [overF_length _ _ _ (by have := h5.len; have hk' : kk < secsN n := by omega
                              unfold secsN at hk'; omega), h5.len]
  refine ⟨t, n, bs, g, rfl, rfl, rfl, ht, h5, hl, fun hc => ?_, fun hc => ?_⟩
  ·rw [h4, show secsN n - kk = (secsN n - (kk + 1)) + 1 by omega]
   rw (occs := .pos [1]) [goD]
   rw [if_pos he, if_pos hc]
  ·rw [h4, show secsN n - kk = (secsN n - (kk + 1)) + 1 by omega]
   rw (occs := .pos [1]) [goD]
   rw [if_pos he, if_neg hc]
theorem cont_zero {R : Option (List Int) × Int × Dk} {hd : Hd} {number place left : Int} {snap : Bool} {D : Dk} (hR : R = wholeD hd number place snap left D) (hl : left ≠ 0) (he : D.callE (atF hd.area place) false = 0) :
  (¬ Starts hd left (D.reads (atF hd.area place)) → R = (none, 0, D.callD (atF hd.area place) false)) ∧
  (Starts hd left (D.reads (atF hd.area place)) → Cont R hd number place left snap 0 (startT (D.reads (atF hd.area place))) (startN (D.reads (atF hd.area place))).toNat (List.replicate (startN (D.reads (atF hd.area place))).toNat 0) (D.reads (atF hd.area place)) 20 (D.callD (atF hd.area place) false)) := by
 have hu : ∀ s, overF (List.replicate (startN s).toNat 0) (48 * 0 - 4) (s.drop 20) = startB s := fun s => rfl
 refine ⟨fun hs => ?_, fun hs => ⟨by rw [overF_length _ _ _ (by omega)]; simp, fun hc => ?_, fun hc => ?_⟩⟩
 ·rw [hR]; unfold wholeD
  rw [if_neg hl, if_pos he, if_neg hs]
 ·rw [hu] at hc ⊢
  rw [hR]; unfold wholeD
  rw [if_neg hl, if_pos he, if_pos hs, if_pos hc]
 ·rw [hu] at hc
  rw [hR]; unfold wholeD
  rw [if_neg hl, if_pos he, if_pos hs, if_neg hc]
theorem arr56 : Tryz.prog.underlying 48 = some (.array (Tryz.prog.arrayLen 48) (Tryz.prog.elem 48)) := by kernel_rfl
theorem size56e (W : World) : (sizeOf (Tryz.prog.elem 48)).run Tryz.prog W = .ok 1 W := by kernel_rfl
theorem len56 : Tryz.prog.arrayLen 48 = 64 := by kernel_rfl
theorem slice_16 (g : Nat) (W : World) : (Instr.sliceAt 48 (.pointer (some ⟨g, 0, none⟩)) (some (.int .i64 16)) none none).run Tryz.prog W = .ok (.slice (some ⟨g, 16, none⟩) 48 48) W := by
 rw [run_sliceAt_array_l W 48 _ arr56 .i64 16 (by omega) (by rw [len56]; omega), size56e, len56]
 rfl
theorem slice_all (g : Nat) (W : World) : (Instr.sliceAt 48 (.pointer (some ⟨g, 0, none⟩)) none none none).run Tryz.prog W = .ok (.slice (some ⟨g, 0, none⟩) 64 64) W := by
 rw [run_sliceAt_array_all W 48 _ arr56, size56e, len56]
 rfl
theorem slice_own4 (g : Nat) (W : World) : (Instr.slice 39 (.slice (some ⟨g, 16, none⟩) 48 48) (some (.int .i64 4)) none none).run Tryz.prog W = .ok (.slice (some ⟨g, 20, none⟩) 44 44) W := by
 rw [run_slice_l W 39 _ 48 48 elem28 .i64 4 (by omega) (by omega), size28e]
 rfl
theorem slice_from (g n c off : Nat) (h1 : off ≤ n) (_h2 : n ≤ c) (h3 : off = 0 ∨ off < c) (W : World) : (Instr.slice 39 (.slice (some ⟨g, 0, none⟩) n c) (some (.int .i64 off)) none none).run Tryz.prog W = .ok (.slice (some ⟨g, off, none⟩) (n - off) (c - off)) W := by
 rw [run_slice_l W 39 _ n c elem28 .i64 off (by omega) (by omega), size28e]
 simp only [Result.andThen, sliced, Int.toNat_natCast]
 rcases h3 with rfl | h3
 ·simp [Addr.add]
 ·rw [if_neg (by omega)]
  simp [Addr.add]
  omega
theorem made_bytes (n : Nat) : madeCells #[.int .u8 0] n = (bcells (List.replicate n 0)).toArray := by
 apply Array.ext
 ·simp [madeCells, bcells]
 ·intro i h1 h2
  simp [madeCells, bcells, Nat.mod_one]
theorem split4 {s : List Int} (h : 4 ≤ s.length) : ∃ a0 a1 a2 a3 r, s = a0 :: a1 :: a2 :: a3 :: r ∧ be s = be4 a0 a1 a2 a3 4 := by
 match s, h with
 |a0 :: a1 :: a2 :: a3 :: r, _ => exact ⟨a0, a1, a2, a3, r, rfl, rfl⟩
theorem bytesIn_arr {W : World} {gs : Nat} {s : List Int} (o : Nat) (hl : s.length = 64) (ho : o ≤ 64) (hb : W.heap[gs]? = some (.cells (bcells s).toArray 48 (0, 0))) : BytesIn W (.slice (some ⟨gs, o, none⟩) (64 - o) (64 - o)) (s.drop o) := by
 refine .inr ⟨⟨gs, o, none⟩, 64 - o, by simp [hl], by simp [hl], by unfold maxLen; omega, fun i u hi => ?_⟩
 rw [Addr.add_mid, cell_of_heap hb]
 have e : bcells (s.drop o) = (bcells s).drop o := by simp [bcells]
 rw [e, List.getElem?_drop] at hi
 rw [List.getElem?_toArray, hi]
theorem splice_over {bs s : List Int} {off o : Nat} (h1 : off ≤ bs.length) : splice (bcells bs) off (bcells ((s.drop o).take (bs.length - off))) = bcells (overF bs off (s.drop o)) := by
 unfold splice overF
 simp only [bcells, List.map_append, List.map_take, List.map_drop]
 congr 2
 apply List.ext_getElem?
 intro j
 rw [List.getElem?_drop, List.getElem?_drop]
 by_cases h : (s.drop o).length ≤ bs.length - off
 ·congr 1
  simp at h ⊢
  omega
 ·rw [List.getElem?_eq_none, List.getElem?_eq_none]
  ·simp at h ⊢; omega
  ·simp at h ⊢; omega
theorem wpList_copy_upd {P : Program} {w : World} {ops : Array Oper} {rest : List Oper} {o : Oper} {a : Act} {Q : Exit → Act → World → Prop} (hgd : o.guard = none) (d s : Operand) (dT sT : TypeId)
  (ho : o.op = .call { callee := .builtin .copy, args := #[d, s], argTypes := #[dT, sT] }) (elem : TypeId) (hu : P.underlying dT = some (.slice elem)) (hsz : (P.info? elem).map (·.size) = some 1)
  (dLen dCap sLen sCap : Nat) (g off : Nat) (ad : Addr) (hd : a.eval d = .slice (some ⟨g, off, none⟩) dLen dCap) (hs : a.eval s = .slice (some ad) sLen sCap)
  (cur : List Value) (t : TypeId) (hg : w.heap[g]? = some (.cells cur.toArray t (0, 0))) (cs : List Value) (hn : cs.length = Nat.min sLen dLen)
  (hsrc : ∀ j v, cs[j]? = some v → w.cell? (ad.add j) = some v)
  (hfit : off + cs.length ≤ cur.length) (h1 : ∀ v ∈ cs, v.oneCell' = true)
  (h : ∀ w', w'.heap[g]? = some (.cells (splice cur off cs).toArray t (0, 0)) → Upd (fun k => k = g) w w' → wpList P ops Q rest (a.put o.dst (goInt cs.length)) w') :
  wpList P ops Q (o :: rest) a w := by
 refine wpList_copy_own hgd d s dT sT ho elem hu hsz g off dLen dCap ad sLen sCap hd hs cur.toArray t hg cs hn hsrc (by simpa using hfit) h1 ?_
 refine h _ (show _ = _ by simpa [splice] using setRow_heap w g _ _ t _ hg) ⟨rfl, rfl, rfl, by simp [World.setRow], fun k hk hgk => setRow_other w g k _ hgk⟩
theorem neqV (xs ys : List Int) (hx : xs.length = 64) (hy : ys.length = 64) (W : World) : (binOp .neq 48 (.agg (bcells xs).toArray) (.agg (bcells ys).toArray)).run Tryz.prog W = .ok (.bool (!(xs == ys))) W := neq_bytes W hx hy
theorem own_buf {w W : World} {g n : Nat} {bs : List Int} (h : BufAt w W g n bs) : OwnB W w.heap.size (.slice (some ⟨g, 0, none⟩) n n) bs := by
 obtain ⟨h1, h2, h3, h4, h5⟩ := h
 subst h1
 refine ⟨by simp [bcells], .inr ⟨g, bs.length, (bcells bs).toArray, rfl, by omega, h4, Nat.le_refl _, by unfold maxLen; omega, by simp [bcells], by rw [List.take_of_length_le (by simp [bcells])]⟩⟩
theorem whole_any {q p bx : Nat} {X : Lg} {G F : Nat → Prop} {D : Dk} {N : Nat} {number place left : Int} {snap : Bool} (w : World) (hlg : Log w q p X G) (hok : X.Ok) (hbx : w.heap[bx]? = some (.cells #[.pointer (some ⟨q, 0, none⟩)] 38 (0, 0))) (hD : Dsk w p D F) (hdok : D.Ok N) (hN : N ≤ 1099511620000)
  (hFG : ∀ k, G k → ¬ F k) (hFb : ¬ F bx) (hp : 0 ≤ place ∧ place ≤ 1000000) (hnum : 0 ≤ number ∧ number ≤ 4294967295) (hl : 0 ≤ left ∧ left ≤ 1000) :
  Calls Tryz.prog 172 #[X.h.val, .int .i64 number, .int .i64 place, .bool snap, .int .i64 left, .func (.func 171) #[] #[.pointer (some ⟨bx, 0, none⟩)]] w fun e w' => WholeAns w p F (wholeD X.h number place snap left D) e w' := by
 have hFL := hD.lt
 have hturn := hok.turn
 have hbxl := lt_of_heap hbx
 obtain ⟨R, hR⟩ : ∃ R, R = wholeD X.h number place snap left D := ⟨_, rfl⟩
 rw [← hR]
 have hu1 : Upd (fun _ => False) w (w.alloc (.cells #[.int .i64 X.h.turn, .int .i64 X.h.area, .int .i64 X.h.place, .int .i64 X.h.number] 184)) := (Upd.refl _ w).alloc _
 have hat1 : WhAt w p X.h F D (w.alloc (.cells #[.int .i64 X.h.turn, .int .i64 X.h.area, .int .i64 X.h.place, .int .i64 X.h.number] 184)) := ⟨hD.kept hu1 (fun _ _ e => e), hu1.mono (fun _ _ e => e.elim), alloc_at rfl⟩
 by_cases hl0 : left = 0
 ·subst hl0
  have hR' : R = (none, 0, D) := by rw [hR]; unfold wholeD; rw [if_pos rfl]
  have HR := Lib.hid hR'; have HAT := Lib.hid hat1
  clear hlg hok hbx hD hdok hN hFG hFb hFL hturn hbxl hR hu1 hat1 hR'
  go_enter Tryz.func172, Tryz.ntmps172
  go_upto_region 1 with fail
  refine (?_ : Code.wp _ _ _ _ (w.alloc (.cells #[.int .i64 X.h.turn, .int .i64 X.h.area, .int .i64 X.h.place, .int .i64 X.h.number] 184)))
  go_wp2
  go_ret3
  rw [HR.out]
  exact ⟨HAT.out.dsk, HAT.out.upd, rfl⟩
 ·have HGET : RowKit.Hid (∀ W D' pl, WhAt w p X.h F D' W → D'.Ok 1099511627774 → 0 ≤ pl ∧ pl ≤ 1099511627776 → Calls Tryz.prog 171 #[.int .i64 pl, .pointer (some ⟨bx, 0, none⟩)] W fun e w' => e = .returned (.tuple #[.agg (bcells (D'.reads (atF X.h.area pl))).toArray, .int .i64 (D'.callE (atF X.h.area pl) false)]) ∧ WhAt w p X.h F (D'.callD (atF X.h.area pl) false) w' ∧ Upd F W w') := Lib.hid (fun W D' pl hat hdk hpl =>
   (get_any W (hlg.kept hat.upd (fun k hk => hFG k hk)) hok ((hat.upd.block _ hbxl hFb).trans hbx) hat.dsk hdk (fun k hk => hFG k hk) hFb hpl).mono (by
    rintro e w' ⟨rfl, h1, h2⟩
    exact ⟨rfl, hat.read h1 h2 hFL, h2⟩))
  have HR := Lib.hid hR; have HAT := Lib.hid hat1; have HOK := Lib.hid hdok; have HFL := Lib.hid hFL; have HL0 := Lib.hid hl0
  obtain ⟨w1, hw1⟩ : ∃ w1, w1 = w.alloc (.cells #[.int .i64 X.h.turn, .int .i64 X.h.area, .int .i64 X.h.place, .int .i64 X.h.number] 184) := ⟨_, rfl⟩
  rw [← hw1] at HAT
  have hne0 : (left == 0) = false := by simpa using hl0
  clear hlg hok hbx hD hdok hFG hFb hFL hbxl hR hu1 hat1
  go_enter Tryz.func172, Tryz.ntmps172
  go_upto_region 1 with fail
  refine (?_ : Code.wp _ _ _ _ (w.alloc (.cells #[.int .i64 X.h.turn, .int .i64 X.h.area, .int .i64 X.h.place, .int .i64 X.h.number] 184)))
  rw [← hw1]
  clear hw1
  go_upto_region 6 with fail
  go_loopg [15, 16, 17, 18] 1001 (fun gk b turn many kv wr => ∃ (kk : Nat) (Dc : Dk), kk ≤ 1000 ∧ gk = 1001 - kk ∧ kv = .int .i64 kk ∧ Dc.Ok (N + kk) ∧ WhAt w p X.h F Dc wr ∧ LoopR w R X.h number place left snap kk b turn many wr Dc)
  case atStart => exact ⟨0, D, by omega, rfl, rfl, HOK.out, HAT.out, .inl ⟨rfl, rfl, rfl, rfl, HR.out⟩⟩
  case round =>
   obtain ⟨kk, Dc, hkk, rfl, rfl, hdc, hat, hlr⟩ := hrel
   obtain ⟨m, rfl, hmore, hm1⟩ := hlr.more
   have HLR := Lib.hid hlr; have HA := Lib.hid hat; have HDC := Lib.hid hdc
   clear hlr hat hdc HAT HOK HR
   rcases hmore with hlt | ⟨heq, bs, g, n, rfl, hRe, hbuf⟩
   rotate_left
   ·have hnl : ¬ (kk : Int) < m := by omega
    have HRE := Lib.hid hRe; have HBUF := Lib.hid hbuf
    clear hRe hbuf heq
    go_wp2
    go_ret3
    rw [HRE.out]
    have hb := HBUF.out
    refine ⟨HA.out.dsk, HA.out.upd, _, rfl, ?_, hb.byte, by rw [hb.len]; exact hb.short⟩
    exact own_buf hb
   ·go_wp2_with (go_at_call 171; fail)
    refine (HGET.out _ Dc (place + kk) HA.out (HDC.out.mono (by omega)) (by omega)).mono ?_
    rintro e w3 ⟨rfl, hat3, hu3⟩
    have hsb := reads_blk (HDC.out.mono (show N + kk ≤ 1099511627774 by omega)) (atF X.h.area (place + kk))
    have hcz : kk = 0 → LoopR w R X.h number place left snap 0 u15 u16 (.int .i64 m) wr Dc := fun e => by have := HLR.out; rw [e] at this; exact this
    have hfail := fun he => HLR.out.fails rfl hlt HL0.out he
    have hcont := fun h1 he => HLR.out.cont rfl hlt h1 he
    obtain ⟨s, hs⟩ : ∃ s, s = Dc.reads (atF X.h.area (place + kk)) := ⟨_, rfl⟩
    obtain ⟨E, hE⟩ : ∃ E, E = Dc.callE (atF X.h.area (place + kk)) false := ⟨_, rfl⟩
    obtain ⟨D2, hD2⟩ : ∃ D2, D2 = Dc.callD (atF X.h.area (place + kk)) false := ⟨_, rfl⟩
    have hd2 : D2.Ok (N + (kk + 1)) := by rw [hD2]; exact Dk.Ok.mono (HDC.out.callD _ _) (by omega)
    rw [← hs] at hsb hcont ⊢
    rw [← hE] at hfail hcont ⊢
    rw [← hD2] at hfail hcont hat3
    have hsl := hsb.1
    obtain ⟨f1, f2, f3⟩ := fresh56 w3 s hsl
    have HIS : RowKit.Hid ((Tryz.prog.info? 48).map (·.size) = some (bcells s).length) := Lib.hid (by rw [Tryz.info56p]; simp [bcells, hsl])
    have H1B := Lib.hid (all_oneCell_toArray (bcells_one s))
    have F1 := Lib.hid f1; have HSB := Lib.hid f2; have HU3 := Lib.hid hu3; have HSL := Lib.hid hsb; have HFAIL := Lib.hid hfail; have HCONT := Lib.hid hcont; have HCZ := Lib.hid hcz; have HD2 := Lib.hid hd2
    have HE := Lib.hid hE; have HS := Lib.hid hs; have HDD := Lib.hid hD2
    have HBX3 := Lib.hid hat3.box
    have HU34 := Lib.hid (hu3.trans (f3.mono (fun _ _ e => e.elim)))
    have HA4 := Lib.hid (hat3.kept f3 (fun _ e => e.elim) HFL.out)
    clear f1 f2 f3 hsl hsb hu3 hfail hcont hcz hd2 hE hs hD2 hat3 HLR HDC HA
    simp only []
    iterate 13 go_step
    refine (?_ : wpList _ _ _ _ _ (w3.alloc (.cells (bcells zblk).toArray 48)))
    refine wpList_store_mid rfl 48 (.tmp 19) (.tmp 37) rfl w3.heap.size 0 (bcells s).toArray rfl rfl F1.out (by rw [HIS.out]; simp) H1B.out ?_
    obtain ⟨w4, hw4⟩ : ∃ w4, w4 = (w3.alloc (.cells (bcells zblk).toArray 48)).setCells w3.heap.size 0 (bcells s) := ⟨_, rfl⟩
    rw [← hw4] at HA4 HSB HU34
    rw [show (bcells s).toArray.toList = bcells s from rfl, ← hw4]
    clear hw4 F1 H1B
    obtain ⟨gs, hgs⟩ : ∃ gs, gs = w3.heap.size := ⟨_, rfl⟩
    rw [← hgs] at HSB ⊢
    have hgw : w.heap.size < gs := by rw [hgs]; exact Nat.lt_of_lt_of_le (lt_of_heap HBX3.out) (Nat.le_refl _)
    have HGR : RowKit.Hid (wr.heap.size ≤ gs) := Lib.hid (by rw [hgs]; exact HU3.out.size)
    clear hgs
    by_cases hE0 : E = 0
    rotate_left
    ·have hEb : (E != 0) = true := by simpa using hE0
     have HRE := Lib.hid (HFAIL.out (by simpa using hE0))
     clear hE0
     go_wp2
     go_ret3
     rw [HRE.out]
     exact ⟨HA4.out.dsk, HA4.out.upd, rfl⟩
    ·subst hE0
     have h16 := slice_16 gs
     go_upto_if 44 with fail
     go_cut [15, 16, 17, 21, 22, 23] from 26 to 94 (fun b turn many own _ _ wx => ∃ (t : Int) (n : Nat) (bs : List Int) (g o ml : Nat), b = .slice (some ⟨g, 0, none⟩) n n ∧ turn = .int .i64 t ∧ many = .int .i64 (secsN n) ∧ own = .slice (some ⟨gs, o, none⟩) ml ml ∧ (o + ml = 64 ∧ o ≤ 20) ∧ (1 ≤ t ∧ t ≤ 4294967295) ∧ kk < secsN n ∧ BufAt w wx g n bs ∧ g ≠ gs ∧ wx.heap[gs]? = some (.cells (bcells s).toArray 48 (0, 0)) ∧ WhAt w p X.h F D2 wx ∧ Cont R X.h number place left snap kk t n bs s o D2)
     case first =>
      rcases Nat.eq_zero_or_pos kk with hk0 | hk1
      ·subst hk0
       rcases HCZ.out rfl with ⟨_, rfl, rfl, hm1', hRw⟩ | ⟨hx, _⟩
       rotate_left
       ·omega
       obtain rfl : m = 1 := by injection hm1'
       have e0 : place + ((0 : Nat) : Int) = place := by omega
       have hE' : Dc.callE (atF X.h.area place) false = 0 := by have := HE.out; rw [e0] at this; exact this.symm
       have hS' : Dc.reads (atF X.h.area place) = s := by have := HS.out; rw [e0] at this; exact this.symm
       have hD' : Dc.callD (atF X.h.area place) false = D2 := by have := HDD.out; rw [e0] at this; exact this.symm
       obtain ⟨hno, hyes⟩ := cont_zero hRw HL0.out hE'
       rw [hS', hD'] at hno hyes
       have hsl := HSL.out.1
       obtain ⟨a0, a1, a2, a3, r0, hs4, hbe⟩ := split4 (s := s) (by omega)
       obtain ⟨n0, n1, n2, n3, r1, hn4, hbn⟩ := split4 (s := s.drop 16) (by simp; omega)
       have hBs : Bytes s := HSL.out.2
       have hB0 : Bytes [a0, a1, a2, a3] := fun x hx => hBs x (by rw [hs4]; simp at hx; rcases hx with rfl | rfl | rfl | rfl <;> simp)
       have hB1 : Bytes [n0, n1, n2, n3] := fun x hx => hBs x (List.mem_of_mem_drop (i := 16) (by rw [hn4]; simp at hx; rcases hx with rfl | rfl | rfl | rfl <;> simp))
       have hTb := be4_bound hB0; have hZb := be4_bound hB1
       have hK0 : ∀ W rr, Rd W rr s → Calls Tryz.prog 193 #[.pointer (some ⟨rr, 0, none⟩)] W fun e w' => e = .returned (.int .u32 (startT s)) ∧ Upd (fun k => k = rr) W w' := fun W rr hr => by
        rw [show startT s = be4 a0 a1 a2 a3 4 from hbe]
        refine (u32_any W (by rw [hs4] at hr; exact hr) hB0).mono ?_
        rintro e w' ⟨rfl, _, h2⟩
        exact ⟨rfl, h2⟩
       have hK1 : ∀ W rr, Rd W rr (s.drop 16) → Calls Tryz.prog 193 #[.pointer (some ⟨rr, 0, none⟩)] W fun e w' => e = .returned (.int .u32 (startN s)) ∧ Upd (fun k => k = rr) W w' := fun W rr hr => by
        rw [show startN s = be4 n0 n1 n2 n3 4 from hbn]
        refine (u32_any W (by rw [hn4] at hr; exact hr) hB1).mono ?_
        rintro e w' ⟨rfl, _, h2⟩
        exact ⟨rfl, h2⟩
       rw [← show startT s = be4 a0 a1 a2 a3 4 from hbe] at hTb
       rw [← show startN s = be4 n0 n1 n2 n3 4 from hbn] at hZb
       unfold Starts at hno hyes
       have hin0 : BytesIn w4 (.slice (some ⟨gs, 0, none⟩) 64 64) s := by simpa using bytesIn_arr 0 hsl (by omega) HSB.out
       have hin1 : BytesIn w4 (.slice (some ⟨gs, 16, none⟩) 48 48) (s.drop 16) := bytesIn_arr 16 hsl (by omega) HSB.out
       obtain ⟨T, hT⟩ : ∃ T, T = startT s := ⟨_, rfl⟩
       rw [← hT] at hno hyes hK0 hTb
       obtain ⟨Zn, hZ⟩ := Int.eq_ofNat_of_zero_le hZb.1
       rw [hZ] at hno hyes hK1 hZb
       simp only [Int.toNat_natCast] at hno hyes
       have hne1 : s.drop 16 ≠ [] := by intro e; have := congrArg List.length e; simp at this; omega
       have hne0' : s ≠ [] := by rintro rfl; simp at hsl
       have v0 : IntKind.i64.wrap T = T := by rw [IntKind.wrap_i64]; omega
       have v1 : IntKind.i64.wrap (Zn : Int) = Zn := by rw [IntKind.wrap_i64]; omega
       have hall := slice_all gs
       have HNO := Lib.hid hno; have HYES := Lib.hid hyes; have HK0 := Lib.hid hK0; have HK1 := Lib.hid hK1; have HIN0 := Lib.hid hin0; have HIN1 := Lib.hid hin1; have HNE1 := Lib.hid hne1; have HNE0 := Lib.hid hne0'; have HSN := Lib.hid hsl
       clear hno hyes hK0 hK1 hin0 hin1 hne1 hne0' hsl hs4 hn4 hbe hbn hB0 hB1 hBs hT hZ hE' hS' hD' hRw e0 hm1' HCZ HCONT HFAIL HS HE HDD
       go_wp2_with (go_at_call 88; fail)
       refine (oread_any w4 HIN0.out HNE0.out (by have := HSN.out; omega)).mono ?_
       rintro e w5 ⟨rfl, hr5, hu5⟩
       have HR5 := Lib.hid hr5; have HU5 := Lib.hid hu5
       clear hr5 hu5 hall
       simp only []
       go_wp2_with (go_at_call 193; fail)
       refine (HK0.out _ _ HR5.out).mono ?_
       rintro e w6 ⟨rfl, hu6⟩
       have HU6 : RowKit.Hid (Upd (fun _ => False) w4 w6) := Lib.hid (HU5.out.step hu6 (fun k hk e => by omega))
       clear hu6 HR5 HU5
       simp only []
       go_wp2_with (go_at_call 88; fail)
       refine (oread_any w6 (HIN1.out.kept HU6.out) HNE1.out (by have := HSN.out; simp; omega)).mono ?_
       rintro e w7 ⟨rfl, hr7, hu7⟩
       have HR7 := Lib.hid hr7; have HU7 := Lib.hid hu7
       clear hr7 hu7
       simp only []
       go_wp2_with (go_at_call 193; fail)
       refine (HK1.out _ _ HR7.out).mono ?_
       rintro e w8 ⟨rfl, hu8⟩
       have HU8 : RowKit.Hid (Upd (fun _ => False) w4 w8) := Lib.hid ((HU6.out.trans HU7.out).step hu8 (fun k hk e => by have := HU6.out.size; omega))
       have HA8 := Lib.hid (HA4.out.kept HU8.out (fun _ e => e.elim) HFL.out)
       have HSB8 := Lib.hid ((HU8.out.block _ (lt_of_heap HSB.out) (fun e => e)).trans HSB.out)
       clear hu8 HR7 HU7 HU6 HK0 HK1 HIN0 HIN1 HNE0 HNE1 HSB HA4
       simp only []
       have cc : w8.cell? ⟨w.heap.size, 0, none⟩ = some (.int .i64 X.h.turn) := by simp [World.cell?, HA8.out.box]
       go_upto_region 16 with fail
       by_cases h1 : T < 1
       ·have HRE := Lib.hid (HNO.out (fun q => by omega))
        go_wp2
        go_ret3
        rw [HRE.out]
        exact ⟨HA8.out.dsk, HA8.out.upd, rfl⟩
       ·by_cases h2 : T > X.h.turn
        ·have HRE := Lib.hid (HNO.out (fun q => by omega))
         go_wp2
         go_ret3
         rw [HRE.out]
         exact ⟨HA8.out.dsk, HA8.out.upd, rfl⟩
        ·by_cases h3 : (Zn : Int) > 40000
         ·have HRE := Lib.hid (HNO.out (fun q => by omega))
          go_wp2
          go_ret3
          rw [HRE.out]
          exact ⟨HA8.out.dsk, HA8.out.upd, rfl⟩
         ·have HSEC := Lib.hid (secsI_nat (n := Zn) (by omega))
          by_cases h4 : (secsN Zn : Int) > left
          ·have HRE := Lib.hid (HNO.out (fun q => by omega))
           go_wp2_with (go_at_call 113; refine (sectors_any _ _).mono ?_; rintro e w9 ⟨rfl, rfl⟩; rw [HSEC.out])
           go_ret3
           rw [HRE.out]
           exact ⟨HA8.out.dsk, HA8.out.upd, rfl⟩
          ·have HYE := Lib.hid (HYES.out ⟨by omega, by omega, by omega, by omega⟩)
           clear HYES HNO
           have HYES := HYE
           clear HYE
           have HSP : RowKit.Hid (0 < secsN Zn) := Lib.hid (by have := secsN_pos Zn; omega)
           have hu8s : w.heap.size < w8.heap.size := lt_of_heap HA8.out.box
           have hg8 : gs < w8.heap.size := lt_of_heap HSB8.out
           have hT1 : 1 ≤ T ∧ T ≤ 4294967295 := by omega
           have hZ4 : Zn ≤ 40000 := by omega
           have hmk : ∀ W, (Instr.makeSlice 39 (.int .u32 (Zn : Int)) (.int .u32 (Zn : Int))).run Tryz.prog W = .ok (.slice (some ⟨W.heap.size, 0, none⟩) Zn Zn) (W.alloc (.cells (madeCells #[.int .u8 0] Zn) 5)) := fun W => run_make_row' (P := Tryz.prog) 39 5 (.int .u8 0) 1 Tryz.underlying39 Tryz.info5p rfl .u32 .u32 Zn (by omega) (by omega) W
           have h20 := slice_own4 gs
           have hA : Upd (fun _ => False) w8 w8.drew := (Upd.refl _ w8).drew
           go_wp2_with (first | (go_at_call 113; refine (sectors_any _ _).mono ?_; rintro e w9 ⟨rfl, rfl⟩; rw [HSEC.out]))
           refine wp_region_G 9 (fun W => Upd (fun _ => False) w8 W) [false, false, false, false, false, false, false, false, false, false] rfl (by kernel_rfl) ?_
           refine wpG_takeT (i := 0) (v := .int .u32 Zn) rfl (fun L hc h => (hc.waits (n := 9) (i := 8) (by kernel_rfl) (hc.waits (n := 8) (i := 7) (by kernel_rfl) (hc.waits (n := 7) (i := 1) (by kernel_rfl) (hc.waits (n := 1) (i := 0) (by kernel_rfl) h))))) (by kernel_rfl) (fun _ _ _ h => h) hA (.inl ⟨rfl, fun w5 q1 => ?_⟩) ?_
           ·go_simp
           simp only [Act.put, List.setIfInBounds_toArray, List.set]
           refine wpG_takeT (i := 2) (v := .int .u32 Zn) rfl (fun L hc h => (hc.waits (n := 9) (i := 8) (by kernel_rfl) (hc.waits (n := 8) (i := 4) (by kernel_rfl) (hc.waits (n := 4) (i := 3) (by kernel_rfl) (hc.waits (n := 3) (i := 2) (by kernel_rfl) h))))) (by kernel_rfl) (fun _ _ _ h => h) hA (.inl ⟨rfl, fun w5 q1 => ?_⟩) ?_
           ·go_simp
           simp only [Act.put, List.setIfInBounds_toArray, List.set]
           refine wpG_takeT (i := 3) (v := .int .i64 Zn) rfl (fun L hc h => (hc.waits (n := 9) (i := 8) (by kernel_rfl) (hc.waits (n := 8) (i := 4) (by kernel_rfl) (hc.waits (n := 4) (i := 3) (by kernel_rfl) h)))) (by kernel_rfl) (fun _ _ _ h => h) hA (.inl ⟨rfl, fun w5 q1 => ?_⟩) ?_
           ·go_simp
           simp only [Act.put, List.setIfInBounds_toArray, List.set]
           refine wpG_takeT (i := 5) (v := .slice (some ⟨gs, 16, none⟩) 48 48) rfl (fun L hc h => (hc.waits (n := 9) (i := 6) (by kernel_rfl) (hc.waits (n := 6) (i := 5) (by kernel_rfl) h))) (by kernel_rfl) (fun _ _ _ h => h) hA (.inl ⟨rfl, fun w5 q1 => ?_⟩) ?_
           ·go_simp
           simp only [Act.put, List.setIfInBounds_toArray, List.set]
           refine wpG_takeT (i := 6) (v := .slice (some ⟨gs, 20, none⟩) 44 44) rfl (fun L hc h => (hc.waits (n := 9) (i := 6) (by kernel_rfl) h)) (by kernel_rfl) (fun _ _ _ h => h) hA (.inl ⟨rfl, fun w5 q1 => ?_⟩) ?_
           ·go_simp
           simp only [Act.put, List.setIfInBounds_toArray, List.set]
           refine wpG_do2 (i := 1) (j := 4) rfl rfl (by kernel_rfl) rfl rfl (fun K hK => ?_) (fun K hK => ?_)
           ·have HKK := Lib.hid hK
            clear hK
            go_step
            have hA9 : Upd (fun _ => False) w8 (w8.drew.alloc (.cells (madeCells #[.int .u8 0] Zn) 5)) := hA.alloc _
            refine HKK.out _ _ hA9 ?_
            clear HKK
            simp only [List.setIfInBounds_toArray, List.set]
            refine wpG_do (i := 4) rfl (by kernel_rfl) rfl (fun K hK => ?_)
            have HKK := Lib.hid hK
            clear hK
            go_step
            refine (sectors_any _ _).mono ?_
            rintro e wz ⟨rfl, rfl⟩
            rw [HSEC.out]
            simp only []
            refine HKK.out _ _ hA9 ?_
            clear HKK
            simp only [List.setIfInBounds_toArray, List.set]
            refine wpG_do (i := 7) rfl (by kernel_rfl) rfl (fun K hK => ?_)
            have HKK := Lib.hid hK
            clear hK
            go_step
            refine HKK.out _ _ hA9 ?_
            clear HKK
            simp only [List.setIfInBounds_toArray, List.set]
            refine wpG_do (i := 8) rfl (by kernel_rfl) rfl (fun K hK => ?_)
            have HKK := Lib.hid hK
            clear hK
            go_step
            refine HKK.out _ _ hA9 ?_
            clear HKK
            simp only [List.setIfInBounds_toArray, List.set]
            refine wpG_tail_lit (k := 9) rfl rfl (by kernel_rfl) ?_
            simp only [List.drop]
            have HB9 : RowKit.Hid ((w8.drew.alloc (.cells (madeCells #[.int .u8 0] Zn) 5)).heap[w8.heap.size]? = some (.cells (bcells (List.replicate Zn 0)).toArray 5 (0, 0))) := Lib.hid (by rw [← made_bytes]; exact alloc_at rfl)
            go_wp2
            go_meet
            case rel =>
             have hu9 := hA9
             exact ⟨T, Zn, List.replicate Zn 0, _, 20, 44, rfl, rfl, rfl, rfl, ⟨rfl, by omega⟩, hT1, HSP.out, ⟨by simp, hZ4, Bytes.zeros _, HB9.out, by have := hu8s; omega⟩, by have := hg8; omega, (hu9.block _ (lt_of_heap HSB8.out) (fun e => e)).trans HSB8.out, HA8.out.kept hu9 (fun _ e => e.elim) HFL.out, HYES.out⟩
           ·have HKK := Lib.hid hK
            clear hK
            go_step
            refine (sectors_any _ _).mono ?_
            rintro e wz ⟨rfl, rfl⟩
            rw [HSEC.out]
            simp only []
            refine HKK.out _ _ hA ?_
            clear HKK
            simp only [List.setIfInBounds_toArray, List.set]
            refine wpG_do (i := 1) rfl (by kernel_rfl) rfl (fun K hK => ?_)
            have HKK := Lib.hid hK
            clear hK
            go_step
            have hA9 : Upd (fun _ => False) w8 (w8.drew.alloc (.cells (madeCells #[.int .u8 0] Zn) 5)) := hA.alloc _
            refine HKK.out _ _ hA9 ?_
            clear HKK
            simp only [List.setIfInBounds_toArray, List.set]
            refine wpG_do (i := 7) rfl (by kernel_rfl) rfl (fun K hK => ?_)
            have HKK := Lib.hid hK
            clear hK
            go_step
            refine HKK.out _ _ hA9 ?_
            clear HKK
            simp only [List.setIfInBounds_toArray, List.set]
            refine wpG_do (i := 8) rfl (by kernel_rfl) rfl (fun K hK => ?_)
            have HKK := Lib.hid hK
            clear hK
            go_step
            refine HKK.out _ _ hA9 ?_
            clear HKK
            simp only [List.setIfInBounds_toArray, List.set]
            refine wpG_tail_lit (k := 9) rfl rfl (by kernel_rfl) ?_
            simp only [List.drop]
            have HB9 : RowKit.Hid ((w8.drew.alloc (.cells (madeCells #[.int .u8 0] Zn) 5)).heap[w8.heap.size]? = some (.cells (bcells (List.replicate Zn 0)).toArray 5 (0, 0))) := Lib.hid (by rw [← made_bytes]; exact alloc_at rfl)
            go_wp2
            go_meet
            case rel =>
             have hu9 := hA9
             exact ⟨T, Zn, List.replicate Zn 0, _, 20, 44, rfl, rfl, rfl, rfl, ⟨rfl, by omega⟩, hT1, HSP.out, ⟨by simp, hZ4, Bytes.zeros _, HB9.out, by have := hu8s; omega⟩, by have := hg8; omega, (hu9.block _ (lt_of_heap HSB8.out) (fun e => e)).trans HSB8.out, HA8.out.kept hu9 (fun _ e => e.elim) HFL.out, HYES.out⟩
      ·have hkb : ((kk : Int) == 0) = false := by simp; omega
       obtain ⟨t, n, bs, g, rfl, rfl, hmn, ht, hbuf, hc⟩ := HCONT.out hk1 rfl
       have hgg : g ≠ gs := by have := lt_of_heap hbuf.blk; have := HGR.out; omega
       have HMN := Lib.hid hmn; have HBUF := Lib.hid hbuf; have HC := Lib.hid hc
       clear hmn hbuf hc
       go_wp2
       go_meet
       case rel => exact ⟨t, n, bs, g, 16, 48, rfl, rfl, by rw [HMN.out], rfl, ⟨rfl, by omega⟩, ht, by have := HMN.out; omega, HBUF.out.kept HU34.out (fun e => by have := HFL.out _ e; have := HBUF.out.gt; omega), hgg, HSB.out, HA4.out, HC.out⟩
     case rest =>
      obtain ⟨t, n, bs, g, o, ml, rfl, rfl, rfl, rfl, ⟨homl, ho20⟩, ht, hks, hbuf, hgg, hsb, hatx, hc⟩ := hcut
      have HBUF := Lib.hid hbuf; have HSBX := Lib.hid hsb; have HAX := Lib.hid hatx; have HC := Lib.hid hc; have HGG := Lib.hid hgg
      have hn4 : n ≤ 40000 := hbuf.short
      have hofn : 48 * kk - 4 ≤ n := by unfold secsN at hks; omega
      have hof3 : 48 * kk - 4 = 0 ∨ 48 * kk - 4 < n := by unfold secsN at hks; omega
      clear hbuf hsb hatx hc hgg HBX3 HCZ HCONT HFAIL HS HE HDD HSB HA4 HU34 HU3 h16
      obtain ⟨off, hoff⟩ : ∃ off, off = 48 * kk - 4 := ⟨_, rfl⟩
      rw [← hoff] at hofn hof3
      have HOFF := Lib.hid hoff
      have hlen48 : ((s.drop o).take (n - off)).length = Nat.min ml (n - off) := by have := HSL.out.1; simp only [List.length_take, List.length_drop]; rw [show s.length - o = ml by omega]; exact Nat.min_comm _ _
      have hcs : ∀ j v, (bcells ((s.drop o).take (n - off)))[j]? = some v → wc.cell? ((⟨gs, o, none⟩ : Addr).add j) = some v := by
       intro j v hj
       rw [Addr.add_mid, cell_of_heap HSBX.out, List.getElem?_toArray]
       have e : bcells ((s.drop o).take (n - off)) = ((bcells s).drop o).take (n - off) := by simp [bcells]
       rw [e] at hj
       have hj2 : j < n - off := by
        have := (List.getElem?_eq_some_iff.1 hj).1
        simp only [List.length_take] at this
        omega
       rw [List.getElem?_take_of_lt hj2, List.getElem?_drop] at hj
       exact hj
      have hfit : off + (bcells ((s.drop o).take (n - off))).length ≤ (bcells bs).length := by
       rw [bcells_length, bcells_length, hlen48, HBUF.out.len]
       have h5 : Nat.min ml (n - off) ≤ n - off := Nat.min_le_right ml (n - off)
       show off + Nat.min ml (n - off) ≤ n
       omega
      have hone : ∀ v ∈ bcells ((s.drop o).take (n - off)), v.oneCell' = true := bcells_one _
      obtain ⟨cs, hcs0⟩ : ∃ cs, cs = bcells ((s.drop o).take (n - off)) := ⟨_, rfl⟩
      have hsp : splice (bcells bs) off cs = bcells (overF bs off (s.drop o)) := by
       rw [hcs0, ← HBUF.out.len]; exact splice_over (by rw [HBUF.out.len]; exact hofn)
      have hcl : cs.length = Nat.min ml (n - off) := by rw [hcs0, bcells_length]; exact hlen48
      rw [← hcs0] at hcs hfit hone
      have HCS := Lib.hid hcs; have HFIT := Lib.hid hfit; have HONE := Lib.hid hone; have HSPL := Lib.hid hsp; have HCL := Lib.hid hcl
      clear hcs hfit hone hsp hcl hcs0 hlen48 hoff
      have hsf := slice_from g n n off hofn (Nat.le_refl _) hof3
      iterate 18 go_step
      rw [show max (48 * (kk : Int) - 4) 0 = (off : Int) by rw [HOFF.out]; omega]
      iterate 6 go_step
      refine wpList_copy_upd rfl (.tmp 84) (.tmp 85) 39 39 rfl 5 Tryz.underlying39 (by kernel_rfl) (n - off) (n - off) ml ml g off ⟨gs, o, none⟩ rfl rfl (bcells bs) 5 HBUF.out.blk cs HCL.out HCS.out HFIT.out HONE.out ?_
      intro wd hwd hud
      rw [HSPL.out] at hwd
      have hnb : Bytes (overF bs off (s.drop o)) := bytes_over HBUF.out.byte (bytes_drop HSL.out.2)
      have hc := HC.out
      unfold Cont at hc
      rw [← HOFF.out] at hc
      obtain ⟨nb, hnb0⟩ : ∃ nb, nb = overF bs off (s.drop o) := ⟨_, rfl⟩
      rw [← hnb0] at hc hnb hwd
      obtain ⟨hc0, hc1, hc2⟩ := hc
      have hbd : BufAt w wd g n nb := ⟨hc0, hn4, hnb, hwd, HBUF.out.gt⟩
      have HBD := Lib.hid hbd; have HC1 := Lib.hid hc1; have HC2 := Lib.hid hc2
      have HSBD := Lib.hid ((hud.block _ (lt_of_heap HSBX.out) (fun e => HGG.out e.symm)).trans HSBX.out)
      have HAD := Lib.hid (HAX.out.kept hud (fun k e => by rw [e]; exact HBUF.out.gt) HFL.out)
      have hbi : BytesIn wd (.slice (some ⟨g, 0, none⟩) n n) nb := (own_buf hbd).bytesIn
      have HBI := Lib.hid hbi
      have HSP2 : RowKit.Hid ((Nat.min ml (n - off)) = cs.length) := Lib.hid HCL.out.symm
      have hnl : kk < secsN nb.length := by rw [hc0]; exact hks
      have hnl4 : nb.length ≤ 40000 := by rw [hc0]; exact hn4
      have HNL := Lib.hid hnl
      clear hwd hud hnb hnb0 hc0 hc1 hc2 hbd hbi hnl HBUF HSBX HAX HC HCS HFIT HONE HSPL hsf HGG HCL
      go_upto_region 20 with fail
      have hA : Upd (fun _ => False) wd wd.drew := (Upd.refl _ wd).drew
      refine wp_region_G 7 (fun W => Upd (fun _ => False) wd W) [false, false, false, false, false, false, false, false] rfl (by kernel_rfl) ?_
      refine wpG_takeT (i := 0) (v := .int .i64 t) rfl (fun L hc h => (hc.waits (n := 7) (i := 5) (by kernel_rfl) (hc.waits (n := 5) (i := 0) (by kernel_rfl) h))) (by kernel_rfl) (fun _ _ _ h => h) hA (.inl ⟨rfl, fun w5 q1 => ?_⟩) ?_
      ·go_simp
      simp only [Act.put, List.setIfInBounds_toArray, List.set]
      refine wpG_takeT (i := 1) (v := .int .i64 number) rfl (fun L hc h => (hc.waits (n := 7) (i := 5) (by kernel_rfl) (hc.waits (n := 5) (i := 1) (by kernel_rfl) h))) (by kernel_rfl) (fun _ _ _ h => h) hA (.inl ⟨rfl, fun w5 q1 => ?_⟩) ?_
      ·go_simp
      simp only [Act.put, List.setIfInBounds_toArray, List.set]
      refine wpG_takeT (i := 2) (v := .bool snap) rfl (fun L hc h => (hc.waits (n := 7) (i := 5) (by kernel_rfl) (hc.waits (n := 5) (i := 2) (by kernel_rfl) h))) (by kernel_rfl) (fun _ _ _ h => h) hA (.inl ⟨rfl, fun w5 q1 => ?_⟩) ?_
      ·go_simp
      simp only [Act.put, List.setIfInBounds_toArray, List.set]
      refine wpG_takeT (i := 3) (v := .slice (some ⟨g, 0, none⟩) n n) rfl (fun L hc h => (hc.waits (n := 7) (i := 5) (by kernel_rfl) (hc.waits (n := 5) (i := 3) (by kernel_rfl) h))) (by kernel_rfl) (fun _ _ _ h => h) hA (.inl ⟨rfl, fun w5 q1 => ?_⟩) ?_
      ·go_simp
      simp only [Act.put, List.setIfInBounds_toArray, List.set]
      refine wpG_takeT (i := 4) (v := .int .i64 kk) rfl (fun L hc h => (hc.waits (n := 7) (i := 5) (by kernel_rfl) (hc.waits (n := 5) (i := 4) (by kernel_rfl) h))) (by kernel_rfl) (fun _ _ _ h => h) hA (.inl ⟨rfl, fun w5 q1 => ?_⟩) ?_
      ·go_simp
      simp only [Act.put, List.setIfInBounds_toArray, List.set]
      refine wpG_takeT (i := 6) (v := .agg (bcells s).toArray) rfl (fun L hc h => (hc.waits (n := 7) (i := 6) (by kernel_rfl) h)) (by kernel_rfl) (fun _ _ _ h => h) hA (.inl ⟨rfl, fun w5 q1 => ?_⟩) ?_
      ·refine run_load_mid' rfl rfl (bcells s) ?_ Tryz.underlying48 rfl HIS.out
       exact rangeAt_block ((q1.block _ (lt_of_heap HSBD.out) (fun e => e)).trans HSBD.out)
      simp only [Act.put, List.setIfInBounds_toArray, List.set]
      refine wpG_doIf (i := 5) rfl (by kernel_rfl) rfl (fun K hK => ?_)
      have HKK := Lib.hid hK
      clear hK
      go_step
      refine (cut_any (b := nb) (k := kk) _ (by omega) hnum (HBI.out.kept hA) HBD.out.byte hnl4 HNL.out).mono ?_
      rintro e w9 ⟨rfl, hu9⟩
      have hA2 : Upd (fun _ => False) wd w9 := hA.trans hu9
      clear hA hu9
      simp only []
      refine HKK.out _ _ hA2 ?_
      clear HKK
      simp only [List.setIfInBounds_toArray, List.set]
      refine wpG_tail_lit (k := 7) rfl rfl (by kernel_rfl) ?_
      simp only [List.drop]
      refine wpList_exec rfl (run_exec_neq rfl rfl rfl (neqV _ _ (by rw [cutF_length, allF_len48]) HSL.out.1 _)) ?_
      by_cases hcs : cutF t number snap nb kk = s
      ·have HRE := Lib.hid (HC1.out hcs)
       have hq : (!(cutF t number snap nb kk == s)) = false := by simp [hcs]
       rw [hq]
       clear hcs hq
       go_wp2
       go_roundg (1001 - (kk + 1))
       case measure => omega
       case rel => exact ⟨kk + 1, D2, by omega, rfl, congrArg _ (by omega), HD2.out, HAD.out.kept hA2 (fun _ e => e.elim) HFL.out, .inr ⟨by omega, t, n, nb, g, rfl, rfl, rfl, by omega, ht, HRE.out, HBD.out.kept hA2 (fun e => e)⟩⟩
      ·have HRE := Lib.hid (HC2.out hcs)
       have hq : (!(cutF t number snap nb kk == s)) = true := by simp [hcs]
       rw [hq]
       have HAE := Lib.hid (HAD.out.kept hA2 (fun _ e => e.elim) HFL.out)
       clear hcs hq
       go_wp2
       go_ret3
       rw [HRE.out]
       exact ⟨HAE.out.dsk, HAE.out.upd, rfl⟩
theorem goD_some {hd : Hd} {number place t : Int} {snap : Bool} {b : List Int} : ∀ (m k : Nat) (c : List Int) (D : Dk), 0 < k → k + m = secsN c.length → (goD hd number place t snap m k c D).1 = some b → b.length = c.length ∧ (goD hd number place t snap m k c D).2.1 = 0
 | 0, k, c, D, _, _, hf => by
  unfold goD at hf ⊢
  injection hf with hf
  subst hf
  exact ⟨rfl, rfl⟩
 |m + 1, k, c, D, hk, hm, hf => by
  have hoff : 48 * k - 4 ≤ c.length := by unfold secsN at hm; omega
  have hlen := overF_length c (48 * k - 4) ((D.reads (atF hd.area (place + k))).drop 16) hoff
  unfold goD at hf ⊢
  split at hf
  ·rename_i h1
   split at hf
   ·rename_i h2
    rw [if_pos h1, if_pos h2]
    have := goD_some m (k + 1) _ _ (by omega) (by rw [hlen]; omega) hf
    rw [hlen] at this
    exact this
   ·cases hf
  ·cases hf
theorem goD_ok {hd : Hd} {number place t : Int} {snap : Bool} : ∀ (m k : Nat) (c : List Int) (D : Dk) (K : Nat), D.Ok K → (goD hd number place t snap m k c D).2.2.Ok (K + m)
 | 0, _, _, _, _, h => h
 |m + 1, k, c, D, K, h => by
  unfold goD
  split
  ·split
   ·exact Dk.Ok.mono (goD_ok m (k + 1) _ _ _ (h.callD _ _)) (by omega)
   ·exact Dk.Ok.mono (h.callD _ _) (by omega)
  ·exact Dk.Ok.mono (h.callD _ _) (by omega)
theorem wholeD_some {hd : Hd} {number place left : Int} {snap : Bool} {b : List Int} {D : Dk} (hf : (wholeD hd number place snap left D).1 = some b) : (wholeD hd number place snap left D).2.1 = 0 ∧ (secsN b.length : Int) ≤ left ∧ b.length ≤ 40000 := by
 unfold wholeD at hf ⊢
 split at hf
 ·cases hf
 ·rename_i h0
  split at hf
  ·rename_i h1
   split at hf
   ·rename_i h2
    split at hf
    ·rename_i h3
     rw [if_neg h0, if_pos h1, if_pos h2, if_pos h3]
     have hlen : (startB (D.reads (atF hd.area place))).length = (startN (D.reads (atF hd.area place))).toNat := by
      unfold startB; rw [overF_length _ _ _ (by omega)]; simp
     have hp := secsN_pos (startN (D.reads (atF hd.area place))).toNat
     obtain ⟨g1, g2⟩ := goD_some _ 1 _ _ (by omega) (by rw [hlen]; omega) hf
     rw [hlen] at g1
     have g3 := h2.2.2.1; have g4 := h2.2.2.2
     exact ⟨g2, by rw [g1]; exact g4, by omega⟩
    ·cases hf
   ·cases hf
  ·cases hf
theorem wholeD_ok {hd : Hd} {number place left : Int} {snap : Bool} {D : Dk} {K : Nat} (hl : left ≤ 1000) (h : D.Ok K) : (wholeD hd number place snap left D).2.2.Ok (K + 1000) := by
 unfold wholeD
 split
 ·exact Dk.Ok.mono h (by omega)
 ·split
  ·split
   ·rename_i h2
    split
    ·have h3 := h2.2.2.2
     exact Dk.Ok.mono (goD_ok _ _ _ _ _ (h.callD _ _)) (by omega)
    ·exact Dk.Ok.mono (h.callD _ _) (by omega)
   ·exact Dk.Ok.mono (h.callD _ _) (by omega)
  ·exact Dk.Ok.mono (h.callD _ _) (by omega)
theorem whole_use {q p bx : Nat} {Y : Lg} {G F : Nat → Prop} {D : Dk} {N : Nat} (w : World) (hlg : Log w q p Y G) (hok : Y.Ok) (hbx : w.heap[bx]? = some (.cells #[.pointer (some ⟨q, 0, none⟩)] 38 (0, 0))) (hD : Dsk w p D F) (hdok : D.Ok N) (hN : N ≤ 1099511620000)
  (hFG : ∀ k, G k → ¬ F k) (hFb : ¬ F bx) (hu : 0 ≤ Y.used ∧ Y.used ≤ Y.h.area) :
  Calls Tryz.prog 172 #[Y.h.val, .int .i64 (Y.h.number + Y.parts.length), .int .i64 (Y.h.place + Y.used), .bool (decide (Y.parts = [])), .int .i64 (Y.h.area - Y.used), .func (.func 171) #[] #[.pointer (some ⟨bx, 0, none⟩)]] w fun e w' =>
   ∃ v, e = .returned (.tuple #[v, .bool (wholeD Y.h (Y.h.number + Y.parts.length) (Y.h.place + Y.used) (decide (Y.parts = [])) (Y.h.area - Y.used) D).1.isSome, .int .i64 (wholeD Y.h (Y.h.number + Y.parts.length) (Y.h.place + Y.used) (decide (Y.parts = [])) (Y.h.area - Y.used) D).2.1]) ∧
    Log w' q p Y G ∧ Dsk w' p (wholeD Y.h (Y.h.number + Y.parts.length) (Y.h.place + Y.used) (decide (Y.parts = [])) (Y.h.area - Y.used) D).2.2 F ∧ Upd F w w' ∧
    ∀ b, (wholeD Y.h (Y.h.number + Y.parts.length) (Y.h.place + Y.used) (decide (Y.parts = [])) (Y.h.area - Y.used) D).1 = some b → OwnB w' w.heap.size v b ∧ Bytes b := by
 have h1 := hok.place; have h2 := hok.number; have h3 := hok.len; have h4 := hok.area
 refine (whole_any (number := Y.h.number + Y.parts.length) (place := Y.h.place + Y.used) (left := Y.h.area - Y.used) (snap := decide (Y.parts = [])) w hlg hok hbx hD hdok hN hFG hFb (by omega) (by omega) (by omega)).mono ?_
 rintro e w' ⟨g1, g2, g3⟩
 have hs := fun b => wholeD_some (b := b) (hd := Y.h) (number := Y.h.number + Y.parts.length) (place := Y.h.place + Y.used) (left := Y.h.area - Y.used) (snap := decide (Y.parts = [])) (D := D)
 generalize wholeD Y.h (Y.h.number + Y.parts.length) (Y.h.place + Y.used) (decide (Y.parts = [])) (Y.h.area - Y.used) D = R at *
 obtain ⟨ob, E, D'⟩ := R
 rcases ob with _ | b
 ·exact ⟨_, g3, hlg.kept g2 hFG, g1, g2, fun b hb => by cases hb⟩
 ·obtain ⟨v, rfl, hv1, hv2, _⟩ := g3
  have := (hs b rfl).1
  simp only at this
  subst this
  exact ⟨v, rfl, hlg.kept g2 hFG, g1, g2, fun c hc => by injection hc with hc; subst hc; exact ⟨hv1, hv2⟩⟩
structure FndAt (w : World) (q p : Nat) (X Y : Lg) (RES : List (List Int) × Int × Dk) (f : Nat) (Dc : Dk) (G F : Nat → Prop) (N : Nat) (W : World) : Prop where
 hd : Y.h = X.h
 brk : Y.broken = X.broken
 ok : Y.Ok
 used : Y.used = usedOf Y.parts
 fits : Y.used ≤ Y.h.area
 fuel : Y.h.area - Y.used < f ∧ f ≤ 1001
 cnt : (Y.parts.length : Int) ≤ Y.used
 res : foundD X.h f Y.parts Y.used Dc = RES
 log : ∃ G', Log W q p Y G' ∧ (∀ k, G' k → G k ∨ w.heap.size < k)
 dsk : Dsk W p Dc F
 dok : Dc.Ok (N + 1000 * (1001 - f))
 upd : Upd (fun k => G k ∨ F k) w W
 box : W.heap[w.heap.size]? = some (.cells #[.pointer (some ⟨q, 0, none⟩)] 38 (0, 0))
theorem found_none {hd : Hd} {f : Nat} {ps : List (List Int)} {u : Int} {D : Dk} (hf : 0 < f) (hw : (wholeD hd (hd.number + ps.length) (hd.place + u) (decide (ps = [])) (hd.area - u) D).1 = none) :
  foundD hd f ps u D = (ps, (wholeD hd (hd.number + ps.length) (hd.place + u) (decide (ps = [])) (hd.area - u) D).2) := by
 obtain ⟨f, rfl⟩ : ∃ g, f = g + 1 := ⟨f - 1, by omega⟩
 unfold foundD
 generalize wholeD hd (hd.number + ps.length) (hd.place + u) (decide (ps = [])) (hd.area - u) D = R at *
 obtain ⟨ob, E, D'⟩ := R
 simp only at hw
 subst hw
 rfl
theorem found_some {hd : Hd} {f : Nat} {ps : List (List Int)} {u : Int} {D : Dk} {b : List Int} (hw : (wholeD hd (hd.number + ps.length) (hd.place + u) (decide (ps = [])) (hd.area - u) D).1 = some b) :
  foundD hd (f + 1) ps u D = foundD hd f (ps ++ [b]) (u + secsN b.length) (wholeD hd (hd.number + ps.length) (hd.place + u) (decide (ps = [])) (hd.area - u) D).2.2 := by
 rw (occs := .pos [1]) [foundD]
 generalize wholeD hd (hd.number + ps.length) (hd.place + u) (decide (ps = [])) (hd.area - u) D = R at *
 obtain ⟨ob, E, D'⟩ := R
 simp only at hw
 subst hw
 rfl
theorem FndAt.more {w W W' : World} {q p : Nat} {X Y : Lg} {RES : List (List Int) × Int × Dk} {f : Nat} {Dc D' : Dk} {G F G2 : Nat → Prop} {N : Nat} {b : List Int} (h : FndAt w q p X Y RES f Dc G F N W)
  (hw : wholeD Y.h (Y.h.number + Y.parts.length) (Y.h.place + Y.used) (decide (Y.parts = [])) (Y.h.area - Y.used) Dc = (some b, 0, D')) (hb : Bytes b) (hlog : Log W' q p (Y.add b) G2) (hG2 : ∀ k, G2 k → G k ∨ w.heap.size < k) (hd : Dsk W' p D' F)
  (hu : Upd (fun k => G k ∨ F k) w W') (hbox : W'.heap[w.heap.size]? = some (.cells #[.pointer (some ⟨q, 0, none⟩)] 38 (0, 0))) : FndAt w q p X (Y.add b) RES (f - 1) D' G F N W' := by
 obtain ⟨h1, h2, h3⟩ := wholeD_some (b := b) (by rw [hw])
 have hf := h.fuel; have hpos := secsN_pos b.length; have hcnt := h.cnt; have hok := h.ok; have hfit := h.fits; have hus := hok.used; have har := hok.area
 have hk := wholeD_ok (hd := Y.h) (number := Y.h.number + Y.parts.length) (place := Y.h.place + Y.used) (left := Y.h.area - Y.used) (snap := decide (Y.parts = [])) (by omega) h.dok
 rw [hw] at hk
 obtain ⟨g, rfl⟩ : ∃ g, f = g + 1 := ⟨f - 1, by omega⟩
 have hlen : ((Y.add b).parts.length : Int) = Y.parts.length + 1 := by simp [Lg.add]
 have hus2 : (Y.add b).used = Y.used + secsN b.length := rfl
 refine ⟨h.hd, h.brk, ⟨hok.turn, hok.area, hok.place, hok.number, by rw [hus2]; omega, by omega, fun c hc => ?_⟩, ?_, by show Y.used + (secsN b.length : Int) ≤ Y.h.area; omega, by show Y.h.area - (Y.used + (secsN b.length : Int)) < ((g + 1 - 1 : Nat) : Int) ∧ _; omega, by rw [hlen, hus2]; omega, ?_, ⟨G2, hlog, hG2⟩, hd, Dk.Ok.mono hk (by omega), hu, hbox⟩
 ·simp only [Lg.add, List.mem_append, List.mem_singleton] at hc
  rcases hc with hc | rfl
  ·exact hok.bytes c hc
  ·exact ⟨hb, h3⟩
 ·show Y.used + (secsN b.length : Int) = usedOf (Y.parts ++ [b])
  rw [usedOf_append, usedOf_cons, usedOf_nil, h.used]; omega
 ·rw [← h.res, ← h.hd, found_some (b := b) (by rw [hw]), hw]
  rfl
theorem found_any {q p : Nat} {X : Lg} {G F : Nat → Prop} {D : Dk} {N : Nat} (w : World) (hlg : Log w q p X G) (hok : X.Ok) (hus : X.used = usedOf X.parts) (hfit : X.used ≤ X.h.area) (hcnt : (X.parts.length : Int) ≤ X.used) (hD : Dsk w p D F) (hdok : D.Ok N) (hN : N ≤ 1099510000000) (hFG : ∀ k, G k → ¬ F k) :
  Calls Tryz.prog 131 #[.pointer (some ⟨q, 0, none⟩)] w fun e w' => ∃ Y G' D', e = .returned (.int .i64 (foundD X.h 1001 X.parts X.used D).2.1) ∧ Y.h = X.h ∧ Y.broken = X.broken ∧ Y.parts = (foundD X.h 1001 X.parts X.used D).1 ∧ Y.used = usedOf Y.parts ∧ Y.used ≤ Y.h.area ∧ Y.Ok ∧ D' = (foundD X.h 1001 X.parts X.used D).2.2 ∧ Log w' q p Y G' ∧ (∀ k, G' k → G k ∨ w.heap.size ≤ k) ∧ Dsk w' p D' F ∧ D'.Ok (N + 1001000) ∧ Upd (fun k => G k ∨ F k) w w' := by
 have hFL := hD.lt
 have hGL := hlg.lt
 obtain ⟨RES, hRES⟩ : ∃ RES, RES = foundD X.h 1001 X.parts X.used D := ⟨_, rfl⟩
 have hu1 : Upd (fun _ => False) w (w.alloc (.cells #[.pointer (some ⟨q, 0, none⟩)] 38)) := (Upd.refl _ w).alloc _
 have hat : FndAt w q p X X RES 1001 D G F N (w.alloc (.cells #[.pointer (some ⟨q, 0, none⟩)] 38)) :=
  ⟨rfl, rfl, hok, hus, hfit, by have := hok.area; have := hok.used; omega, hcnt, hRES.symm, ⟨G, hlg.kept hu1 (fun _ _ e => e), fun k hk => .inl hk⟩, hD.kept hu1 (fun _ _ e => e), Dk.Ok.mono hdok (by omega), hu1.mono (fun _ _ e => e.elim), alloc_at rfl⟩
 rw [← hRES]
 have HAT := Lib.hid hat; have HFL := Lib.hid hFL; have HGL := Lib.hid hGL; have HFG := Lib.hid hFG
 obtain ⟨w1, hw1⟩ : ∃ w1, w1 = w.alloc (.cells #[.pointer (some ⟨q, 0, none⟩)] 38) := ⟨_, rfl⟩
 rw [← hw1] at HAT
 clear hlg hok hus hfit hcnt hD hdok hFG hFL hGL hRES hu1 hat
 go_enter Tryz.func131, Tryz.ntmps131
 go_upto_region 1 with fail
 refine (?_ : Code.wp _ _ _ _ (w.alloc (.cells #[.pointer (some ⟨q, 0, none⟩)] 38)))
 rw [← hw1]
 clear hw1
 go_upto_region 2 with fail
 go_loopg [4] 1001 (fun gk _ wr => ∃ (Y : Lg) (f : Nat) (Dc : Dk), gk = f ∧ FndAt w q p X Y RES f Dc G F N wr)
 case atStart => exact ⟨X, 1001, D, rfl, HAT.out⟩
 case round =>
  obtain ⟨Y, f, Dc, rfl, hat⟩ := hrel
  obtain ⟨ws, rfl⟩ : ∃ ws, ws = wr := ⟨_, rfl⟩
  obtain ⟨G', hlg, hG'⟩ := hat.log
  have hgf : ∀ k, G' k → ¬ F k := fun k hk hf => by
   rcases hG' k hk with hg | hg
   ·exact HFG.out k hg hf
   ·have := HFL.out k hf; omega
  have hfb : ¬ F w.heap.size := fun e => by have := HFL.out _ e; omega
  have hfq : ¬ F q := hgf q hlg.mem
  have hyu := hat.ok.used; have hya := hat.ok.area; have hyp := hat.ok.place; have hyf := hat.fits; have hyl := hat.ok.len
  obtain ⟨RS, hRS⟩ : ∃ RS, RS = wholeD Y.h (Y.h.number + Y.parts.length) (Y.h.place + Y.used) (decide (Y.parts = [])) (Y.h.area - Y.used) Dc := ⟨_, rfl⟩
  have hwh : ∀ W, Upd (fun _ => False) ws W → Calls Tryz.prog 172 #[Y.h.val, .int .i64 (Y.h.number + Y.parts.length), .int .i64 (Y.h.place + Y.used), .bool (decide (Y.parts = [])), .int .i64 (Y.h.area - Y.used), .func (.func 171) #[] #[.pointer (some ⟨w.heap.size, 0, none⟩)]] W fun e w' =>
    ∃ v, e = .returned (.tuple #[v, .bool RS.1.isSome, .int .i64 RS.2.1]) ∧ Log w' q p Y G' ∧ Dsk w' p RS.2.2 F ∧ Upd F W w' ∧ ∀ b, RS.1 = some b → OwnB w' W.heap.size v b ∧ Bytes b := fun W hu => by
   rw [hRS]
   exact whole_use W (hlg.kept hu (fun _ _ e => e)) hat.ok ((hu.block _ (lt_of_heap hat.box) (fun e => e)).trans hat.box) (hat.dsk.kept hu (fun _ _ e => e)) hat.dok (by have := hat.fuel; omega) hgf hfb ⟨hyu.1, hyf⟩
  have hz : ((Y.parts.length : Int) == 0) = decide (Y.parts = []) := by
   cases hp : Y.parts <;> simp
   omega
  have hv1 : IntKind.i64.wrap (Y.h.place + Y.used) = Y.h.place + Y.used := by rw [IntKind.wrap_i64]; omega
  have hv2 : IntKind.i64.wrap (Y.h.area - Y.used) = Y.h.area - Y.used := by rw [IntKind.wrap_i64]; omega
  have hfu := hat.fuel
  have hlg0 := hlg
  obtain ⟨PV, vs, hl1, hl2⟩ := hlg
  obtain ⟨pa, pc, rfl⟩ := rowV hl1.row
  have HM := Lib.hid hl1.main; have HAT2 := Lib.hid hat; have HLG := Lib.hid hlg0; have HGF := Lib.hid hgf; have HFB := Lib.hid hfb; have HFQ := Lib.hid hfq; have HWH := Lib.hid hwh; have HRS := Lib.hid hRS; have HBX := Lib.hid hat.box; have HYO := Lib.hid hat.ok; have HG' := Lib.hid hG'
  have hA : Upd F ws ws.drew := (Upd.refl _ ws).drew
  clear hat hl1 hl2 hlg0 hgf hfb hfq hwh hRS hG' HAT
  go_upto_region 2 with fail
  refine wp_region_G 40 (fun W => Upd F ws W) [false, false, false, false, false, false, false, false, false, false, false, false, false, false, false, false, false, false, false, false, false, false, false, false, false, false, false, false, false, false, false, false, false, false, false, false, false, false, false, false, false] rfl (by kernel_rfl) ?_
  refine wpG_takeT (i := 0) (v := .pointer (some ⟨q, 0, none⟩)) rfl (fun L hc h => (hc.waits (n := 40) (i := 37) (by kernel_rfl) (hc.waits (n := 37) (i := 34) (by kernel_rfl) (hc.waits (n := 34) (i := 33) (by kernel_rfl) (hc.waits (n := 33) (i := 3) (by kernel_rfl) (hc.waits (n := 3) (i := 2) (by kernel_rfl) (hc.waits (n := 2) (i := 1) (by kernel_rfl) (hc.waits (n := 1) (i := 0) (by kernel_rfl) h)))))))) (by kernel_rfl) (fun _ _ _ h => h) hA (.inl ⟨rfl, fun w5 q1 => ?_⟩) ?_
  ·have cc : w5.cell? ⟨w.heap.size, 0, none⟩ = some (.pointer (some ⟨q, 0, none⟩)) := by simp [World.cell?, (q1.block _ (lt_of_heap HBX.out) HFB.out).trans HBX.out]
   go_simp
  simp only [Act.put, List.setIfInBounds_toArray, List.set]
  refine wpG_takeT (i := 1) (v := .pointer (some ⟨q, 0, none⟩)) rfl (fun L hc h => (hc.waits (n := 40) (i := 37) (by kernel_rfl) (hc.waits (n := 37) (i := 34) (by kernel_rfl) (hc.waits (n := 34) (i := 33) (by kernel_rfl) (hc.waits (n := 33) (i := 3) (by kernel_rfl) (hc.waits (n := 3) (i := 2) (by kernel_rfl) (hc.waits (n := 2) (i := 1) (by kernel_rfl) h))))))) (by kernel_rfl) (fun _ _ _ h => h) hA (.inl ⟨rfl, fun w5 q1 => ?_⟩) ?_
  ·go_simp
  simp only [Act.put, List.setIfInBounds_toArray, List.set]
  refine wpG_takeT (i := 2) (v := .pointer (some ⟨q, 0, none⟩)) rfl (fun L hc h => (hc.waits (n := 40) (i := 37) (by kernel_rfl) (hc.waits (n := 37) (i := 34) (by kernel_rfl) (hc.waits (n := 34) (i := 33) (by kernel_rfl) (hc.waits (n := 33) (i := 3) (by kernel_rfl) (hc.waits (n := 3) (i := 2) (by kernel_rfl) h)))))) (by kernel_rfl) (fun _ _ _ h => h) hA (.inl ⟨rfl, fun w5 q1 => ?_⟩) ?_
  ·go_simp
  simp only [Act.put, List.setIfInBounds_toArray, List.set]
  refine wpG_takeT (i := 3) (v := Y.h.val) rfl (fun L hc h => (hc.waits (n := 40) (i := 37) (by kernel_rfl) (hc.waits (n := 37) (i := 34) (by kernel_rfl) (hc.waits (n := 34) (i := 33) (by kernel_rfl) (hc.waits (n := 33) (i := 3) (by kernel_rfl) h))))) (by kernel_rfl) (fun _ _ _ h => h) hA (.inl ⟨rfl, fun w5 q1 => ?_⟩) ?_
  ·refine run_load_mid' rfl rfl [.int .i64 Y.h.turn, .int .i64 Y.h.area, .int .i64 Y.h.place, .int .i64 Y.h.number] (fun j v hj => ?_) Tryz.underlying184 rfl Tryz.size107r
   have hm := (q1.block _ (lt_of_heap HM.out) HFQ.out).trans HM.out
   match j, hj with
   | 0, hj => simp at hj; subst hj; simp [World.cell?, hm, Lg.cells]
   | 1, hj => simp at hj; subst hj; simp [World.cell?, hm, Lg.cells]
   | 2, hj => simp at hj; subst hj; simp [World.cell?, hm, Lg.cells]
   | 3, hj => simp at hj; subst hj; simp [World.cell?, hm, Lg.cells]
   |j + 4, hj => simp at hj
  simp only [Act.put, List.setIfInBounds_toArray, List.set]
  refine wpG_takeT (i := 4) (v := .pointer (some ⟨q, 0, none⟩)) rfl (fun L hc h => (hc.waits (n := 40) (i := 37) (by kernel_rfl) (hc.waits (n := 37) (i := 34) (by kernel_rfl) (hc.waits (n := 34) (i := 33) (by kernel_rfl) (hc.waits (n := 33) (i := 5) (by kernel_rfl) (hc.waits (n := 5) (i := 4) (by kernel_rfl) h)))))) (by kernel_rfl) (fun _ _ _ h => h) hA (.inl ⟨rfl, fun w5 q1 => ?_⟩) ?_
  ·have cc : w5.cell? ⟨w.heap.size, 0, none⟩ = some (.pointer (some ⟨q, 0, none⟩)) := by simp [World.cell?, (q1.block _ (lt_of_heap HBX.out) HFB.out).trans HBX.out]
   go_simp
  simp only [Act.put, List.setIfInBounds_toArray, List.set]
  refine wpG_takeT (i := 6) (v := .pointer (some ⟨q, 0, none⟩)) rfl (fun L hc h => (hc.waits (n := 40) (i := 37) (by kernel_rfl) (hc.waits (n := 37) (i := 34) (by kernel_rfl) (hc.waits (n := 34) (i := 33) (by kernel_rfl) (hc.waits (n := 33) (i := 15) (by kernel_rfl) (hc.waits (n := 15) (i := 10) (by kernel_rfl) (hc.waits (n := 10) (i := 9) (by kernel_rfl) (hc.waits (n := 9) (i := 8) (by kernel_rfl) (hc.waits (n := 8) (i := 7) (by kernel_rfl) (hc.waits (n := 7) (i := 6) (by kernel_rfl) h)))))))))) (by kernel_rfl) (fun _ _ _ h => h) hA (.inl ⟨rfl, fun w5 q1 => ?_⟩) ?_
  ·have cc : w5.cell? ⟨w.heap.size, 0, none⟩ = some (.pointer (some ⟨q, 0, none⟩)) := by simp [World.cell?, (q1.block _ (lt_of_heap HBX.out) HFB.out).trans HBX.out]
   go_simp
  simp only [Act.put, List.setIfInBounds_toArray, List.set]
  refine wpG_takeT (i := 7) (v := .pointer (some ⟨q, 0, none⟩)) rfl (fun L hc h => (hc.waits (n := 40) (i := 37) (by kernel_rfl) (hc.waits (n := 37) (i := 34) (by kernel_rfl) (hc.waits (n := 34) (i := 33) (by kernel_rfl) (hc.waits (n := 33) (i := 15) (by kernel_rfl) (hc.waits (n := 15) (i := 10) (by kernel_rfl) (hc.waits (n := 10) (i := 9) (by kernel_rfl) (hc.waits (n := 9) (i := 8) (by kernel_rfl) (hc.waits (n := 8) (i := 7) (by kernel_rfl) h))))))))) (by kernel_rfl) (fun _ _ _ h => h) hA (.inl ⟨rfl, fun w5 q1 => ?_⟩) ?_
  ·go_simp
  simp only [Act.put, List.setIfInBounds_toArray, List.set]
  refine wpG_takeT (i := 8) (v := .pointer (some ⟨q, 0, none⟩)) rfl (fun L hc h => (hc.waits (n := 40) (i := 37) (by kernel_rfl) (hc.waits (n := 37) (i := 34) (by kernel_rfl) (hc.waits (n := 34) (i := 33) (by kernel_rfl) (hc.waits (n := 33) (i := 15) (by kernel_rfl) (hc.waits (n := 15) (i := 10) (by kernel_rfl) (hc.waits (n := 10) (i := 9) (by kernel_rfl) (hc.waits (n := 9) (i := 8) (by kernel_rfl) h)))))))) (by kernel_rfl) (fun _ _ _ h => h) hA (.inl ⟨rfl, fun w5 q1 => ?_⟩) ?_
  ·go_simp
  simp only [Act.put, List.setIfInBounds_toArray, List.set]
  refine wpG_takeT (i := 9) (v := .pointer (some ⟨q, 2, none⟩)) rfl (fun L hc h => (hc.waits (n := 40) (i := 37) (by kernel_rfl) (hc.waits (n := 37) (i := 34) (by kernel_rfl) (hc.waits (n := 34) (i := 33) (by kernel_rfl) (hc.waits (n := 33) (i := 15) (by kernel_rfl) (hc.waits (n := 15) (i := 10) (by kernel_rfl) (hc.waits (n := 10) (i := 9) (by kernel_rfl) h))))))) (by kernel_rfl) (fun _ _ _ h => h) hA (.inl ⟨rfl, fun w5 q1 => ?_⟩) ?_
  ·go_simp
  simp only [Act.put, List.setIfInBounds_toArray, List.set]
  refine wpG_takeT (i := 10) (v := .int .i64 Y.h.place) rfl (fun L hc h => (hc.waits (n := 40) (i := 37) (by kernel_rfl) (hc.waits (n := 37) (i := 34) (by kernel_rfl) (hc.waits (n := 34) (i := 33) (by kernel_rfl) (hc.waits (n := 33) (i := 15) (by kernel_rfl) (hc.waits (n := 15) (i := 10) (by kernel_rfl) h)))))) (by kernel_rfl) (fun _ _ _ h => h) hA (.inl ⟨rfl, fun w5 q1 => ?_⟩) ?_
  ·have cc : w5.cell? ⟨q, 2, none⟩ = some (.int .i64 Y.h.place) := by simp [World.cell?, (q1.block _ (lt_of_heap HM.out) HFQ.out).trans HM.out, Lg.cells]
   go_simp
  simp only [Act.put, List.setIfInBounds_toArray, List.set]
  refine wpG_takeT (i := 11) (v := .pointer (some ⟨q, 0, none⟩)) rfl (fun L hc h => (hc.waits (n := 40) (i := 37) (by kernel_rfl) (hc.waits (n := 37) (i := 34) (by kernel_rfl) (hc.waits (n := 34) (i := 33) (by kernel_rfl) (hc.waits (n := 33) (i := 15) (by kernel_rfl) (hc.waits (n := 15) (i := 14) (by kernel_rfl) (hc.waits (n := 14) (i := 13) (by kernel_rfl) (hc.waits (n := 13) (i := 12) (by kernel_rfl) (hc.waits (n := 12) (i := 11) (by kernel_rfl) h))))))))) (by kernel_rfl) (fun _ _ _ h => h) hA (.inl ⟨rfl, fun w5 q1 => ?_⟩) ?_
  ·have cc : w5.cell? ⟨w.heap.size, 0, none⟩ = some (.pointer (some ⟨q, 0, none⟩)) := by simp [World.cell?, (q1.block _ (lt_of_heap HBX.out) HFB.out).trans HBX.out]
   go_simp
  simp only [Act.put, List.setIfInBounds_toArray, List.set]
  refine wpG_takeT (i := 12) (v := .pointer (some ⟨q, 0, none⟩)) rfl (fun L hc h => (hc.waits (n := 40) (i := 37) (by kernel_rfl) (hc.waits (n := 37) (i := 34) (by kernel_rfl) (hc.waits (n := 34) (i := 33) (by kernel_rfl) (hc.waits (n := 33) (i := 15) (by kernel_rfl) (hc.waits (n := 15) (i := 14) (by kernel_rfl) (hc.waits (n := 14) (i := 13) (by kernel_rfl) (hc.waits (n := 13) (i := 12) (by kernel_rfl) h)))))))) (by kernel_rfl) (fun _ _ _ h => h) hA (.inl ⟨rfl, fun w5 q1 => ?_⟩) ?_
  ·go_simp
  simp only [Act.put, List.setIfInBounds_toArray, List.set]
  refine wpG_takeT (i := 13) (v := .pointer (some ⟨q, 6, none⟩)) rfl (fun L hc h => (hc.waits (n := 40) (i := 37) (by kernel_rfl) (hc.waits (n := 37) (i := 34) (by kernel_rfl) (hc.waits (n := 34) (i := 33) (by kernel_rfl) (hc.waits (n := 33) (i := 15) (by kernel_rfl) (hc.waits (n := 15) (i := 14) (by kernel_rfl) (hc.waits (n := 14) (i := 13) (by kernel_rfl) h))))))) (by kernel_rfl) (fun _ _ _ h => h) hA (.inl ⟨rfl, fun w5 q1 => ?_⟩) ?_
  ·go_simp
  simp only [Act.put, List.setIfInBounds_toArray, List.set]
  refine wpG_takeT (i := 14) (v := .int .i64 Y.used) rfl (fun L hc h => (hc.waits (n := 40) (i := 37) (by kernel_rfl) (hc.waits (n := 37) (i := 34) (by kernel_rfl) (hc.waits (n := 34) (i := 33) (by kernel_rfl) (hc.waits (n := 33) (i := 15) (by kernel_rfl) (hc.waits (n := 15) (i := 14) (by kernel_rfl) h)))))) (by kernel_rfl) (fun _ _ _ h => h) hA (.inl ⟨rfl, fun w5 q1 => ?_⟩) ?_
  ·have cc : w5.cell? ⟨q, 6, none⟩ = some (.int .i64 Y.used) := by simp [World.cell?, (q1.block _ (lt_of_heap HM.out) HFQ.out).trans HM.out, Lg.cells]
   go_simp
  simp only [Act.put, List.setIfInBounds_toArray, List.set]
  refine wpG_takeT (i := 15) (v := .int .i64 (Y.h.place + Y.used)) rfl (fun L hc h => (hc.waits (n := 40) (i := 37) (by kernel_rfl) (hc.waits (n := 37) (i := 34) (by kernel_rfl) (hc.waits (n := 34) (i := 33) (by kernel_rfl) (hc.waits (n := 33) (i := 15) (by kernel_rfl) h))))) (by kernel_rfl) (fun _ _ _ h => h) hA (.inl ⟨rfl, fun w5 q1 => ?_⟩) ?_
  ·go_simp
  simp only [Act.put, List.setIfInBounds_toArray, List.set]
  refine wpG_takeT (i := 16) (v := .pointer (some ⟨q, 0, none⟩)) rfl (fun L hc h => (hc.waits (n := 40) (i := 37) (by kernel_rfl) (hc.waits (n := 37) (i := 34) (by kernel_rfl) (hc.waits (n := 34) (i := 33) (by kernel_rfl) (hc.waits (n := 33) (i := 21) (by kernel_rfl) (hc.waits (n := 21) (i := 20) (by kernel_rfl) (hc.waits (n := 20) (i := 19) (by kernel_rfl) (hc.waits (n := 19) (i := 18) (by kernel_rfl) (hc.waits (n := 18) (i := 17) (by kernel_rfl) (hc.waits (n := 17) (i := 16) (by kernel_rfl) h)))))))))) (by kernel_rfl) (fun _ _ _ h => h) hA (.inl ⟨rfl, fun w5 q1 => ?_⟩) ?_
  ·have cc : w5.cell? ⟨w.heap.size, 0, none⟩ = some (.pointer (some ⟨q, 0, none⟩)) := by simp [World.cell?, (q1.block _ (lt_of_heap HBX.out) HFB.out).trans HBX.out]
   go_simp
  simp only [Act.put, List.setIfInBounds_toArray, List.set]
  refine wpG_takeT (i := 17) (v := .pointer (some ⟨q, 0, none⟩)) rfl (fun L hc h => (hc.waits (n := 40) (i := 37) (by kernel_rfl) (hc.waits (n := 37) (i := 34) (by kernel_rfl) (hc.waits (n := 34) (i := 33) (by kernel_rfl) (hc.waits (n := 33) (i := 21) (by kernel_rfl) (hc.waits (n := 21) (i := 20) (by kernel_rfl) (hc.waits (n := 20) (i := 19) (by kernel_rfl) (hc.waits (n := 19) (i := 18) (by kernel_rfl) (hc.waits (n := 18) (i := 17) (by kernel_rfl) h))))))))) (by kernel_rfl) (fun _ _ _ h => h) hA (.inl ⟨rfl, fun w5 q1 => ?_⟩) ?_
  ·go_simp
  simp only [Act.put, List.setIfInBounds_toArray, List.set]
  refine wpG_takeT (i := 18) (v := .pointer (some ⟨q, 5, none⟩)) rfl (fun L hc h => (hc.waits (n := 40) (i := 37) (by kernel_rfl) (hc.waits (n := 37) (i := 34) (by kernel_rfl) (hc.waits (n := 34) (i := 33) (by kernel_rfl) (hc.waits (n := 33) (i := 21) (by kernel_rfl) (hc.waits (n := 21) (i := 20) (by kernel_rfl) (hc.waits (n := 20) (i := 19) (by kernel_rfl) (hc.waits (n := 19) (i := 18) (by kernel_rfl) h)))))))) (by kernel_rfl) (fun _ _ _ h => h) hA (.inl ⟨rfl, fun w5 q1 => ?_⟩) ?_
  ·go_simp
  simp only [Act.put, List.setIfInBounds_toArray, List.set]
  refine wpG_takeT (i := 19) (v := .slice pa Y.parts.length pc) rfl (fun L hc h => (hc.waits (n := 40) (i := 37) (by kernel_rfl) (hc.waits (n := 37) (i := 34) (by kernel_rfl) (hc.waits (n := 34) (i := 33) (by kernel_rfl) (hc.waits (n := 33) (i := 21) (by kernel_rfl) (hc.waits (n := 21) (i := 20) (by kernel_rfl) (hc.waits (n := 20) (i := 19) (by kernel_rfl) h))))))) (by kernel_rfl) (fun _ _ _ h => h) hA (.inl ⟨rfl, fun w5 q1 => ?_⟩) ?_
  ·have cc : w5.cell? ⟨q, 5, none⟩ = some (.slice pa Y.parts.length pc) := by simp [World.cell?, (q1.block _ (lt_of_heap HM.out) HFQ.out).trans HM.out, Lg.cells]
   go_simp
  simp only [Act.put, List.setIfInBounds_toArray, List.set]
  refine wpG_takeT (i := 20) (v := .int .i64 Y.parts.length) rfl (fun L hc h => (hc.waits (n := 40) (i := 37) (by kernel_rfl) (hc.waits (n := 37) (i := 34) (by kernel_rfl) (hc.waits (n := 34) (i := 33) (by kernel_rfl) (hc.waits (n := 33) (i := 21) (by kernel_rfl) (hc.waits (n := 21) (i := 20) (by kernel_rfl) h)))))) (by kernel_rfl) (fun _ _ _ h => h) hA (.inl ⟨rfl, fun w5 q1 => ?_⟩) ?_
  ·go_simp
  simp only [Act.put, List.setIfInBounds_toArray, List.set]
  refine wpG_takeT (i := 21) (v := .bool (decide (Y.parts = []))) rfl (fun L hc h => (hc.waits (n := 40) (i := 37) (by kernel_rfl) (hc.waits (n := 37) (i := 34) (by kernel_rfl) (hc.waits (n := 34) (i := 33) (by kernel_rfl) (hc.waits (n := 33) (i := 21) (by kernel_rfl) h))))) (by kernel_rfl) (fun _ _ _ h => h) hA (.inl ⟨rfl, fun w5 q1 => ?_⟩) ?_
  ·go_simp
  simp only [Act.put, List.setIfInBounds_toArray, List.set]
  refine wpG_takeT (i := 22) (v := .pointer (some ⟨q, 0, none⟩)) rfl (fun L hc h => (hc.waits (n := 40) (i := 37) (by kernel_rfl) (hc.waits (n := 37) (i := 34) (by kernel_rfl) (hc.waits (n := 34) (i := 33) (by kernel_rfl) (hc.waits (n := 33) (i := 31) (by kernel_rfl) (hc.waits (n := 31) (i := 26) (by kernel_rfl) (hc.waits (n := 26) (i := 25) (by kernel_rfl) (hc.waits (n := 25) (i := 24) (by kernel_rfl) (hc.waits (n := 24) (i := 23) (by kernel_rfl) (hc.waits (n := 23) (i := 22) (by kernel_rfl) h)))))))))) (by kernel_rfl) (fun _ _ _ h => h) hA (.inl ⟨rfl, fun w5 q1 => ?_⟩) ?_
  ·have cc : w5.cell? ⟨w.heap.size, 0, none⟩ = some (.pointer (some ⟨q, 0, none⟩)) := by simp [World.cell?, (q1.block _ (lt_of_heap HBX.out) HFB.out).trans HBX.out]
   go_simp
  simp only [Act.put, List.setIfInBounds_toArray, List.set]
  refine wpG_takeT (i := 23) (v := .pointer (some ⟨q, 0, none⟩)) rfl (fun L hc h => (hc.waits (n := 40) (i := 37) (by kernel_rfl) (hc.waits (n := 37) (i := 34) (by kernel_rfl) (hc.waits (n := 34) (i := 33) (by kernel_rfl) (hc.waits (n := 33) (i := 31) (by kernel_rfl) (hc.waits (n := 31) (i := 26) (by kernel_rfl) (hc.waits (n := 26) (i := 25) (by kernel_rfl) (hc.waits (n := 25) (i := 24) (by kernel_rfl) (hc.waits (n := 24) (i := 23) (by kernel_rfl) h))))))))) (by kernel_rfl) (fun _ _ _ h => h) hA (.inl ⟨rfl, fun w5 q1 => ?_⟩) ?_
  ·go_simp
  simp only [Act.put, List.setIfInBounds_toArray, List.set]
  refine wpG_takeT (i := 24) (v := .pointer (some ⟨q, 0, none⟩)) rfl (fun L hc h => (hc.waits (n := 40) (i := 37) (by kernel_rfl) (hc.waits (n := 37) (i := 34) (by kernel_rfl) (hc.waits (n := 34) (i := 33) (by kernel_rfl) (hc.waits (n := 33) (i := 31) (by kernel_rfl) (hc.waits (n := 31) (i := 26) (by kernel_rfl) (hc.waits (n := 26) (i := 25) (by kernel_rfl) (hc.waits (n := 25) (i := 24) (by kernel_rfl) h)))))))) (by kernel_rfl) (fun _ _ _ h => h) hA (.inl ⟨rfl, fun w5 q1 => ?_⟩) ?_
  ·go_simp
  simp only [Act.put, List.setIfInBounds_toArray, List.set]
  refine wpG_takeT (i := 25) (v := .pointer (some ⟨q, 1, none⟩)) rfl (fun L hc h => (hc.waits (n := 40) (i := 37) (by kernel_rfl) (hc.waits (n := 37) (i := 34) (by kernel_rfl) (hc.waits (n := 34) (i := 33) (by kernel_rfl) (hc.waits (n := 33) (i := 31) (by kernel_rfl) (hc.waits (n := 31) (i := 26) (by kernel_rfl) (hc.waits (n := 26) (i := 25) (by kernel_rfl) h))))))) (by kernel_rfl) (fun _ _ _ h => h) hA (.inl ⟨rfl, fun w5 q1 => ?_⟩) ?_
  ·go_simp
  simp only [Act.put, List.setIfInBounds_toArray, List.set]
  refine wpG_takeT (i := 26) (v := .int .i64 Y.h.area) rfl (fun L hc h => (hc.waits (n := 40) (i := 37) (by kernel_rfl) (hc.waits (n := 37) (i := 34) (by kernel_rfl) (hc.waits (n := 34) (i := 33) (by kernel_rfl) (hc.waits (n := 33) (i := 31) (by kernel_rfl) (hc.waits (n := 31) (i := 26) (by kernel_rfl) h)))))) (by kernel_rfl) (fun _ _ _ h => h) hA (.inl ⟨rfl, fun w5 q1 => ?_⟩) ?_
  ·have cc : w5.cell? ⟨q, 1, none⟩ = some (.int .i64 Y.h.area) := by simp [World.cell?, (q1.block _ (lt_of_heap HM.out) HFQ.out).trans HM.out, Lg.cells]
   go_simp
  simp only [Act.put, List.setIfInBounds_toArray, List.set]
  refine wpG_takeT (i := 27) (v := .pointer (some ⟨q, 0, none⟩)) rfl (fun L hc h => (hc.waits (n := 40) (i := 37) (by kernel_rfl) (hc.waits (n := 37) (i := 34) (by kernel_rfl) (hc.waits (n := 34) (i := 33) (by kernel_rfl) (hc.waits (n := 33) (i := 31) (by kernel_rfl) (hc.waits (n := 31) (i := 30) (by kernel_rfl) (hc.waits (n := 30) (i := 29) (by kernel_rfl) (hc.waits (n := 29) (i := 28) (by kernel_rfl) (hc.waits (n := 28) (i := 27) (by kernel_rfl) h))))))))) (by kernel_rfl) (fun _ _ _ h => h) hA (.inl ⟨rfl, fun w5 q1 => ?_⟩) ?_
  ·have cc : w5.cell? ⟨w.heap.size, 0, none⟩ = some (.pointer (some ⟨q, 0, none⟩)) := by simp [World.cell?, (q1.block _ (lt_of_heap HBX.out) HFB.out).trans HBX.out]
   go_simp
  simp only [Act.put, List.setIfInBounds_toArray, List.set]
  refine wpG_takeT (i := 28) (v := .pointer (some ⟨q, 0, none⟩)) rfl (fun L hc h => (hc.waits (n := 40) (i := 37) (by kernel_rfl) (hc.waits (n := 37) (i := 34) (by kernel_rfl) (hc.waits (n := 34) (i := 33) (by kernel_rfl) (hc.waits (n := 33) (i := 31) (by kernel_rfl) (hc.waits (n := 31) (i := 30) (by kernel_rfl) (hc.waits (n := 30) (i := 29) (by kernel_rfl) (hc.waits (n := 29) (i := 28) (by kernel_rfl) h)))))))) (by kernel_rfl) (fun _ _ _ h => h) hA (.inl ⟨rfl, fun w5 q1 => ?_⟩) ?_
  ·go_simp
  simp only [Act.put, List.setIfInBounds_toArray, List.set]
  refine wpG_takeT (i := 29) (v := .pointer (some ⟨q, 6, none⟩)) rfl (fun L hc h => (hc.waits (n := 40) (i := 37) (by kernel_rfl) (hc.waits (n := 37) (i := 34) (by kernel_rfl) (hc.waits (n := 34) (i := 33) (by kernel_rfl) (hc.waits (n := 33) (i := 31) (by kernel_rfl) (hc.waits (n := 31) (i := 30) (by kernel_rfl) (hc.waits (n := 30) (i := 29) (by kernel_rfl) h))))))) (by kernel_rfl) (fun _ _ _ h => h) hA (.inl ⟨rfl, fun w5 q1 => ?_⟩) ?_
  ·go_simp
  simp only [Act.put, List.setIfInBounds_toArray, List.set]
  refine wpG_takeT (i := 30) (v := .int .i64 Y.used) rfl (fun L hc h => (hc.waits (n := 40) (i := 37) (by kernel_rfl) (hc.waits (n := 37) (i := 34) (by kernel_rfl) (hc.waits (n := 34) (i := 33) (by kernel_rfl) (hc.waits (n := 33) (i := 31) (by kernel_rfl) (hc.waits (n := 31) (i := 30) (by kernel_rfl) h)))))) (by kernel_rfl) (fun _ _ _ h => h) hA (.inl ⟨rfl, fun w5 q1 => ?_⟩) ?_
  ·have cc : w5.cell? ⟨q, 6, none⟩ = some (.int .i64 Y.used) := by simp [World.cell?, (q1.block _ (lt_of_heap HM.out) HFQ.out).trans HM.out, Lg.cells]
   go_simp
  simp only [Act.put, List.setIfInBounds_toArray, List.set]
  refine wpG_takeT (i := 31) (v := .int .i64 (Y.h.area - Y.used)) rfl (fun L hc h => (hc.waits (n := 40) (i := 37) (by kernel_rfl) (hc.waits (n := 37) (i := 34) (by kernel_rfl) (hc.waits (n := 34) (i := 33) (by kernel_rfl) (hc.waits (n := 33) (i := 31) (by kernel_rfl) h))))) (by kernel_rfl) (fun _ _ _ h => h) hA (.inl ⟨rfl, fun w5 q1 => ?_⟩) ?_
  ·go_simp
  simp only [Act.put, List.setIfInBounds_toArray, List.set]
  refine wpG_takeT (i := 32) (v := .func (.func 171) #[] #[.pointer (some ⟨w.heap.size, 0, none⟩)]) rfl (fun L hc h => (hc.waits (n := 40) (i := 37) (by kernel_rfl) (hc.waits (n := 37) (i := 34) (by kernel_rfl) (hc.waits (n := 34) (i := 33) (by kernel_rfl) (hc.waits (n := 33) (i := 32) (by kernel_rfl) h))))) (by kernel_rfl) (fun _ _ _ h => h) hA (.inl ⟨rfl, fun w5 q1 => ?_⟩) ?_
  ·go_simp
  simp only [Act.put, List.setIfInBounds_toArray, List.set]
  refine wpG_doIf (i := 5) rfl (by kernel_rfl) rfl (fun K hK => ?_)
  have HKK := Lib.hid hK
  clear hK
  go_step
  refine (next_any _ (HLG.out.kept hA HGF.out) HYO.out).mono ?_
  rintro e w6 ⟨rfl, hu6⟩
  have hA2 : Upd F ws w6 := hA.trans (hu6.mono (fun _ _ e => e.elim))
  have HU6 : RowKit.Hid (Upd (fun _ => False) ws w6) := Lib.hid ((Upd.refl _ ws).drew.trans hu6)
  clear hA hu6
  simp only []
  refine HKK.out _ _ hA2 ?_
  clear HKK
  simp only [List.setIfInBounds_toArray, List.set]
  refine wpG_doIf (i := 33) rfl (by kernel_rfl) rfl (fun K hK => ?_)
  have HKK := Lib.hid hK
  clear hK
  go_step
  refine (HWH.out _ HU6.out).mono ?_
  rintro e w7 hw7
  obtain ⟨v, rfl, hlg7, hd7, hu7, hv7⟩ := hw7
  have hA3 : Upd F ws w7 := hA2.trans hu7
  have HLG7 := Lib.hid hlg7; have HD7 := Lib.hid hd7; have HU7 := Lib.hid hu7; have HV7 := Lib.hid hv7
  clear hA2 hu7 hlg7 hd7 hv7
  simp only []
  refine HKK.out _ _ hA3 ?_
  clear HKK
  simp only [List.setIfInBounds_toArray, List.set]
  refine wpG_takeT (i := 34) (v := .tuple #[v, .bool RS.1.isSome, .int .i64 RS.2.1]) rfl (fun L hc h => (hc.waits (n := 40) (i := 37) (by kernel_rfl) (hc.waits (n := 37) (i := 34) (by kernel_rfl) h))) (by kernel_rfl) (fun _ _ _ h => h) hA3 (.inl ⟨rfl, fun w5 q1 => ?_⟩) ?_
  ·go_simp
  simp only [Act.put, List.setIfInBounds_toArray, List.set]
  refine wpG_takeT (i := 35) (v := v) rfl (fun L hc h => (hc.waits (n := 40) (i := 39) (by kernel_rfl) (hc.waits (n := 39) (i := 38) (by kernel_rfl) (hc.waits (n := 38) (i := 35) (by kernel_rfl) h)))) (by kernel_rfl) (fun _ _ _ h => h) hA3 (.inl ⟨rfl, fun w5 q1 => ?_⟩) ?_
  ·go_simp
  simp only [Act.put, List.setIfInBounds_toArray, List.set]
  refine wpG_takeT (i := 36) (v := .bool RS.1.isSome) rfl (fun L hc h => (hc.waits (n := 40) (i := 39) (by kernel_rfl) (hc.waits (n := 39) (i := 36) (by kernel_rfl) h))) (by kernel_rfl) (fun _ _ _ h => h) hA3 (.inl ⟨rfl, fun w5 q1 => ?_⟩) ?_
  ·go_simp
  simp only [Act.put, List.setIfInBounds_toArray, List.set]
  refine wpG_takeT (i := 37) (v := .int .i64 RS.2.1) rfl (fun L hc h => (hc.waits (n := 40) (i := 37) (by kernel_rfl) h)) (by kernel_rfl) (fun _ _ _ h => h) hA3 (.inl ⟨rfl, fun w5 q1 => ?_⟩) ?_
  ·go_simp
  simp only [Act.put, List.setIfInBounds_toArray, List.set]
  refine wpG_takeT (i := 38) (v := v) rfl (fun L hc h => (hc.waits (n := 40) (i := 39) (by kernel_rfl) (hc.waits (n := 39) (i := 38) (by kernel_rfl) h))) (by kernel_rfl) (fun _ _ _ h => h) hA3 (.inl ⟨rfl, fun w5 q1 => ?_⟩) ?_
  ·go_simp
  simp only [Act.put, List.setIfInBounds_toArray, List.set]
  refine wpG_takeT (i := 39) (v := .bool RS.1.isSome) rfl (fun L hc h => (hc.waits (n := 40) (i := 39) (by kernel_rfl) h)) (by kernel_rfl) (fun _ _ _ h => h) hA3 (.inl ⟨rfl, fun w5 q1 => ?_⟩) ?_
  ·go_simp
  simp only [Act.put, List.setIfInBounds_toArray, List.set]
  refine wpG_tail_lit (k := 40) rfl rfl (by kernel_rfl) ?_
  simp only [List.drop]
  have hdk7 := wholeD_ok (hd := Y.h) (number := Y.h.number + Y.parts.length) (place := Y.h.place + Y.used) (left := Y.h.area - Y.used) (snap := decide (Y.parts = [])) (by omega) HAT2.out.dok
  rw [← HRS.out] at hdk7
  have HDK7 := Lib.hid hdk7; have HA3 := Lib.hid hA3
  clear hdk7 hA3 hv1 hv2 hz HM HWH
  rcases hob : RS.1 with _ | b
  ·have hRE : RES = (Y.parts, RS.2) := by
    rw [← HAT2.out.res, ← HAT2.out.hd, found_none (by omega) (by rw [← HRS.out]; exact hob), ← HRS.out]
   have HRE := Lib.hid hRE; have HOB := Lib.hid hob
   clear hRE hob
   have hpost : ∃ Y' G'' D', (Ending.returned (.int .i64 RS.2.1)) = .returned (.int .i64 RES.2.1) ∧ Y'.h = X.h ∧ Y'.broken = X.broken ∧ Y'.parts = RES.1 ∧ Y'.used = usedOf Y'.parts ∧ Y'.used ≤ Y'.h.area ∧ Y'.Ok ∧ D' = RES.2.2 ∧ Log w7 q p Y' G'' ∧ (∀ k, G'' k → G k ∨ w.heap.size ≤ k) ∧ Dsk w7 p D' F ∧ D'.Ok (N + 1001000) ∧ Upd (fun k => G k ∨ F k) w w7 := by
    have h := HAT2.out
    refine ⟨Y, G', RS.2.2, by rw [HRE.out], h.hd, h.brk, by rw [HRE.out], h.used, h.fits, h.ok, by rw [HRE.out], HLG7.out, fun k hk => ?_, HD7.out, Dk.Ok.mono HDK7.out (by omega), h.upd.step HA3.out (fun k _ e => .inr e)⟩
    rcases HG'.out k hk with e | e
    ·exact .inl e
    ·exact .inr (by omega)
   have HPO := Lib.hid hpost
   clear hpost
   by_cases hE : RS.2.1 = 0
   ·have hEb : (RS.2.1 != 0) = false := by simpa using hE
    simp only [Option.isSome]
    go_wp2
    go_ret
    exact HPO.out
   ·have hEb : (RS.2.1 != 0) = true := by simpa using hE
    simp only [Option.isSome]
    go_wp2
    go_ret
    exact HPO.out
  ·obtain ⟨hE, hsl, hbl⟩ := wholeD_some (b := b) (by rw [← HRS.out]; exact hob)
   rw [← HRS.out] at hE
   obtain ⟨hv1, hv2⟩ := HV7.out b hob
   have hRSe : RS = (some b, 0, RS.2.2) := by rw [← hob, ← hE]
   have HRSE := Lib.hid hRSe; have HV1 := Lib.hid hv1; have HV2 := Lib.hid hv2
   rw [hE]
   have hsp := secsN_pos b.length
   have hcn := HAT2.out.cnt
   have hbx7 := (HA3.out.block _ (lt_of_heap HBX.out) HFB.out).trans HBX.out
   have cc7 : w7.cell? ⟨w.heap.size, 0, none⟩ = some (.pointer (some ⟨q, 0, none⟩)) := cells1_of hbx7
   clear hRSe hv1 hv2 hob hE HV7 hbx7
   simp only [Option.isSome]
   go_wp2_with (go_at_call 117; fail)
   refine (adds_any (B := w6.heap.size) w7 HLG7.out HYO.out (by omega) HV1.out (fun k hk e => by have := (World.ownsRow.lt HV1.out k hk).1; have := HLG.out.lt k e; have := HU6.out.size; omega) hbl).mono ?_
   rintro e w8 ⟨rfl, ⟨G2, hlg8, hG2⟩, hu8⟩
   have hnx : FndAt w q p X (Y.add b) RES (gk - 1) RS.2.2 G F N w8 := by
    have h := HAT2.out
    refine h.more (G2 := G2) (by rw [← HRS.out]; exact HRSE.out) HV2.out hlg8 (fun k hk => ?_) (HD7.out.kept hu8 (fun k hk e => HGF.out k e hk)) ((h.upd.step HA3.out (fun k _ e => .inr e)).step hu8 (fun k hk e => ?_)) ((hu8.block _ (lt_of_heap ((HA3.out.block _ (lt_of_heap HBX.out) HFB.out).trans HBX.out)) (fun e => ?_)).trans ((HA3.out.block _ (lt_of_heap HBX.out) HFB.out).trans HBX.out))
    ·have hs1 := lt_of_heap HBX.out; have hs2 := HU6.out.size; have hs3 := HU7.out.size
     rcases hG2 k hk with e | e | e
     ·exact HG'.out k e
     ·have := (World.ownsRow.lt HV1.out k e).1
      exact .inr (by omega)
     ·exact .inr (by omega)
    ·rcases HG'.out k e with e | e
     ·exact .inl e
     ·omega
    ·rcases HG'.out _ e with e | e
     ·have := HGL.out _ e; omega
     ·omega
   have HNX := Lib.hid hnx
   clear hlg8 hG2 hu8 hnx
   simp only []
   go_wp2
   go_roundg (gk - 1)
   case measure => omega
   case rel => exact ⟨_, _, _, rfl, HNX.out⟩
def openL (hd : Hd) (ps : List (List Int)) (D : Dk) : Option Lg × Int × Dk :=
 if D.laysE [hd.laid] = 0 then (some ⟨hd, ps, usedOf ps, false⟩, 0, D.lays [hd.laid]) else (none, D.laysE [hd.laid], D.lays [hd.laid])
def openP (hd : Hd) (R : List (List Int) × Int × Dk) : Option Lg × Int × Dk :=
 if R.2.1 = 0 then (if R.1 = [] ∨ hd.turn = 1073741824 then (none, 140, R.2.2) else openL { hd with turn := hd.turn + 1 } R.1 R.2.2) else (none, R.2.1, R.2.2)
noncomputable def openH (c : Hd × Bool) (D : Dk) : Option Lg × Int × Dk :=
 if c.2 = false ∨ (D.arr.length : Int) < 2 + 2 * c.1.area then (none, 140, D) else openP c.1 (foundD c.1 1001 [] 0 D)
noncomputable def openD (D : Dk) : Option Lg × Int × Dk :=
 if D.callE 0 false = 0 then
  if (D.callD 0 false).callE 1 false = 0 then openH (countsF (D.reads 0) ((D.callD 0 false).reads 1)) ((D.callD 0 false).callD 1 false)
  else (none, (D.callD 0 false).callE 1 false, (D.callD 0 false).callD 1 false)
 else (none, D.callE 0 false, D.callD 0 false)
def OpenAns (w : World) (p : Nat) (F : Nat → Prop) (R : Option Lg × Int × Dk) (N : Nat) (e : Ending) (w' : World) : Prop :=
 ∃ F', Dsk w' p R.2.2 F' ∧ (∀ k, F' k → F k ∨ w.heap.size ≤ k) ∧ Upd F w w' ∧ R.2.2.Ok (N + 1002000) ∧ match R.1 with
 |none => e = .returned (.tuple #[.pointer none, .int .i64 R.2.1])
 |some X => ∃ q G', e = .returned (.tuple #[.pointer (some ⟨q, 0, none⟩), .int .i64 0]) ∧ Log w' q p X G' ∧ (∀ k, G' k → w.heap.size ≤ k) ∧ (∀ k, G' k → ¬ F' k) ∧ X.Ok
theorem heap_setCells_at {w : World} {b o : Nat} {t : TypeId} {old vs : List Value} (h : w.heap[b]? = some (.cells old.toArray t (0, 0))) (hs : o + vs.length ≤ old.length) :
  (w.setCells b o vs).heap[b]? = some (.cells (old.take o ++ vs ++ old.drop (o + vs.length)).toArray t (0, 0)) := by
 rw [heap_setCells b t vs o w old.toArray h]
 have := splice_fold vs 0 o old.toArray (by simpa using hs)
 congr 2
 apply Array.toList_inj.1
 rw [this]
 simp
theorem there_sub {w : World} {b o m : Nat} {cs : Array Value} {t : TypeId} (h : w.heap[b]? = some (.cells cs t (0, 0))) (hs : o + m ≤ cs.size) : w.there b o m := fun j hj =>
 ⟨by rw [cell_of_heap h]; simp; omega, frozen_of_heap h⟩
theorem rangeAt_sub {w : World} {b o : Nat} {cs ds : List Value} {t : TypeId} (h : w.heap[b]? = some (.cells cs.toArray t (0, 0))) (hs : (cs.drop o).take ds.length = ds) : w.rangeAt b o ds := fun j v hj => by
 rw [cell_of_heap h, List.getElem?_toArray]
 have hjl := (List.getElem?_eq_some_iff.1 hj).1
 rw [← hs, List.getElem?_take_of_lt hjl, List.getElem?_drop] at hj
 exact hj
structure HdsAt (w : World) (p : Nat) (F : Nat → Prop) (a b : List Int) (D : Dk) (W : World) : Prop where
 dsk : Dsk W p D F
 upd : Upd F w W
 two : W.heap[w.heap.size]? = some (.cells (bcells a ++ bcells b).toArray 209 (0, 0))
 la : okBlk a
 lb : okBlk b
theorem HdsAt.kept {w W W' : World} {p : Nat} {F G : Nat → Prop} {a b : List Int} {D : Dk} (h : HdsAt w p F a b D W) (hu : Upd G W W') (hG : ∀ k, G k → w.heap.size < k) (hF : ∀ k, F k → k < w.heap.size) : HdsAt w p F a b D W' :=
 ⟨h.dsk.kept hu (fun k h1 h2 => by have := hG k h2; have := hF k h1; omega), h.upd.step hu (fun k h1 h2 => by have := hG k h2; omega), (hu.block _ (lt_of_heap h.two) (fun e => by have := hG _ e; omega)).trans h.two, h.la, h.lb⟩
theorem HdsAt.read {w W W' : World} {p : Nat} {F : Nat → Prop} {a b : List Int} {D D' : Dk} (h : HdsAt w p F a b D W) (hd' : Dsk W' p D' F) (hu : Upd F W W') (hF : ∀ k, F k → k < w.heap.size) : HdsAt w p F a b D' W' :=
 ⟨hd', h.upd.step hu (fun k _ h2 => h2), (hu.block _ (lt_of_heap h.two) (fun e => by have := hF _ e; omega)).trans h.two, h.la, h.lb⟩
def hdA (D : Dk) (k : Nat) : List Int := if k = 0 then zblk else D.reads 0
def hdB (D : Dk) (k : Nat) : List Int := if k ≤ 1 then zblk else (D.callD 0 false).reads 1
def hdD (D : Dk) (k : Nat) : Dk := if k = 0 then D else if k = 1 then D.callD 0 false else (D.callD 0 false).callD 1 false
theorem HdsAt.store {w W : World} {p : Nat} {F : Nat → Prop} {D : Dk} {k : Nat} {s : List Int} (h : HdsAt w p F (hdA D k) (hdB D k) (hdD D (k + 1)) W) (hk : k < 2) (hs : s = (hdD D k).reads (k : Int)) (hl : okBlk s) (hF : ∀ k, F k → k < w.heap.size) :
  HdsAt w p F (hdA D (k + 1)) (hdB D (k + 1)) (hdD D (k + 1)) (W.setCells w.heap.size (k * 64) (bcells s)) := by
 have hu : Upd (fun j => j = w.heap.size) W (W.setCells w.heap.size (k * 64) (bcells s)) := Upd.setCells (F := fun j => j = w.heap.size) rfl _ _ (Upd.refl _ W)
 have la := h.la.1; have lb := h.lb.1
 have hsl := hl.1
 have h2 := heap_setCells_at (o := k * 64) (vs := bcells s) h.two (by simp [bcells, la, lb, hsl]; omega)
 have hd := h.dsk.kept hu (fun j h1 h2 => by have := hF j h1; omega)
 have hup : Upd F w (W.setCells w.heap.size (k * 64) (bcells s)) := h.upd.step hu (fun j h1 h2 => by omega)
 have hk2 : k = 0 ∨ k = 1 := by omega
 rcases hk2 with rfl | rfl
 ·refine ⟨hd, hup, ?_, by subst hs; exact hl, h.lb⟩
  rw [h2]
  have e1 : (bcells (hdA D 0) ++ bcells (hdB D 0)).drop (0 * 64 + (bcells s).length) = bcells (hdB D 0) := by
   rw [Nat.zero_mul, Nat.zero_add]
   exact List.drop_left' (by rw [bcells_length, bcells_length, la, hsl])
  rw [e1, hs]
  simp [hdA, hdB, hdD]
 ·refine ⟨hd, hup, ?_, h.la, by subst hs; exact hl⟩
  rw [h2]
  have e1 : (bcells (hdA D 1) ++ bcells (hdB D 1)).drop (1 * 64 + (bcells s).length) = [] := by
   apply List.drop_eq_nil_of_le
   simp [bcells, la, lb, hsl]
  have e2 : (bcells (hdA D 1) ++ bcells (hdB D 1)).take (1 * 64) = bcells (hdA D 1) := List.take_left' (by rw [bcells_length, la])
  rw [e1, e2, hs]
  simp [hdA, hdB, hdD]
theorem hdD_ok {D : Dk} {N : Nat} (h : D.Ok N) (k : Nat) : (hdD D k).Ok (N + 2) := by
 unfold hdD
 split
 ·exact Dk.Ok.mono h (by omega)
 ·split
  ·exact Dk.Ok.mono (h.callD _ _) (by omega)
  ·exact Dk.Ok.mono ((h.callD _ _).callD _ _) (by omega)
theorem hdD_next {D : Dk} {k : Nat} (hk : k < 2) : (hdD D k).callD (k : Int) false = hdD D (k + 1) := by
 have hk2 : k = 0 ∨ k = 1 := by omega
 rcases hk2 with rfl | rfl <;> rfl
theorem openD_fails {D : Dk} {k : Nat} (hk : k < 2) (h0 : k = 1 → D.callE 0 false = 0) (he : (hdD D k).callE (k : Int) false ≠ 0) : openD D = (none, (hdD D k).callE (k : Int) false, hdD D (k + 1)) := by
 have hk2 : k = 0 ∨ k = 1 := by omega
 rcases hk2 with rfl | rfl
 ·unfold openD
  rw [if_neg (by exact he)]
  rfl
 ·unfold openD
  rw [if_pos (h0 rfl), if_neg (by exact he)]
  rfl
theorem Log.begin {w : World} {q p : Nat} {hd : Hd} (hq : w.heap[q]? = some (.cells #[.int .i64 hd.turn, .int .i64 hd.area, .int .i64 hd.place, .int .i64 hd.number, .pointer (some ⟨p, 0, none⟩), .slice none 0 0, .int .i64 0, .bool false] 193 (0, 0))) : Log w q p ⟨hd, [], 0, false⟩ (fun k => k = q) := by
 refine ⟨.slice none 0 0, [], ⟨hq, World.ownsRow_nil _ _ _ _, fun i v b hv => by simp at hv, fun k hk => by simp [Value.ownBlock] at hk, fun v k hv => by simp at hv⟩, fun k => ?_⟩
 simp [Gp, Value.ownBlock]
theorem Log.turned {w : World} {q p : Nat} {X : Lg} {G : Nat → Prop} (h : Log w q p X G) (t : Int) : Log (w.setCell ⟨q, 0, none⟩ (.int .i64 t)) q p { X with h := { X.h with turn := t } } G := by
 obtain ⟨PV, vs, h1, h2⟩ := h
 have hu := upd_own w q 0 (.int .i64 t)
 refine ⟨PV, vs, ⟨?_, ownsRow_any h1.row hu (fun k hk e => h1.nq k hk e), fun i v b hv hb => (h1.parts i v b hv hb).keptF hu (fun k hk e => (h1.nv v k (List.mem_of_getElem? hv) hk).1 e), h1.nq, h1.nv⟩, h2⟩
 have := blk_set (i := 0) (v := .int .i64 t) h1.main
 simpa [Lg.cells] using this
theorem countsF_says {a b : List Int} (ha : Bytes a) (hb : Bytes b) (h : (countsF a b).2 = true) : (countsF a b).1.Says ∧ 0 ≤ (countsF a b).1.place := by
 have hp : ∀ s, Bytes s → 0 ≤ (readF s).place := fun s hs => be_nonneg (fun x hx => hs x (List.mem_of_mem_drop hx))
 unfold countsF at h ⊢
 split at h
 ·rename_i h1
  rw [if_pos h1]
  exact ⟨((hOk_iff a).1 h1.1).1, hp a ha⟩
 ·rename_i h1
  rw [if_neg h1]
  exact ⟨((hOk_iff b).1 h).1, hp b hb⟩
theorem open_any {p : Nat} {F : Nat → Prop} {D : Dk} {N : Nat} (w : World) (hD : Dsk w p D F) (hdok : D.Ok N) (hN : N ≤ 1099500000000) :
  Calls Tryz.prog 61 #[.pointer (some ⟨p, 0, none⟩)] w fun e w' => OpenAns w p F (openD D) N e w' := by
 have hFL := hD.lt
 obtain ⟨R, hR⟩ : ∃ R, R = openD D := ⟨_, rfl⟩
 rw [← hR]
 have hu1 : Upd (fun _ => False) w (w.alloc (.cells (bcells zblk ++ bcells zblk).toArray 209)) := (Upd.refl _ w).alloc _
 have hat : HdsAt w p F (hdA D 0) (hdB D 0) (hdD D 0) (w.alloc (.cells (bcells zblk ++ bcells zblk).toArray 209)) := ⟨hD.kept hu1 (fun _ _ e => e), hu1.mono (fun _ _ e => e.elim), alloc_at rfl, zblk_ok, zblk_ok⟩
 obtain ⟨w1, hw1⟩ : ∃ w1, w1 = w.alloc (.cells (bcells zblk ++ bcells zblk).toArray 209) := ⟨_, rfl⟩
 rw [← hw1] at hat
 have HAT := Lib.hid hat; have HOK := Lib.hid hdok; have HFL := Lib.hid hFL; have HR := Lib.hid hR
 clear hD hdok hFL hR hu1 hat
 go_enter Tryz.func61, Tryz.ntmps61
 go_upto_region 2 with fail
 refine (?_ : Code.wp _ _ _ _ (w.alloc (.cells (bcells zblk ++ bcells zblk).toArray 209)))
 rw [← hw1]
 clear hw1
 go_upto_region 3 with fail
 go_loopg [13] 2 (fun gk i wr => ∃ k : Nat, k ≤ 2 ∧ gk = 2 - k ∧ i = .int .i64 k ∧ (1 ≤ k → D.callE 0 false = 0) ∧ (2 ≤ k → (D.callD 0 false).callE 1 false = 0) ∧ HdsAt w p F (hdA D k) (hdB D k) (hdD D k) wr)
 case atStart => exact ⟨0, by omega, rfl, rfl, fun e => by omega, fun e => by omega, HAT.out⟩
 case round =>
  obtain ⟨k, hk, rfl, rfl, hE0, hE1, hat⟩ := hrel
  obtain ⟨wo, rfl⟩ : ∃ wo, wo = wr := ⟨_, rfl⟩
  have HA := Lib.hid hat; have HE0 := Lib.hid hE0; have HE1 := Lib.hid hE1
  clear hat hE0 hE1 HAT
  by_cases hk2 : k < 2
  ·have hk2i : (k : Int) < 2 := by omega
   go_wp2_with (go_at_call 17; fail)
   refine (read_any (k : Int) wo HA.out.dsk (Dk.Ok.mono (hdD_ok HOK.out k) (by omega))).mono ?_
   rintro e w3 ⟨rfl, hd3, hu3⟩
   rw [hdD_next hk2] at hd3
   have hat3 := HA.out.read hd3 hu3 HFL.out
   have hsb := reads_blk (Dk.Ok.mono (hdD_ok HOK.out k) (show N + 2 ≤ 1099511627774 by omega)) (k : Int)
   have hfail := openD_fails (D := D) hk2 (fun e => HE0.out (by omega))
   obtain ⟨s, hs⟩ : ∃ s, s = (hdD D k).reads (k : Int) := ⟨_, rfl⟩
   obtain ⟨E, hE⟩ : ∃ E, E = (hdD D k).callE (k : Int) false := ⟨_, rfl⟩
   rw [← hs] at hsb ⊢
   rw [← hE] at hfail ⊢
   obtain ⟨f1, f2, f3⟩ := fresh56 w3 s hsb.1
   have HIS : RowKit.Hid ((Tryz.prog.info? 48).map (·.size) = some (bcells s).length) := Lib.hid (by rw [Tryz.info56p]; simp [bcells, hsb.1])
   have H1B := Lib.hid (all_oneCell_toArray (bcells_one s))
   have F1 := Lib.hid f1; have HSB := Lib.hid f2; have HSL := Lib.hid hsb; have HFAIL := Lib.hid hfail; have HE := Lib.hid hE; have HS := Lib.hid hs
   have HA4 := Lib.hid (hat3.kept f3 (fun _ e => e.elim) HFL.out)
   have HW3 : RowKit.Hid (w.heap.size < w3.heap.size) := Lib.hid (lt_of_heap hat3.two)
   clear f1 f2 f3 hsb hu3 hd3 hat3 hfail hE hs HA
   simp only []
   iterate 13 go_step
   refine (?_ : wpList _ _ _ _ _ (w3.alloc (.cells (bcells zblk).toArray 48)))
   refine wpList_store_mid rfl 48 (.tmp 6) (.tmp 20) rfl w3.heap.size 0 (bcells s).toArray rfl rfl F1.out (by rw [HIS.out]; simp) H1B.out ?_
   obtain ⟨w4, hw4⟩ : ∃ w4, w4 = (w3.alloc (.cells (bcells zblk).toArray 48)).setCells w3.heap.size 0 (bcells s) := ⟨_, rfl⟩
   rw [← hw4] at HA4 HSB
   rw [show (bcells s).toArray.toList = bcells s from rfl, ← hw4]
   clear hw4 F1
   obtain ⟨gs, hgs⟩ : ∃ gs, gs = w3.heap.size := ⟨_, rfl⟩
   rw [← hgs] at HSB HW3 ⊢
   clear hgs
   by_cases hE0 : E = 0
   rotate_left
   ·have hEb : (E != 0) = true := by simpa using hE0
    have HRE := Lib.hid (HFAIL.out hE0)
    clear hE0
    go_wp2
    go_returns
    rw [HR.out, HRE.out]
    exact ⟨F, HA4.out.dsk, fun k hk => .inl hk, HA4.out.upd, Dk.Ok.mono (hdD_ok HOK.out (k + 1)) (by omega), rfl⟩
   ·subst hE0
    go_upto_region 8 with fail
    have HNX := Lib.hid (HA4.out.store hk2 HS.out HSL.out HFL.out)
    have HTH := Lib.hid (there_sub (o := k * 64) (m := (bcells s).toArray.size) HA4.out.two (by have h1 := HA4.out.la.1; have h2 := HA4.out.lb.1; have h3 := HSL.out.1; simp [bcells, h1, h2, h3]; omega))
    have HE0' : RowKit.Hid (1 ≤ k + 1 → D.callE 0 false = 0) := Lib.hid (fun _ => by
     by_cases e : k = 0
     ·have := HE.out; rw [e] at this; exact this.symm
     ·exact HE0.out (by omega))
    have HE1' : RowKit.Hid (2 ≤ k + 1 → (D.callD 0 false).callE 1 false = 0) := Lib.hid (fun e2 => by
     have e : k = 1 := by omega
     have := HE.out; rw [e] at this; exact this.symm)
    have hcase : k = 0 ∨ k = 1 := by omega
    clear HE0 HE1 HE HS HFAIL
    rcases hcase with rfl | rfl
    ·iterate 4 go_step
     refine wpList_load_mid rfl 48 (.tmp 6) rfl gs 0 rfl (bcells s) _ (rangeAt_block HSB.out) Tryz.underlying48 rfl HIS.out ?_
     iterate 3 go_step
     refine wpList_store_mid rfl 48 (.tmp 27) (.tmp 26) rfl w.heap.size 0 (bcells s).toArray rfl rfl HTH.out (by rw [HIS.out]; simp) H1B.out ?_
     obtain ⟨w5, hw5⟩ : ∃ w5, w5 = w4.setCells w.heap.size (0 * 64) (bcells s) := ⟨_, rfl⟩
     rw [← hw5] at HNX
     refine (?_ : wpList _ _ _ _ _ (w4.setCells w.heap.size (0 * 64) (bcells s)))
     rw [← hw5]
     clear hw5
     go_wp2
     go_roundg (2 - (0 + 1))
     case measure => omega
     case rel => exact ⟨0 + 1, by omega, rfl, rfl, HE0'.out, HE1'.out, HNX.out⟩
    ·iterate 4 go_step
     refine wpList_load_mid rfl 48 (.tmp 6) rfl gs 0 rfl (bcells s) _ (rangeAt_block HSB.out) Tryz.underlying48 rfl HIS.out ?_
     iterate 3 go_step
     refine wpList_store_mid rfl 48 (.tmp 27) (.tmp 26) rfl w.heap.size 64 (bcells s).toArray rfl rfl HTH.out (by rw [HIS.out]; simp) H1B.out ?_
     obtain ⟨w5, hw5⟩ : ∃ w5, w5 = w4.setCells w.heap.size (1 * 64) (bcells s) := ⟨_, rfl⟩
     rw [← hw5] at HNX
     refine (?_ : wpList _ _ _ _ _ (w4.setCells w.heap.size (1 * 64) (bcells s)))
     rw [← hw5]
     clear hw5
     go_wp2
     go_roundg (2 - (1 + 1))
     case measure => omega
     case rel => exact ⟨1 + 1, by omega, rfl, rfl, HE0'.out, HE1'.out, HNX.out⟩
  ·obtain rfl : k = 2 := by omega
   have hRH : R = openH (countsF (D.reads 0) ((D.callD 0 false).reads 1)) (hdD D 2) := by
    rw [HR.out]; unfold openD
    rw [if_pos (HE0.out (by omega)), if_pos (HE1.out (by omega))]
    rfl
   have hA2 : hdA D 2 = D.reads 0 := rfl
   have hB2 : hdB D 2 = (D.callD 0 false).reads 1 := rfl
   have hdk := hdD_ok HOK.out 2
   have hat := HA.out
   rw [hA2, hB2] at hat
   obtain ⟨a, ha⟩ : ∃ a, a = D.reads 0 := ⟨_, rfl⟩
   obtain ⟨b, hb⟩ : ∃ b, b = (D.callD 0 false).reads 1 := ⟨_, rfl⟩
   obtain ⟨D2, hD2⟩ : ∃ D2, D2 = hdD D 2 := ⟨_, rfl⟩
   rw [← ha, ← hb, ← hD2] at hRH
   rw [← ha, ← hb, ← hD2] at hat
   rw [← hD2] at hdk
   have hla := hat.la.1; have hlb := hat.lb.1
   have hra := rangeAt_sub (o := 0) (ds := bcells a) hat.two (by rw [List.drop_zero]; exact List.take_left' rfl)
   have hrb := rangeAt_sub (o := 64) (ds := bcells b) hat.two (by rw [List.drop_left' (by rw [bcells_length, hla])]; exact List.take_of_length_le (Nat.le_refl _))
   have HIA : RowKit.Hid ((Tryz.prog.info? 48).map (·.size) = some (bcells a).length) := Lib.hid (by rw [Tryz.info56p]; simp [bcells, hla])
   have HIB : RowKit.Hid ((Tryz.prog.info? 48).map (·.size) = some (bcells b).length) := Lib.hid (by rw [Tryz.info56p]; simp [bcells, hlb])
   have hcn := counts_any wo hla hlb hat.la.2 hat.lb.2
   have hsy := countsF_says hat.la.2 hat.lb.2
   obtain ⟨cf, hcf⟩ : ∃ cf, cf = countsF a b := ⟨_, rfl⟩
   rw [← hcf] at hcn hsy hRH
   obtain ⟨hh, cok⟩ := cf
   simp only at hcn hsy hRH
   have HRA := Lib.hid hra; have HRB := Lib.hid hrb; have HCN := Lib.hid hcn; have HSY := Lib.hid hsy; have HRH := Lib.hid hRH; have HDK := Lib.hid hdk; have HA2 := Lib.hid hat
   clear hRH hA2 hB2 hdk hat ha hb hD2 hla hlb hra hrb hcn hsy hcf HE0 HE1 HA HOK
   go_upto_region 10 with fail
   iterate 4 go_step
   refine wpList_load_mid rfl 48 (.tmp 30) rfl w.heap.size 0 rfl (bcells a) _ HRA.out Tryz.underlying48 rfl HIA.out ?_
   iterate 3 go_step
   refine wpList_load_mid rfl 48 (.tmp 32) rfl w.heap.size 64 rfl (bcells b) _ HRB.out Tryz.underlying48 rfl HIB.out ?_
   go_wp2_with (go_at_call 130; fail)
   refine HCN.out.mono ?_
   rintro e w6 ⟨rfl, hu6⟩
   have HA6 := Lib.hid (HA2.out.kept hu6 (fun _ e => e.elim) HFL.out)
   clear hu6 HCN HRA HRB HIA HIB HA2
   simp only [Hd.val]
   go_upto_region 11 with fail
   obtain ⟨bh, hbh⟩ : ∃ bh, bh = w6.heap.size := ⟨_, rfl⟩
   obtain ⟨w7, hw7⟩ : ∃ w7, w7 = w6.alloc (.cells #[.int .i64 hh.turn, .int .i64 hh.area, .int .i64 hh.place, .int .i64 hh.number] 184) := ⟨_, rfl⟩
   have HBH : RowKit.Hid (w7.heap[bh]? = some (.cells #[.int .i64 hh.turn, .int .i64 hh.area, .int .i64 hh.place, .int .i64 hh.number] 184 (0, 0))) := Lib.hid (by rw [hw7, hbh]; exact alloc_at rfl)
   have HBG : RowKit.Hid (w.heap.size < bh) := Lib.hid (by rw [hbh]; exact lt_of_heap HA6.out.two)
   have HA7 : RowKit.Hid (HdsAt w p F a b D2 w7) := Lib.hid (by rw [hw7]; exact HA6.out.kept ((Upd.refl (fun _ => False) w6).alloc _) (fun _ e => e.elim) HFL.out)
   rw [← hbh, ← hw7]
   have HD7 := Lib.hid HA7.out.dsk
   clear hbh hw7 HA6
   cases cok with
   |false =>
    have HRE : RowKit.Hid (R = (none, 140, D2)) := Lib.hid (by rw [HRH.out]; unfold openH; rw [if_pos (.inl rfl)])
    go_quiet (fail)
    go_wp2
    go_returns
    rw [HRE.out]
    have hun : ∀ n, Upd (fun _ => False) w7 (w7.drewN n) := fun n => ⟨rfl, rfl, rfl, Nat.le_refl _, fun _ _ _ => rfl⟩
    exact ⟨F, HA7.out.dsk.kept (hun _) (fun _ _ e => e), fun k hk => .inl hk, HA7.out.upd.trans ((hun _).mono (fun _ _ e => e.elim)), Dk.Ok.mono HDK.out (by omega), rfl⟩
   |true =>
    obtain ⟨hsays, hpl⟩ := HSY.out rfl
    have har := hsays.area; have hnum := hsays.number; have htu := hsays.turn; have hpl2 := hsays.place
    have hA : Upd (fun _ => False) w7 w7.drew := (Upd.refl _ w7).drew
    have hv1 : IntKind.i64.wrap (2 * hh.area) = 2 * hh.area := by rw [IntKind.wrap_i64]; omega
    have hv2 : IntKind.i64.wrap (2 + 2 * hh.area) = 2 + 2 * hh.area := by rw [IntKind.wrap_i64]; omega
    have HSAYS := Lib.hid hsays
    clear hsays HSY
    refine wp_region_G 10 (fun W => Upd (fun _ => False) w7 W) [false, false, false, false, false, false, false, false, false, false, false] rfl (by kernel_rfl) ?_
    refine wpG_takeT (i := 0) (v := .bool true) rfl (fun L hc h => (hc.waits (n := 10) (i := 2) (by kernel_rfl) (hc.waits (n := 2) (i := 1) (by kernel_rfl) (hc.waits (n := 1) (i := 0) (by kernel_rfl) h)))) (by kernel_rfl) (fun _ _ _ h => h) hA (.inl ⟨rfl, fun w5 q1 => ?_⟩) ?_
    ·go_simp
    simp only [Act.put, List.setIfInBounds_toArray, List.set]
    refine wpG_takeT (i := 1) (v := .bool false) rfl (fun L hc h => (hc.waits (n := 10) (i := 2) (by kernel_rfl) (hc.waits (n := 2) (i := 1) (by kernel_rfl) h))) (by kernel_rfl) (fun _ _ _ h => h) hA (.inl ⟨rfl, fun w5 q1 => ?_⟩) ?_
    ·go_simp
    simp only [Act.put, List.setIfInBounds_toArray, List.set]
    refine wpG_takeT (i := 2) (v := .bool false) rfl (fun L hc h => (hc.waits (n := 10) (i := 2) (by kernel_rfl) h)) (by kernel_rfl) (fun _ _ _ h => h) hA (.inl ⟨rfl, fun w5 q1 => ?_⟩) ?_
    ·go_simp
    simp only [Act.put, List.setIfInBounds_toArray, List.set]
    refine wpG_takeT (i := 3) (v := .pointer (some ⟨p, 0, none⟩)) rfl (fun L hc h => (hc.waits (n := 10) (i := 9) (by kernel_rfl) (hc.waits (n := 9) (i := 4) (by kernel_rfl) (hc.waits (n := 4) (i := 3) (by kernel_rfl) h)))) (by kernel_rfl) (fun _ _ _ h => h) hA (.inl ⟨rfl, fun w5 q1 => ?_⟩) ?_
    ·go_simp
    simp only [Act.put, List.setIfInBounds_toArray, List.set]
    refine wpG_takeT (i := 5) (v := .pointer (some ⟨bh, 1, none⟩)) rfl (fun L hc h => (hc.waits (n := 10) (i := 9) (by kernel_rfl) (hc.waits (n := 9) (i := 8) (by kernel_rfl) (hc.waits (n := 8) (i := 7) (by kernel_rfl) (hc.waits (n := 7) (i := 6) (by kernel_rfl) (hc.waits (n := 6) (i := 5) (by kernel_rfl) h)))))) (by kernel_rfl) (fun _ _ _ h => h) hA (.inl ⟨rfl, fun w5 q1 => ?_⟩) ?_
    ·go_simp
    simp only [Act.put, List.setIfInBounds_toArray, List.set]
    refine wpG_takeT (i := 6) (v := .int .i64 hh.area) rfl (fun L hc h => (hc.waits (n := 10) (i := 9) (by kernel_rfl) (hc.waits (n := 9) (i := 8) (by kernel_rfl) (hc.waits (n := 8) (i := 7) (by kernel_rfl) (hc.waits (n := 7) (i := 6) (by kernel_rfl) h))))) (by kernel_rfl) (fun _ _ _ h => h) hA (.inl ⟨rfl, fun w5 q1 => ?_⟩) ?_
    ·have cc : w5.cell? ⟨bh, 1, none⟩ = some (.int .i64 hh.area) := by simp [World.cell?, (q1.block _ (lt_of_heap HBH.out) (fun e => e)).trans HBH.out]
     go_simp
    simp only [Act.put, List.setIfInBounds_toArray, List.set]
    refine wpG_takeT (i := 7) (v := .int .i64 (2 * hh.area)) rfl (fun L hc h => (hc.waits (n := 10) (i := 9) (by kernel_rfl) (hc.waits (n := 9) (i := 8) (by kernel_rfl) (hc.waits (n := 8) (i := 7) (by kernel_rfl) h)))) (by kernel_rfl) (fun _ _ _ h => h) hA (.inl ⟨rfl, fun w5 q1 => ?_⟩) ?_
    ·go_simp
    simp only [Act.put, List.setIfInBounds_toArray, List.set]
    refine wpG_takeT (i := 8) (v := .int .i64 (2 + 2 * hh.area)) rfl (fun L hc h => (hc.waits (n := 10) (i := 9) (by kernel_rfl) (hc.waits (n := 9) (i := 8) (by kernel_rfl) h))) (by kernel_rfl) (fun _ _ _ h => h) hA (.inl ⟨rfl, fun w5 q1 => ?_⟩) ?_
    ·go_simp
    simp only [Act.put, List.setIfInBounds_toArray, List.set]
    refine wpG_doIf (i := 4) rfl (by kernel_rfl) rfl (fun K hK => ?_)
    have HKK := Lib.hid hK
    clear hK
    go_step
    refine (len_any _ (HD7.out.kept hA (fun _ _ e => e))).mono ?_
    rintro e w8 ⟨rfl, rfl⟩
    simp only []
    refine HKK.out _ _ hA ?_
    clear HKK
    simp only [List.setIfInBounds_toArray, List.set]
    refine wpG_takeT (i := 9) (v := .bool (decide ((D2.arr.length : Int) < 2 + 2 * hh.area))) rfl (fun L hc h => (hc.waits (n := 10) (i := 9) (by kernel_rfl) h)) (by kernel_rfl) (fun _ _ _ h => h) hA (.inl ⟨rfl, fun w5 q1 => ?_⟩) ?_
    ·go_simp
    simp only [Act.put, List.setIfInBounds_toArray, List.set]
    refine wpG_tail_lit (k := 10) rfl rfl (by kernel_rfl) ?_
    simp only [List.drop]
    clear hv1 hv2
    have HA8 := Lib.hid (HA7.out.kept hA (fun _ e => e.elim) HFL.out)
    have HBH8 := Lib.hid ((hA.block _ (lt_of_heap HBH.out) (fun e => e)).trans HBH.out)
    clear hA HA7 HBH HD7
    obtain ⟨w8, hw8⟩ : ∃ w8, w8 = w7.drew := ⟨_, rfl⟩
    rw [← hw8] at HA8 HBH8 ⊢
    clear hw8
    by_cases hln : (D2.arr.length : Int) < 2 + 2 * hh.area
    ·have hq : decide ((D2.arr.length : Int) < 2 + 2 * hh.area) = true := by simpa using hln
     have HRE : RowKit.Hid (R = (none, 140, D2)) := Lib.hid (by rw [HRH.out]; unfold openH; rw [if_pos (.inr hln)])
     go_wp2
     go_returns
     rw [HRE.out]
     exact ⟨F, HA8.out.dsk, fun k hk => .inl hk, HA8.out.upd, Dk.Ok.mono HDK.out (by omega), rfl⟩
    ·have hq : decide ((D2.arr.length : Int) < 2 + 2 * hh.area) = false := by simpa using hln
     have HRE : RowKit.Hid (R = openP hh (foundD hh 1001 [] 0 D2)) := Lib.hid (by rw [HRH.out]; unfold openH; rw [if_neg (by simp; omega)])
     have c0 : w8.cell? ⟨bh, 0, none⟩ = some (.int .i64 hh.turn) := by simp [World.cell?, HBH8.out]
     have c1 : w8.cell? ⟨bh, 1, none⟩ = some (.int .i64 hh.area) := by simp [World.cell?, HBH8.out]
     have c2 : w8.cell? ⟨bh, 2, none⟩ = some (.int .i64 hh.place) := by simp [World.cell?, HBH8.out]
     have c3 : w8.cell? ⟨bh, 3, none⟩ = some (.int .i64 hh.number) := by simp [World.cell?, HBH8.out]
     go_wp2_with (go_at_call 131; fail)
     have hcf := found_any (q := w8.heap.size) (X := ⟨hh, [], 0, false⟩) (G := fun k => k = w8.heap.size) (F := F) (D := D2) (N := N + 2) (p := p) (w8.alloc (.cells #[.int .i64 hh.turn, .int .i64 hh.area, .int .i64 hh.place, .int .i64 hh.number, .pointer (some ⟨p, 0, none⟩), .slice none 0 0, .int .i64 0, .bool false] 193))
      (Log.begin (alloc_at rfl)) ⟨by show 0 ≤ hh.turn ∧ hh.turn ≤ _; omega, har, by show 0 ≤ hh.place ∧ hh.place ≤ _; omega, by show 0 ≤ hh.number ∧ hh.number ≤ _; omega, by show (0 : Int) ≤ 0 ∧ (0 : Int) ≤ 1000; omega, by simp, fun b hb => by simp at hb⟩ rfl (by show (0 : Int) ≤ hh.area; omega) (by simp)
      (HA8.out.dsk.kept ((Upd.refl (fun _ => False) w8).alloc _) (fun _ _ e => e)) HDK.out (by omega) (fun k hk e => by have := HFL.out k e; have := lt_of_heap HA8.out.two; omega)
     have hu9 : Upd (fun _ => False) w8 (w8.alloc (.cells #[.int .i64 hh.turn, .int .i64 hh.area, .int .i64 hh.place, .int .i64 hh.number, .pointer (some ⟨p, 0, none⟩), .slice none 0 0, .int .i64 0, .bool false] 193)) := (Upd.refl _ w8).alloc _
     obtain ⟨w9, hw9⟩ : ∃ w9, w9 = w8.alloc (.cells #[.int .i64 hh.turn, .int .i64 hh.area, .int .i64 hh.place, .int .i64 hh.number, .pointer (some ⟨p, 0, none⟩), .slice none 0 0, .int .i64 0, .bool false] 193) := ⟨_, rfl⟩
     refine (?_ : Calls _ _ _ (w8.alloc (.cells #[.int .i64 hh.turn, .int .i64 hh.area, .int .i64 hh.place, .int .i64 hh.number, .pointer (some ⟨p, 0, none⟩), .slice none 0 0, .int .i64 0, .bool false] 193)) _)
     have hs9 : w9.heap.size = w8.heap.size + 1 := by rw [hw9]; simp
     rw [← hw9] at hcf hu9 ⊢
     clear hw9
     obtain ⟨q, hq0⟩ : ∃ q, q = w8.heap.size := ⟨_, rfl⟩
     have hqw : w.heap.size < q := by rw [hq0]; exact lt_of_heap HA8.out.two
     have hup9 : Upd F w w9 := HA8.out.upd.trans (hu9.mono (fun _ _ e => e.elim))
     have hqF : ¬ F q := fun e => by have := HFL.out q e; omega
     rw [← hq0] at hcf hs9 ⊢
     obtain ⟨RF, hRF⟩ : ∃ RF, RF = foundD hh 1001 [] 0 D2 := ⟨_, rfl⟩
     simp only at hcf
     rw [← hRF] at hcf HRE
     have HUP := Lib.hid hup9; have HQF := Lib.hid hqF; have HS9 := Lib.hid hs9
     clear hq0 hu9 hup9 hqF hs9 hRF HA8 HBH8 c0 c1 c2 c3 HRH HDK hq
     refine hcf.mono ?_
     clear hcf
     rintro e w10 ⟨Y, G', D', rfl, y1, y2, y3, y4, y5, y6, rfl, y8, y9, y10, y11, y12⟩
     have HUPA : RowKit.Hid (Upd F w w10) := Lib.hid (HUP.out.step y12 (fun k hk e => e.elim (fun e => by omega) id))
     have HGW : RowKit.Hid (∀ k, G' k → w.heap.size ≤ k) := Lib.hid (fun k hk => (y9 k hk).elim (fun e => by omega) (fun e => by have := HS9.out; omega))
     have HGF : RowKit.Hid (∀ k, G' k → ¬ F k) := Lib.hid (fun k hk e => by have := HGW.out k hk; have := HFL.out k e; omega)
     have hyh : Y.h = hh := y1
     have y8' := y8
     obtain ⟨PV, vs, hl1, hl2⟩ := y8
     obtain ⟨pa, pc, rfl⟩ := rowV hl1.row
     have HM := Lib.hid hl1.main; have HLG := Lib.hid y8'; have HD10 := Lib.hid y10; have HK10 := Lib.hid y11; have HYP := Lib.hid y3; have HYO := Lib.hid y6; have HYH := Lib.hid hyh; have HYU := Lib.hid y4; have HYB := Lib.hid y2
     clear y1 y2 y3 y4 y5 y6 y8' y9 y10 y11 y12 hl1 hl2 hyh HUP HS9
     simp only []
     by_cases hE : RF.2.1 = 0
     rotate_left
     ·have hEb : (RF.2.1 != 0) = true := by simpa using hE
      have HRE2 : RowKit.Hid (R = (none, RF.2.1, RF.2.2)) := Lib.hid (by rw [HRE.out]; unfold openP; rw [if_neg hE])
      clear hE
      go_wp2
      go_returns
      rw [HRE2.out]
      exact ⟨F, HD10.out, fun k hk => .inl hk, HUPA.out, Dk.Ok.mono HK10.out (by omega), rfl⟩
     ·have hEb : (RF.2.1 != 0) = false := by simpa using hE
      have HRE2 : RowKit.Hid (R = if RF.1 = [] ∨ hh.turn = 1073741824 then (none, 140, RF.2.2) else openL { hh with turn := hh.turn + 1 } RF.1 RF.2.2) := Lib.hid (by rw [HRE.out]; unfold openP; rw [if_pos hE])
      have c0 : w10.cell? ⟨q, 0, none⟩ = some (.int .i64 hh.turn) := by rw [← HYH.out]; simp [World.cell?, HM.out, Lg.cells]
      have c5 : w10.cell? ⟨q, 5, none⟩ = some (.slice pa Y.parts.length pc) := by simp [World.cell?, HM.out, Lg.cells]
      clear hE
      go_upto_region 17 with fail
      by_cases hp0 : Y.parts = []
      ·have hz : ((Y.parts.length : Int) == 0) = true := by rw [hp0]; rfl
       have HRE3 : RowKit.Hid (R = (none, 140, RF.2.2)) := Lib.hid (by rw [HRE2.out, if_pos (.inl (by rw [← HYP.out, hp0]))])
       clear hp0
       go_wp2
       go_returns
       rw [HRE3.out]
       exact ⟨F, HD10.out, fun k hk => .inl hk, HUPA.out, Dk.Ok.mono HK10.out (by omega), rfl⟩
      ·have hz : ((Y.parts.length : Int) == 0) = false := by
        have : Y.parts.length ≠ 0 := fun e => hp0 (List.length_eq_zero_iff.1 e)
        simp; omega
       by_cases htm : hh.turn = 1073741824
       ·have htb : (hh.turn == 1073741824) = true := by simpa using htm
        have HRE3 : RowKit.Hid (R = (none, 140, RF.2.2)) := Lib.hid (by rw [HRE2.out, if_pos (.inr htm)])
        clear hp0 htm
        go_wp2
        go_returns
        rw [HRE3.out]
        exact ⟨F, HD10.out, fun k hk => .inl hk, HUPA.out, Dk.Ok.mono HK10.out (by omega), rfl⟩
       ·have htb : (hh.turn == 1073741824) = false := by simpa using htm
        have HRE3 : RowKit.Hid (R = openL { hh with turn := hh.turn + 1 } RF.1 RF.2.2) := Lib.hid (by rw [HRE2.out, if_neg (fun e => e.elim (fun e => hp0 (by rw [HYP.out, e])) htm)])
        have hv1 : IntKind.i64.wrap (hh.turn + 1) = hh.turn + 1 := by rw [IntKind.wrap_i64]; omega
        have hf0 : w10.frozen? ⟨q, 0, none⟩ = false := frozen_of_heap HM.out
        clear hp0 htm HRE2
        go_upto_region 20 with fail
        have hu11 : Upd (fun k => k = q) w10 (w10.setCell ⟨q, 0, none⟩ (.int .i64 (hh.turn + 1))) := upd_own w10 q 0 _
        have hlg11 := HLG.out.turned (hh.turn + 1)
        have hye : ({ Y with h := { Y.h with turn := hh.turn + 1 } } : Lg) = ⟨{ hh with turn := hh.turn + 1 }, RF.1, usedOf RF.1, false⟩ := by
         have h1 := HYH.out; have h2 := HYP.out; have h3 := HYU.out; have h4 := HYB.out
         rcases Y with ⟨ya, yb, yc, yd⟩
         simp only at h1 h2 h3 h4
         subst h1 h4
         rw [h3, h2]
        rw [hye] at hlg11
        have hok11 : (⟨{ hh with turn := hh.turn + 1 }, RF.1, usedOf RF.1, false⟩ : Lg).Ok := by
         rw [← hye]
         have h := HYO.out
         exact ⟨by show 0 ≤ hh.turn + 1 ∧ hh.turn + 1 ≤ 1073741824; have : hh.turn ≠ 1073741824 := by simpa using htb
                   omega, h.area, h.place, h.number, h.used, h.len, h.bytes⟩
        obtain ⟨w11, hw11⟩ : ∃ w11, w11 = w10.setCell ⟨q, 0, none⟩ (.int .i64 (hh.turn + 1)) := ⟨_, rfl⟩
        rw [← hw11] at hu11 hlg11 ⊢
        obtain ⟨PV2, vs2, hm1, hm2⟩ := hlg11
        have hm := hm1.main
        have d0 : w11.cell? ⟨q, 0, none⟩ = some (.int .i64 (hh.turn + 1)) := by simp [World.cell?, hm, Lg.cells]
        have d1 : w11.cell? ⟨q, 1, none⟩ = some (.int .i64 hh.area) := by simp [World.cell?, hm, Lg.cells]
        have d2 : w11.cell? ⟨q, 2, none⟩ = some (.int .i64 hh.place) := by simp [World.cell?, hm, Lg.cells]
        have d3 : w11.cell? ⟨q, 3, none⟩ = some (.int .i64 hh.number) := by simp [World.cell?, hm, Lg.cells]
        have HLG11 : RowKit.Hid (Log w11 q p ⟨{ hh with turn := hh.turn + 1 }, RF.1, usedOf RF.1, false⟩ G') := Lib.hid ⟨PV2, vs2, hm1, hm2⟩
        have HOK11 := Lib.hid hok11
        have HU11 : RowKit.Hid (Upd F w w11) := Lib.hid (HUPA.out.step hu11 (fun k hk e => by omega))
        have HD11 := Lib.hid (HD10.out.kept hu11 (fun k hk e => HQF.out (by rw [← e]; exact hk)))
        have hun : ({ hh with turn := hh.turn + 1 } : Hd).U32 := ⟨by show 0 ≤ hh.turn + 1 ∧ hh.turn + 1 ≤ 4294967295; omega, by show 0 ≤ hh.area ∧ hh.area ≤ 4294967295; omega, by show 0 ≤ hh.place ∧ hh.place ≤ 4294967295; omega, by show 0 ≤ hh.number ∧ hh.number ≤ 4294967295; omega⟩
        have HLD := Lib.hid (laid_any w11 HD11.out HK10.out (by omega) hun)
        have hdl := Dk.lays_ok [headSc ({ hh with turn := hh.turn + 1 } : Hd)] HK10.out
        have HDL := Lib.hid hdl
        clear hu11 hye hok11 hw11 hm1 hm2 hm hun hdl c0 c5 hf0 hv1 HM HLG HUPA HYO HYH HYP HYU HYB
        go_wp2_with (go_at_call 112; fail)
        refine HLD.out.mono ?_
        rintro e w12 ⟨rfl, F', hd12, hF', hu12⟩
        rw [show raw [headSc ({ hh with turn := hh.turn + 1 } : Hd)] = [({ hh with turn := hh.turn + 1 } : Hd).laid] from rfl] at hd12 ⊢
        rw [show raw [headSc ({ hh with turn := hh.turn + 1 } : Hd)] = [({ hh with turn := hh.turn + 1 } : Hd).laid] from rfl] at HDL
        have HD12 := Lib.hid hd12; have HF' := Lib.hid hF'; have HU12 := Lib.hid hu12
        clear hd12 hF' hu12 HLD
        obtain ⟨E, hE⟩ : ∃ E, E = RF.2.2.laysE [({ hh with turn := hh.turn + 1 } : Hd).laid] := ⟨_, rfl⟩
        have HE := Lib.hid hE
        rw [← hE]
        clear hE
        have HUF : RowKit.Hid (Upd F w w12) := Lib.hid (HU11.out.step HU12.out (fun k _ e => e))
        have HFF : RowKit.Hid (∀ k, F' k → F k ∨ w.heap.size ≤ k) := Lib.hid (fun k hk => (HF'.out k hk).imp id (fun e => by have := HU11.out.size; omega))
        simp only []
        by_cases hE0 : E = 0
        ·have hEb : (E != 0) = false := by simpa using hE0
         have HR4 : RowKit.Hid (R = (some ⟨{ hh with turn := hh.turn + 1 }, RF.1, usedOf RF.1, false⟩, 0, RF.2.2.lays [({ hh with turn := hh.turn + 1 } : Hd).laid])) := Lib.hid (by
          rw [HRE3.out]; unfold openL; rw [if_pos (by rw [← HE.out]; exact hE0)])
         clear hE0
         go_wp2
         go_returns
         rw [HR4.out]
         exact ⟨F', HD12.out, HFF.out, HUF.out, Dk.Ok.mono HDL.out (by simp), q, G', rfl, HLG11.out.kept HU12.out HGF.out, HGW.out, fun k hk e => (HF'.out k e).elim (fun e => HGF.out k hk e) (fun e => by have := HLG11.out.lt k hk; omega), HOK11.out⟩
        ·have hEb : (E != 0) = true := by simpa using hE0
         have HR4 : RowKit.Hid (R = (none, E, RF.2.2.lays [({ hh with turn := hh.turn + 1 } : Hd).laid])) := Lib.hid (by
          rw [HRE3.out]; unfold openL; rw [if_neg (by rw [← HE.out]; exact hE0), HE.out])
         clear hE0
         go_wp2
         go_returns
         rw [HR4.out]
         exact ⟨F', HD12.out, HFF.out, HUF.out, Dk.Ok.mono HDL.out (by simp), rfl⟩
end
end Go.Proofs.YtbimkhdiplnbfaaGreat
