/- Walks: lays: sectors written one behind the other, and synced. -/
import Derived.Test.YtbimkhdiplnbfaaGreatY3
import Derived.Test.YtbimkhdiplnbfaaGreatY11
import Derived.Test.YtbimkhdiplnbfaaGreatY15
import Derived.Test.YtbimkhdiplnbfaaGreatY16
import Derived.Scope
import Derived.Sort.LoopGhostIn
import Derived.Sort.CutIn
import Derived.Maps.AppendAt
set_option linter.unusedVariables false
set_option linter.unusedSimpArgs false
namespace Go.Proofs.YtbimkhdiplnbfaaGreat
set_option maxRecDepth 1000000
set_option maxHeartbeats 16000000
section
open Go.RowKit Go.Shelf
attribute [local go_sem] Oper.semAt_some
abbrev Sc := { x : Int × List Int // okBlk x.2 }
def raw (l : List Sc) : List (Int × List Int) := l.map (·.1)
def Dk.wr (D : Dk) (l : List Sc) : Dk := l.foldl (fun D x => D.write x.1.1 x.1.2) D
theorem Dk.wr_snoc (D : Dk) (l : List Sc) (x : Sc) : D.wr (l ++ [x]) = (D.wr l).write x.1.1 x.1.2 := by simp [Dk.wr]
theorem Dk.wr_ok : ∀ (l : List Sc) {D : Dk} {K : Nat}, D.Ok K → (D.wr l).Ok (K + 2 * l.length)
 | [], _, _, h => h
 |x :: l, D, K, h => by
  have := Dk.wr_ok l (h.write x.1.1 x.2)
  rw [List.length_cons, show K + 2 * (l.length + 1) = K + 2 + 2 * l.length by omega]
  exact this
def okSo (D : Dk) (pre : List Sc) : Prop := ∀ rest, D.lays (raw pre ++ rest) = (D.wr pre).lays rest ∧ D.laysE (raw pre ++ rest) = (D.wr pre).laysE rest
theorem okSo.start (D : Dk) : okSo D [] := fun _ => ⟨rfl, rfl⟩
theorem okSo.step {D : Dk} {pre : List Sc} {x : Sc} (h : okSo D pre) (he : (D.wr pre).callE x.1.1 true = 0) : okSo D (pre ++ [x]) := by
 intro rest
 have e : raw (pre ++ [x]) ++ rest = raw pre ++ (x.1 :: rest) := by simp [raw]
 rw [e, Dk.wr_snoc, (h _).1, (h _).2]
 obtain ⟨⟨i, b⟩, hx⟩ := x
 simp only [Dk.lays, Dk.laysE]
 simp only at he
 rw [if_pos he, if_pos he]
 exact ⟨rfl, rfl⟩
theorem okSo.stop {D : Dk} {pre : List Sc} {x : Sc} (h : okSo D pre) (he : (D.wr pre).callE x.1.1 true ≠ 0) (rest : List (Int × List Int)) : D.lays (raw (pre ++ [x]) ++ rest) = (D.wr pre).write x.1.1 x.1.2 ∧ D.laysE (raw (pre ++ [x]) ++ rest) = (D.wr pre).callE x.1.1 true := by
 have e : raw (pre ++ [x]) ++ rest = raw pre ++ (x.1 :: rest) := by simp [raw]
 rw [e, (h _).1, (h _).2]
 obtain ⟨⟨i, b⟩, hx⟩ := x
 simp only [Dk.lays, Dk.laysE]
 simp only at he
 rw [if_neg he, if_neg he]
 exact ⟨rfl, rfl⟩
theorem Dsk.cells {w : World} {p : Nat} {D : Dk} {F : Nat → Prop} (h : Dsk w p D F) : ∀ k, F k → ∃ o : Obj, w.heap[k]? = some o ∧ o.isCells = true := by
 obtain ⟨s, g, c, h1, h2⟩ := h
 intro k hk
 rcases (h2 k).1 hk with rfl | rfl | ⟨i, hi, rfl⟩
 ·exact ⟨_, h1.main, rfl⟩
 ·exact ⟨_, h1.sec, rfl⟩
 ·rcases (h1.rows i hi).2 with ⟨h3, _⟩ | ⟨gg, cap, cur, hv, hb, hh, r⟩
  ·simp at h3
  ·simp at hv
   rw [hv.1]; exact ⟨_, hh, rfl⟩
structure LayAt (w w1 : World) (p : Nat) (F : Nat → Prop) (D : Dk) (E : Int) (W : World) : Prop where
 dsk : ∃ F', Dsk W p D F' ∧ ∀ k, F' k → F k ∨ w1.heap.size ≤ k
 upd : Upd F w W
 size : w1.heap.size ≤ W.heap.size
 box : W.heap[w.heap.size]? = some (.cells #[.pointer (some ⟨p, 0, none⟩)] 25 (0, 0))
 err : W.heap[w.heap.size + 1]? = some (.cells #[.int .i64 E] 26 (0, 0))
theorem LayAt.kept {w w1 W W' : World} {p : Nat} {D : Dk} {F : Nat → Prop} {E : Int} {row : Option Nat} (h : LayAt w w1 p F D E W) (h1 : w1.heap.size = w.heap.size + 2) (hg : W.grownBy W' row) (hr : ∀ r, row = some r → w1.heap.size ≤ r ∧ ∃ o : Obj, W.heap[r]? = some o ∧ o.isCells = false) : LayAt w w1 p F D E W' := by
 have hu : Upd (fun k => row = some k) W W' := Upd.of_grown hg (fun k hk => hk)
 obtain ⟨F', d1, d2⟩ := h.dsk
 refine ⟨⟨F', d1.kept hu (fun k hk e => ?_), d2⟩, h.upd.step hu (fun k hk e => by have := (hr k e).1; omega), Nat.le_trans h.size hg.size, ?_, ?_⟩
 ·obtain ⟨_, o, ho, hc⟩ := hr k e
  obtain ⟨o2, ho2, hc2⟩ := d1.cells k hk
  rw [ho] at ho2; cases ho2; rw [hc] at hc2; cases hc2
 ·exact (hu.block _ (lt_of_heap h.box) (fun e => by have := (hr _ e).1; omega)).trans h.box
 ·exact (hu.block _ (lt_of_heap h.err) (fun e => by have := (hr _ e).1; omega)).trans h.err
theorem LayAt.step {w w1 W W' : World} {p : Nat} {D D2 : Dk} {E1 : Int} {F F' : Nat → Prop} (h : LayAt w w1 p F D E1 W) (h1 : w1.heap.size = w.heap.size + 2) (hF : ∀ k, F k → k < w.heap.size) (d1 : Dsk W p D F') (d2 : ∀ k, F' k → F k ∨ w1.heap.size ≤ k)
  (hl : Left W p D2 F' W') (E : Int) : W'.heap[w.heap.size + 1]? = some (.cells #[.int .i64 E1] 26 (0, 0)) ∧ W'.heap[w.heap.size]? = some (.cells #[.pointer (some ⟨p, 0, none⟩)] 25 (0, 0)) ∧ LayAt w w1 p F D2 E (W'.setCell ⟨w.heap.size + 1, 0, none⟩ (.int .i64 E)) ∧
   (∀ S : Nat → Prop, (∀ k, S k → ¬ F k) → (∀ k, S k → k < w.heap.size) → Keep S W (W'.setCell ⟨w.heap.size + 1, 0, none⟩ (.int .i64 E))) ∧ KeepsFrom w1.heap.size W (W'.setCell ⟨w.heap.size + 1, 0, none⟩ (.int .i64 E)) := by
 obtain ⟨F2, e1, e2, e3⟩ := hl
 have hsz := h.size
 have n0 : ¬ F' w.heap.size := fun e => by rcases d2 _ e with q | q
                                           ·have := hF _ q; omega
                                           ·omega
 have n1 : ¬ F' (w.heap.size + 1) := fun e => by rcases d2 _ e with q | q
                                                 ·have := hF _ q; omega
                                                 ·omega
 have hb := (e3.block _ (lt_of_heap h.box) n0).trans h.box
 have he := (e3.block _ (lt_of_heap h.err) n1).trans h.err
 have hu : Upd (fun k => k = w.heap.size + 1) W' (W'.setCell ⟨w.heap.size + 1, 0, none⟩ (.int .i64 E)) := upd_own _ _ _ _
 have n2 : ∀ k, F2 k → ¬ k = w.heap.size + 1 := fun k hk e => by
  rcases e2 k hk with q | q
  ·rw [e] at q; exact n1 q
  ·omega
 refine ⟨he, hb, ⟨⟨F2, ?_, fun k hk => ?_⟩, ?_, ?_, ?_, ?_⟩, fun S hS1 hS2 k hk => ?_, ⟨?_, fun k o hk ho hc => ?_⟩⟩
 ·exact e1.kept hu n2
 ·rcases e2 k hk with q | q
  ·exact d2 k q
  ·exact .inr (by omega)
 ·refine ((h.upd.step (F := F) e3 (fun k hk q => (d2 k q).elim id (fun q => by omega)))).step hu (fun k hk q => by omega)
 ·have := e3.size; simp [World.setCell]; omega
 ·rw [set_ne (by show w.heap.size ≠ w.heap.size + 1; omega)]; exact hb
 ·have := blk_set (i := 0) (v := .int .i64 E) he
  simpa using this
 ·have hkw := hS2 k hk
  rw [set_ne (by show k ≠ w.heap.size + 1; omega)]
  exact e3.block k (by omega) (fun q => (d2 k q).elim (hS1 k hk) (fun q => by omega))
 ·have := e3.size; simp [World.setCell]; omega
 ·have hlt := lt_of_heap ho
  have hn : ¬ F' k := fun q => by
   obtain ⟨o2, ho2, hc2⟩ := d1.cells k q
   rw [ho] at ho2; cases ho2; rw [hc] at hc2; cases hc2
  rw [set_ne (by show k ≠ w.heap.size + 1; omega), e3.block k hlt hn]
  exact ho
theorem LayAt.left {w w1 W : World} {p : Nat} {D : Dk} {F : Nat → Prop} {E : Int} (h : LayAt w w1 p F D E W) (h1 : w1.heap.size = w.heap.size + 2) : Left w p D F W := by
 obtain ⟨F', d1, d2⟩ := h.dsk
 exact ⟨F', d1, fun k hk => (d2 k hk).imp id (fun q => by omega), h.upd⟩
theorem LayAt.again {w w1 W : World} {p : Nat} {D : Dk} {F : Nat → Prop} {E : Int} (h : LayAt w w1 p F D E W) (h1 : w1.heap.size = w.heap.size + 2) (hF : ∀ k, F k → k < w.heap.size) :
  LayAt w w1 p F D E (W.setCell ⟨w.heap.size + 1, 0, none⟩ (.int .i64 E)) ∧ KeepsFrom w1.heap.size W (W.setCell ⟨w.heap.size + 1, 0, none⟩ (.int .i64 E)) := by
 obtain ⟨F', d1, d2⟩ := h.dsk
 have := h.step h1 hF d1 d2 (Left.same d1) E
 exact ⟨this.2.2.1, this.2.2.2.2⟩
theorem run_load34 {w : World} {b : Nat} {v : Value} (h : w.heap[b]? = some (.cells #[v] 26 (0, 0))) : (loadVar 26 ⟨b, 0, none⟩).run Tryz.prog w = .ok v w := by
 have hc := cells1_of h
 have hu : Tryz.prog.underlying 26 = some (.int .i64) := Tryz.underlying26
 simp [loadVar, isAgg, run_underlying hu, Sem.run_bind, hc]
theorem putKeepS {S : Nat → Prop} {B : Nat} (hS : ∀ k, S k → k < B) : ∀ (W : World) (l : Nat) (o o' : Obj), B ≤ l → W.heap[l]? = some o → o.isCells = false → o.isWalk = false → Keep S W (W.putObj l o') := fun W l o o' hl _ _ _ k hk => by
 have h1 := hS k hk
 have h2 : ¬ l = k := by omega
 simp [World.putObj, h2]
theorem fresh56 (W : World) (bs : List Int) (hl : bs.length = 64) : (W.alloc (.cells (bcells zblk).toArray 48)).there W.heap.size 0 (bcells bs).toArray.size ∧ ((W.alloc (.cells (bcells zblk).toArray 48)).setCells W.heap.size 0 (bcells bs)).heap[W.heap.size]? = some (.cells (bcells bs).toArray 48 (0, 0)) ∧
  Upd (fun _ => False) W ((W.alloc (.cells (bcells zblk).toArray 48)).setCells W.heap.size 0 (bcells bs)) := by
 have hz : (bcells zblk).toArray.size = 64 := by simp [bcells, zblk]
 have hblk : (W.alloc (.cells (bcells zblk).toArray 48)).heap[W.heap.size]? = some (.cells (bcells zblk).toArray 48 (0, 0)) := alloc_at rfl
 refine ⟨?_, heap_setCells_whole (vs := bcells bs) hblk (by rw [hz, bcells_length, hl]), ?_⟩
 ·have := there_block hblk
  rwa [show (bcells zblk).toArray.size = (bcells bs).toArray.size by rw [hz]; simp [bcells_length, hl]] at this
 ·have := Upd.setCells (F := fun j => W.heap.size ≤ j) (b := W.heap.size) (Nat.le_refl _) (bcells bs) 0 ((Upd.refl _ W).alloc (.cells (bcells zblk).toArray 48))
  exact this.mono (fun j hj e => by omega)
theorem lays_run {p : Nat} {D : Dk} {F : Nat → Prop} {gf : Nat} {lb : Array Value} {K : Nat} {S : Nat → Prop} (l : List Sc) (w : World) (hD : Dsk w p D F) (hok : D.Ok K) (hK : K + 2 * l.length + 2 ≤ 1099511627773)
  (eg : ∀ args w, (callFunc gf args).run Tryz.prog w = .ok (.enter gf args) w) (hSF : ∀ k, S k → ¬ F k) (hSw : ∀ k, S k → k < w.heap.size)
  (hseq : ∀ w1, Upd (fun _ => False) w w1 → SeqStopsK Fence.wide (3 - 1) Tryz.prog gf lb (fun x : Sc => #[.int .i64 x.1.1, .agg (bcells x.1.2).toArray]) (Keep S) (fun ys => ys = l) (fun pre => pre <+: l) l.length w1) :
  Calls Tryz.prog 107 #[.pointer (some ⟨p, 0, none⟩), .func (.func gf) #[] lb] w fun e w' => e = .returned (.int .i64 (D.laysE (raw l))) ∧ Left w p (D.lays (raw l)) F w' := by
 have HSQ := Lib.hid hseq; have HOK := Lib.hid hok; have HSF := Lib.hid hSF; have HSW := Lib.hid hSw; have HFL := Lib.hid hD.lt
 have HD := Lib.hid hD
 clear hseq hok hSF hSw hD
 refine (callsIn_wide (n := 3)).1 ?_
 refine callsIn_of_wp_marks Tryz.func107 rfl trivial ?_ rfl
 simp only [Tryz.ntmps107, List.size_toArray, List.length_cons, List.length_nil, Nat.reduceAdd, Nat.reduceSub, Array.replicate_succ, Array.replicate_zero, List.push_toArray, List.append_toArray, List.nil_append, List.cons_append]
 gi_wp2
 refine wpIn_wide.2 (wp_scope_straight ((wpIn_wide (n := 3)).1 ?_))
 refine wpIn_seq_k (fun KL hKL => wpIn_label ?_)
 refine hKL _ _ ?_
 clear hKL
 obtain ⟨w1, hw1⟩ : ∃ w1, w1 = (w.alloc (.cells #[.pointer (some ⟨p, 0, none⟩)] 25)).alloc (.cells #[.int .i64 0] 26) := ⟨_, rfl⟩
 rw [← hw1]
 have hsz : w1.heap.size = w.heap.size + 2 := by rw [hw1]; simp
 have hu1 : Upd (fun _ => False) w w1 := by rw [hw1]; exact ((Upd.refl _ w).alloc _).alloc _
 have hat : LayAt w w1 p F D 0 w1 := by
  refine ⟨⟨F, HD.out.kept hu1 (fun _ _ e => e), fun k hk => .inl hk⟩, hu1.mono (fun _ _ e => e.elim), Nat.le_refl _, ?_, ?_⟩
  ·rw [hw1]; exact (alloc_lt (by simp)).trans (alloc_at rfl)
  ·rw [hw1]; exact alloc_at (by simp)
 have HAT := Lib.hid hat; have HU1 := Lib.hid hu1; have HSZ := Lib.hid hsz
 clear hat hu1 hsz hw1 HD
 gi_wp2
 have hS1 : ∀ k, S k → k < w1.heap.size := fun k hk => by have := HSW.out k hk; have := HU1.out.size; omega
 refine wpIn_rangeFunc_ownH rfl (by omega) (gf := gf) (lb := lb) rfl trivial eg (HSQ.out w1 HU1.out)
  (fun h k => h.trans k) (putKeepS hS1) (Below.refl _ _) (fun _ => rfl)
  (fun pre W => LayAt w w1 p F (D.wr pre) 0 W ∧ okSo D pre)
  (fun c pre W => c = .exit 0 ∧ ∃ (pre' : List Sc) (x : Sc), pre = pre' ++ [x] ∧ okSo D pre' ∧ (D.wr pre').callE x.1.1 true ≠ 0 ∧ LayAt w w1 p F ((D.wr pre').write x.1.1 x.1.2) ((D.wr pre').callE x.1.1 true) W) ?hI ?hIx ⟨HAT.out, okSo.start D⟩
  (fun x a' W => ∃ Bx, w1.heap.size ≤ Bx ∧ W.heap[Bx]? = some (.cells (bcells x.1.2).toArray 48 (0, 0)) ∧ a' = { tmps := #[.pointer (some ⟨p, 0, none⟩), .func (.func gf) #[] lb, .pointer (some ⟨w.heap.size, 0, none⟩), undef, .pointer (some ⟨w.heap.size + 1, 0, none⟩), .int .i64 x.1.1, .pointer (some ⟨Bx, 0, none⟩), .func (.func gf) #[] lb, .int .i64 x.1.1, .agg (bcells x.1.2).toArray, undef, undef, undef, undef, undef, undef, undef, undef, undef, undef, undef], defers := [] }) ?hAx ?assign ?body ?done ?stop
 case hI =>
  rintro pre W W' row ⟨hs, ho⟩ hg hr
  exact ⟨hs.kept HSZ.out hg hr, ho⟩
 case hIx =>
  rintro c pre W W' row ⟨hc, pre', x, h1, h2, h3, hs⟩ hg hr
  exact ⟨hc, pre', x, h1, h2, h3, hs.kept HSZ.out hg hr⟩
 case hAx =>
  rintro x a' _ W W' row ⟨Bx, h1, h2, h3⟩ hg hr
  refine ⟨Bx, h1, (hg.block Bx (lt_of_heap h2) (fun e => ?_)).trans h2, h3⟩
  obtain ⟨_, o, ho, hc⟩ := hr Bx e.symm
  rw [h2] at ho
  cases ho
  cases hc
 case assign =>
  rintro l pre x W K ⟨hs, ho⟩ hK
  have hxl := x.2.1
  have HKK := Lib.hid hK; have HSS := Lib.hid hs; have HO := Lib.hid ho
  have hi : (Tryz.prog.info? 48).map (·.size) = some (bcells x.1.2).toArray.size := by rw [Tryz.info56p]; simp [bcells, hxl]
  obtain ⟨f1, f2, f3⟩ := fresh56 W x.1.2 hxl
  have HI := Lib.hid hi; have F1 := Lib.hid f1; have F2 := Lib.hid f2; have F3 := Lib.hid f3
  clear hK hs ho hi f1 f2 f3 hxl
  gi_upto_region 3 with fail
  iterate 4 gi_step
  refine (?_ : wpListIn _ _ _ _ _ _ _ (W.alloc (.cells (bcells zblk).toArray 48)))
  refine wpListIn_exec_skip rfl (fun _ h => by cases h) rfl (run_store_mid' rfl rfl rfl F1.out HI.out (all_oneCell_toArray (bcells_one x.1.2))) ?_
  refine (?_ : wpListIn _ _ _ _ _ _ _ ((W.alloc (.cells (bcells zblk).toArray 48)).setCells W.heap.size 0 (bcells x.1.2)))
  have hg2 : W.grownBy ((W.alloc (.cells (bcells zblk).toArray 48)).setCells W.heap.size 0 (bcells x.1.2)) none := ⟨F3.out.os, F3.out.tape, F3.out.output, F3.out.size, fun j hj _ => F3.out.block j hj (fun e => e)⟩
  gi_step
  refine HKK.out _ _ (KeepsFrom.of_grownBy hg2 (fun j e => by cases e)) (fun k hk => F3.out.block k (Nat.lt_of_lt_of_le (hS1 k hk) HSS.out.size) (fun e => e)) ⟨HSS.out.kept HSZ.out hg2 (fun r e => by cases e), HO.out⟩ ⟨W.heap.size, HSS.out.size, F2.out, rfl⟩
 case body =>
  rintro l2 pre x a' W hl hlr ⟨hs, ho⟩ ⟨Bx, hB1, hB2, rfl⟩ hpl
  have hxl := x.2.1
  have hok1 := (Dk.wr_ok pre HOK.out).mono (K' := 1099511627773) (by omega)
  have c10 := cells1_of hs.box; have c14 := cells1_of hs.err
  have f14 : W.frozen? ⟨w.heap.size + 1, 0, none⟩ = false := frozen_of_heap hs.err
  have hi : (Tryz.prog.info? 48).map (·.size) = some (bcells x.1.2).length := by rw [Tryz.info56p]; simp [bcells, hxl]
  have HXR := Lib.hid (rangeAt_block hB2); have HI := Lib.hid hi; have HSS := Lib.hid hs; have HO := Lib.hid ho; have HOK1 := Lib.hid hok1; have HXL := Lib.hid hxl
  clear hB2 hi hs ho hok1 hxl hl hlr
  obtain ⟨F', d1, d2⟩ := HSS.out.dsk
  have D1 := Lib.hid d1; have D2 := Lib.hid d2
  clear d1 d2
  gi_upto_region 4 with fail
  iterate 7 gi_step
  refine wpListIn_exec rfl (fun _ h => by cases h) rfl (run_load_mid' rfl rfl (bcells x.1.2) HXR.out Tryz.underlying48 rfl HI.out) ?_
  gi_wp2_with (refine ⟨trivial, ?_⟩; gi_at_call 158; fail)
  refine ⟨trivial, ?_⟩
  refine (CallsIn.inRound l2 (callsIn_wide.2 (write_any x.1.1 x.1.2 W D1.out (HOK1.out.mono (by omega)) HXL.out))).mono ?_
  rintro e W3 ⟨rfl, hl⟩
  obtain ⟨E, hE⟩ : ∃ E, E = (D.wr pre).callE x.1.1 true := ⟨_, rfl⟩
  rw [← hE]
  obtain ⟨g1, _, g2, g3, g4⟩ := HSS.out.step HSZ.out HFL.out D1.out D2.out hl E
  have c14 := cells1_of g1
  have f14 : W3.frozen? ⟨w.heap.size + 1, 0, none⟩ = false := frozen_of_heap g1
  have G2 := Lib.hid g2; have G3 := Lib.hid (g3 S HSF.out HSW.out); have G4 := Lib.hid g4; have HE := Lib.hid hE
  clear g1 g2 g3 g4 hl hE HSS HXR HI D1 D2 HOK1 HXL c10
  simp only []
  by_cases h0 : E = 0
  ·subst h0
   gi_wp2
   have he := HE.out
   exact ⟨G4.out, G3.out, by rw [Dk.wr_snoc]; exact G2.out, HO.out.step he.symm⟩
  ·have hq : (E != 0) = true := by simpa using h0
   gi_wp2
   have he := HE.out
   exact ⟨G4.out, rfl, pre, x, rfl, HO.out, by rw [← he]; exact h0, by rw [← he]; exact G2.out⟩
 case done =>
  rintro DD ys W hDD rfl ⟨hs, ho⟩ hK2
  have hok1 := (Dk.wr_ok ys HOK.out).mono (K' := 1099511627773) (by omega)
  obtain ⟨F', d1, d2⟩ := hs.dsk
  have c16 := cells1_of hs.err; have c18 := cells1_of hs.box
  have hfin := ho []
  rw [List.append_nil] at hfin
  have HSS := Lib.hid hs; have HFN := Lib.hid hfin; have HOK1 := Lib.hid hok1; have D1 := Lib.hid d1; have D2 := Lib.hid d2; have HK2 := Lib.hid hK2
  clear hs ho hok1 d1 d2 hfin hK2
  gi_wp2_with (refine ⟨trivial, ?_⟩; gi_at_call 159; fail)
  refine ⟨trivial, ?_⟩
  refine (callsIn_wide.2 (sync_any W D1.out HOK1.out)).mono ?_
  rintro e W3 ⟨rfl, hl⟩
  obtain ⟨E, hE⟩ : ∃ E, E = (D.wr ys).callE 0 true := ⟨_, rfl⟩
  rw [← hE]
  have HE0 := Lib.hid hE
  clear hE
  obtain ⟨g1, gb, g2, g3, g4⟩ := HSS.out.step HSZ.out HFL.out D1.out D2.out hl E
  have hk4 := g4.same DD _ hDD HK2.out rfl
  have c14 := cells1_of g1
  have f14 : W3.frozen? ⟨w.heap.size + 1, 0, none⟩ = false := frozen_of_heap g1
  simp only []
  gi_upto_region 8 with fail
  obtain ⟨W4, hW4⟩ : ∃ W4, W4 = W3.setCell ⟨w.heap.size + 1, 0, none⟩ (.int .i64 E) := ⟨_, rfl⟩
  rw [← hW4] at g2 hk4 ⊢
  clear c14 f14 hW4 g1 gb g3 g4 hl
  have hE := HE0.out
  obtain ⟨a1, a2⟩ := g2.again HSZ.out HFL.out
  have hk5 := a2.same DD _ hDD hk4 rfl
  have a3 := a1.kept (W' := World.putObj _ DD (.deferred none)) (row := some DD) HSZ.out (grownBy_putObj' _ DD _) (fun r e => by cases e; exact ⟨hDD, _, hk5, rfl⟩)
  have c20 := cells1_of g2.err
  have f20 : W4.frozen? ⟨w.heap.size + 1, 0, none⟩ = false := frozen_of_heap g2.err
  have A3 := Lib.hid a3; have HK5 := Lib.hid hk5; have HE := Lib.hid hE
  clear g2 hk4 a1 a2 hk5 a3 hE
  gi_wp2
  refine ⟨by simp, .inl ⟨_, _, rfl, run_takeDeferred HK5.out, ?_⟩⟩
  refine ⟨_, results_cell1 Tryz.results107 rfl (run_load34 A3.out.err), ?_⟩
  have hf := HFN.out
  refine ⟨?_, ?_⟩
  ·rw [hf.2, HE.out]; rfl
  ·rw [hf.1]; exact A3.out.left HSZ.out
 case stop =>
  rintro DD c pre W hDD hpre ⟨rfl, pre', x, rfl, ho, hne, hs⟩ hK2
  obtain ⟨rest, hrest⟩ := hpre
  have hfin := ho.stop hne (raw rest)
  rw [show raw (pre' ++ [x]) ++ raw rest = raw l by rw [← hrest]; simp [raw]] at hfin
  have HFN := Lib.hid hfin
  obtain ⟨E, hE⟩ : ∃ E, E = (D.wr pre').callE x.1.1 true := ⟨_, rfl⟩
  rw [← hE] at hs hne
  have HE0 := Lib.hid hE
  clear hE
  have c16 := cells1_of hs.err
  have hq : (E == 0) = false := by simpa using hne
  have g2 := hs
  have hk4 := hK2
  have G2 := Lib.hid g2; have HK4 := Lib.hid hk4
  clear hs hfin ho hrest hK2 g2 hk4
  gi_upto_region 8 with fail
  have g2 := G2.out; have hk4 := HK4.out
  clear G2 HK4 c16
  obtain ⟨W4, rfl⟩ : ∃ W4, W4 = W := ⟨_, rfl⟩
  have hE := HE0.out
  obtain ⟨a1, a2⟩ := g2.again HSZ.out HFL.out
  have hk5 := a2.same DD _ hDD hk4 rfl
  have a3 := a1.kept (W' := World.putObj _ DD (.deferred none)) (row := some DD) HSZ.out (grownBy_putObj' _ DD _) (fun r e => by cases e; exact ⟨hDD, _, hk5, rfl⟩)
  have c20 := cells1_of g2.err
  have f20 : W4.frozen? ⟨w.heap.size + 1, 0, none⟩ = false := frozen_of_heap g2.err
  have A3 := Lib.hid a3; have HK5 := Lib.hid hk5; have HE := Lib.hid hE
  clear g2 hk4 a1 a2 hk5 a3 hE
  gi_wp2
  refine ⟨by simp, .inl ⟨_, _, rfl, run_takeDeferred HK5.out, ?_⟩⟩
  refine ⟨_, results_cell1 Tryz.results107 rfl (run_load34 A3.out.err), ?_⟩
  have hf := HFN.out
  refine ⟨?_, ?_⟩
  ·rw [hf.2, HE.out]
  ·rw [hf.1]; exact A3.out.left HSZ.out
end
section
open Go.RowKit Go.Shelf
attribute [local go_sem] Oper.semAt_some
theorem at_any (h : Hd) (place : Int) (w : World) (ha : 1 ≤ h.area ∧ h.area ≤ 1000) (hp : 0 ≤ place ∧ place ≤ 1099511627776) :
  Calls Tryz.prog 161 #[h.val, .int .i64 place] w fun e w' => e = .returned (.int .i64 (atF h.area place)) ∧ Upd (fun _ => False) w w' := by
 have h1 : place.tmod (2 * h.area) = place % (2 * h.area) := Int.tmod_eq_emod_of_nonneg hp.1
 have h2 := Int.emod_nonneg place (b := 2 * h.area) (by omega)
 have h3 := Int.emod_lt_of_pos place (b := 2 * h.area) (by omega)
 have h4 : ¬ (2 * h.area = 0) := by omega
 have e : atF h.area place = 2 + place % (2 * h.area) := rfl
 rw [e]
 obtain ⟨q, hq⟩ : ∃ q, q = place % (2 * h.area) := ⟨_, rfl⟩
 rw [← hq] at h1 h2 h3 ⊢
 unfold Hd.val
 clear hq e
 go_enter Tryz.func161, Tryz.ntmps161
 go_wp2
 go_ret
 exact ⟨rfl, (Upd.refl _ w).alloc _⟩
theorem headF_ok (h : Hd) : okBlk (headF h) := by
 rw [← headP_last]
 refine ⟨sectorF_length (by rw [headP_length h (Nat.le_refl 4)]; omega), fun x hx => ?_⟩
 have : Bytes (sectorF (headP h 4)) := (((headP_bytes h 4).append (Bytes.zeros _)).append (layF_bytes _ _))
 exact this x hx
def zl (area : Nat) : List Sc := (List.range (2 + 2 * area)).map fun (i : Nat) => ⟨((i : Int), zblk), zblk_ok⟩
theorem zl_length (area : Nat) : (zl area).length = 2 + 2 * area := by simp [zl]
theorem zl_take {area k : Nat} (h : k < 2 + 2 * area) : (zl area).take (k + 1) = (zl area).take k ++ [⟨((k : Int), zblk), zblk_ok⟩] := by
 rw [List.take_add_one]
 have : (zl area)[k]? = some ⟨((k : Int), zblk), zblk_ok⟩ := by simp [zl, h]
 rw [this]; rfl
theorem zeros_in (F : Fence) (n : Nat) (hf : F.fn 108) (hro : F.round = none) (hn : 1 ≤ n) (l ba area : Nat) (S : Nat → Prop) (ha : area ≤ 1000) (hg : S ba) (J Jx : List Sc → World → Prop)
  (W : World) (_hS : ∀ k, S k → k < W.heap.size) (hJ : AbidesFrom W.heap.size J)
  (hY : ∀ pre x W1, J pre W1 → pre.length < (zl area).length → YieldAt F (n - 1) Tryz.prog l #[.int .i64 x.1.1, .agg (bcells x.1.2).toArray] W1 fun e W' =>
   (e = .returned (.bool true) ∧ J (pre ++ [x]) W' ∧ Keep S W1 W') ∨ (e = .returned (.bool false) ∧ Jx (pre ++ [x]) W'))
  (hc : W.cell? ⟨ba, 0, none⟩ = some (.int .i64 area)) (h0 : J [] W) :
  CallsIn F n Tryz.prog 108 #[.func (.yield l) #[] #[], .pointer (some ⟨ba, 0, none⟩)] W fun e W' => (∃ v, e = .returned v) ∧ ((∃ ys, ys = zl area ∧ J ys W') ∨ (∃ pre, pre <+: zl area ∧ Jx pre W')) := by
 have HJ := Lib.hid hJ; have HC := Lib.hid hc
 clear hJ hc
 refine callsIn_of_wp Tryz.func108 rfl hf ?_ hro
 simp only [Tryz.ntmps108, List.size_toArray, List.length_cons, List.length_nil, Nat.reduceAdd, Nat.reduceSub, Array.replicate_succ, Array.replicate_zero, List.push_toArray, List.append_toArray, List.nil_append, List.cons_append]
 gi_upto_region 1 with fail
 gi_loopg [3] (2 + 2 * area) (fun gi i wr => ∃ k : Nat, k ≤ 2 + 2 * area ∧ gi = 2 + 2 * area - k ∧ i = .int .i64 k ∧ J ((zl area).take k) wr ∧ Keep S W wr)
 case atStart => exact ⟨0, Nat.zero_le _, rfl, rfl, h0, Keep.refl _ _⟩
 case round =>
  obtain ⟨k, hk, rfl, rfl, hJs, hnx⟩ := hrel
  have HJS := Lib.hid hJs; have HNX := Lib.hid hnx
  clear hJs hnx h0
  have c5 : wr.cell? ⟨ba, 0, none⟩ = some (.int .i64 area) := (HNX.out.cell hg).trans HC.out
  by_cases hkt : k < 2 + 2 * area
  ·have hki : (k : Int) < 2 + 2 * area := by omega
   obtain ⟨fn, tmps, assign, body, hy, hR⟩ := hY _ ⟨((k : Int), zblk), zblk_ok⟩ wr HJS.out (by rw [zl_length, List.length_take, zl_length]; omega)
   rw [← zl_take hkt] at hR
   dsimp only at hy
   rw [show (bcells zblk).toArray = #[.int .u8 0, .int .u8 0, .int .u8 0, .int .u8 0, .int .u8 0, .int .u8 0, .int .u8 0, .int .u8 0, .int .u8 0, .int .u8 0, .int .u8 0, .int .u8 0, .int .u8 0, .int .u8 0, .int .u8 0, .int .u8 0, .int .u8 0, .int .u8 0, .int .u8 0, .int .u8 0, .int .u8 0, .int .u8 0, .int .u8 0, .int .u8 0, .int .u8 0, .int .u8 0, .int .u8 0, .int .u8 0, .int .u8 0, .int .u8 0, .int .u8 0, .int .u8 0, .int .u8 0, .int .u8 0, .int .u8 0, .int .u8 0, .int .u8 0, .int .u8 0, .int .u8 0, .int .u8 0, .int .u8 0, .int .u8 0, .int .u8 0, .int .u8 0, .int .u8 0, .int .u8 0, .int .u8 0, .int .u8 0, .int .u8 0, .int .u8 0, .int .u8 0, .int .u8 0, .int .u8 0, .int .u8 0, .int .u8 0, .int .u8 0, .int .u8 0, .int .u8 0, .int .u8 0, .int .u8 0, .int .u8 0, .int .u8 0, .int .u8 0, .int .u8 0] from rfl] at hy
   have HRR := Lib.hid hR
   clear hR
   gi_wp2
   refine HRR.out.mono ?_
   rintro e W3 (⟨rfl, hJ3, hk3⟩ | ⟨rfl, hJx3⟩)
   ·have HJ3 := Lib.hid hJ3; have HK3 := Lib.hid hk3
    clear hJ3 hk3 hy c5
    gi_wp2
    gi_roundg (2 + 2 * area - (k + 1))
    case measure => omega
    case rel => exact ⟨k + 1, by omega, rfl, by go_num, HJ3.out, HNX.out.trans HK3.out⟩
   ·have HJ3 := Lib.hid hJx3
    clear hJx3 hy c5
    gi_wp2
    refine bodyPost_end (results_none rfl _ _ _) rfl ?_
    exact ⟨⟨_, rfl⟩, .inr ⟨_, List.take_prefix _ _, HJ3.out⟩⟩
  ·obtain rfl : k = 2 + 2 * area := by omega
   have hki : ¬ (2 + 2 * (area : Int) < 2 + 2 * area) := by omega
   gi_wp2
   refine ⟨fun _ h => (by cases h), ?_⟩
   gi_wp2
   refine bodyPost_end (results_none rfl _ _ _) rfl ?_
   have := HJS.out
   rw [List.take_of_length_le (by rw [zl_length]; omega)] at this
   exact ⟨⟨_, rfl⟩, .inl ⟨_, rfl, this⟩⟩
theorem zeros_stops (F : Fence) (n : Nat) (hf : F.fn 108) (hro : F.round = none) (hn : 1 ≤ n) (ba area : Nat) (S : Nat → Prop) (ha : area ≤ 1000) (w : World) (hS : ∀ k, S k → k < w.heap.size) (hg : S ba) (hc : w.cell? ⟨ba, 0, none⟩ = some (.int .i64 area)) :
  SeqStopsK F n Tryz.prog 108 #[.pointer (some ⟨ba, 0, none⟩)] (fun x : Sc => #[.int .i64 x.1.1, .agg (bcells x.1.2).toArray]) (Keep S) (fun ys => ys = zl area) (fun pre => pre <+: zl area) (zl area).length w := fun l J Jx W hW hJ _ hY h0 =>
 zeros_in F n hf hro hn l ba area S ha hg J Jx W (fun k hk => Nat.lt_of_lt_of_le (hS k hk) hW.size) hJ hY ((hW.cell (p := ⟨ba, 0, none⟩) (hS ba hg)).trans hc) h0
def headSc (h : Hd) : Sc := ⟨(h.turn % 2, headF h), headF_ok h⟩
theorem laid_in (F : Fence) (n : Nat) (hf : F.fn 163) (hwf : F = Fence.wide) (hro : F.round = none) (hn : 1 ≤ n) (l bh : Nat) (h : Hd) (hu : h.U32) (S : Nat → Prop) (_hg : S bh) (J Jx : List Sc → World → Prop)
  (W : World) (_hS : ∀ k, S k → k < W.heap.size) (hJ : AbidesFrom W.heap.size J)
  (hY : ∀ pre x W1, J pre W1 → pre.length < [headSc h].length → YieldAt F (n - 1) Tryz.prog l #[.int .i64 x.1.1, .agg (bcells x.1.2).toArray] W1 fun e W' =>
   (e = .returned (.bool true) ∧ J (pre ++ [x]) W' ∧ Keep S W1 W') ∨ (e = .returned (.bool false) ∧ Jx (pre ++ [x]) W'))
  (hc : W.heap[bh]? = some (.cells #[.int .i64 h.turn, .int .i64 h.area, .int .i64 h.place, .int .i64 h.number] 184 (0, 0))) (h0 : J [] W) :
  CallsIn F n Tryz.prog 163 #[.func (.yield l) #[] #[], .pointer (some ⟨bh, 0, none⟩)] W fun e W' => (∃ v, e = .returned v) ∧ ((∃ ys, ys = [headSc h] ∧ J ys W') ∨ (∃ pre, pre <+: [headSc h] ∧ Jx pre W')) := by
 subst hwf
 have HJ := Lib.hid hJ; have HC := Lib.hid hc; have HY := Lib.hid hY; have HU := Lib.hid hu
 have ht := hu.turn
 have hrem : h.turn.tmod 2 = h.turn % 2 := Int.tmod_eq_emod_of_nonneg ht.1
 have hi107 : (Tryz.prog.info? 184).map (·.size) = some 4 := by kernel_rfl
 clear hJ hc hY hu
 refine callsIn_of_wp Tryz.func163 rfl hf ?_ hro
 simp only [Tryz.ntmps163, List.size_toArray, List.length_cons, List.length_nil, Nat.reduceAdd, Nat.reduceSub, Array.replicate_succ, Array.replicate_zero, List.push_toArray, List.append_toArray, List.nil_append, List.cons_append]
 gi_upto_region 0 with fail
 have hA : Upd (fun _ => False) W W.drew := (Upd.refl _ W).drew
 refine wpIn_region_GI 6 (fun W' => Upd (fun _ => False) W W') [false, false, false, false, false, false, false] rfl (by kernel_rfl) ?_
 refine wpGI_take (i := 0) (v := .func (.yield l) #[] #[]) rfl rfl (fun L hc h => hc.waits (n := 6) (i := 0) (by kernel_rfl) h) (by kernel_rfl) (fun _ _ _ h => h) hA (fun _ => rfl) (.inl ⟨rfl, fun w5 q1 => ?_⟩) ?_
 ·go_simp
 simp only [Act.put, List.setIfInBounds_toArray, List.set]
 refine wpGI_take (i := 1) (v := .pointer (some ⟨bh, 0, none⟩)) rfl rfl (fun L hc h => hc.waits (n := 6) (i := 3) (by kernel_rfl) (hc.waits (n := 3) (i := 2) (by kernel_rfl) (hc.waits (n := 2) (i := 1) (by kernel_rfl) h))) (by kernel_rfl) (fun _ _ _ h => h) hA (fun _ => rfl) (.inl ⟨rfl, fun w5 q1 => ?_⟩) ?_
 ·go_simp
 simp only [Act.put, List.setIfInBounds_toArray, List.set]
 refine wpGI_take (i := 2) (v := .int .i64 h.turn) rfl rfl (fun L hc h => hc.waits (n := 6) (i := 3) (by kernel_rfl) (hc.waits (n := 3) (i := 2) (by kernel_rfl) h)) (by kernel_rfl) (fun _ _ _ h => h) hA (fun _ => rfl) (.inl ⟨rfl, fun w5 q1 => ?_⟩) ?_
 ·have hb := (q1.block _ (lt_of_heap HC.out) (fun e => e)).trans HC.out
  have d0 : w5.cell? ⟨bh, 0, none⟩ = some (.int .i64 h.turn) := by simp [World.cell?, hb]
  go_simp
 simp only [Act.put, List.setIfInBounds_toArray, List.set]
 refine wpGI_take (i := 3) (v := .int .i64 (h.turn % 2)) rfl rfl (fun L hc h => hc.waits (n := 6) (i := 3) (by kernel_rfl) h) (by kernel_rfl) (fun _ _ _ h => h) hA (fun _ => rfl) (.inl ⟨rfl, fun w5 q1 => ?_⟩) ?_
 ·go_simp
 simp only [Act.put, List.setIfInBounds_toArray, List.set]
 refine wpGI_take (i := 4) (v := h.val) rfl rfl (fun L hc h => hc.waits (n := 6) (i := 5) (by kernel_rfl) (hc.waits (n := 5) (i := 4) (by kernel_rfl) h)) (by kernel_rfl) (fun _ _ _ h => h) hA (fun _ => rfl) (.inl ⟨rfl, fun w5 q1 => ?_⟩) ?_
 ·have hb := (q1.block _ (lt_of_heap HC.out) (fun e => e)).trans HC.out
  exact run_load_mid' rfl rfl [.int .i64 h.turn, .int .i64 h.area, .int .i64 h.place, .int .i64 h.number] (rangeAt_block (cs := [.int .i64 h.turn, .int .i64 h.area, .int .i64 h.place, .int .i64 h.number]) hb) Tryz.underlying184 rfl hi107
 simp only [Act.put, List.setIfInBounds_toArray, List.set]
 refine wpGI_doIf (i := 5) rfl (by kernel_rfl) rfl (fun K hK => ?_)
 have HKK := Lib.hid hK
 clear hK
 gi_step
 refine ⟨trivial, ?_⟩
 refine (callsIn_wide.2 (block_any h _ HU.out)).mono ?_
 rintro e W3 ⟨rfl, hu3⟩
 have hA3 : Upd (fun _ => False) W W3 := hA.trans hu3
 simp only []
 refine HKK.out _ _ ⟨fun _ => hA3, ?_⟩
 clear HKK hA hu3
 simp only [List.setIfInBounds_toArray, List.set]
 have hJ3 : J [] W3 := HJ.out [] W W3 none h0 ⟨hA3.os, hA3.tape, hA3.output, hA3.size, fun j hj _ => hA3.block j hj (fun e => e)⟩ (fun r e => by cases e)
 obtain ⟨fn, tmps, assign, body, hy, hR⟩ := HY.out [] (headSc h) W3 hJ3 (by simp)
 dsimp only [headSc] at hy
 have HRR := Lib.hid hR
 have HK3 : RowKit.Hid (Upd (fun _ => False) W W3) := Lib.hid hA3
 clear hR hJ3 hA3
 refine wpGI_doIf (i := 6) rfl (by kernel_rfl) rfl (fun K hK => ?_)
 have HKK := Lib.hid hK
 clear hK
 gi_step
 refine HRR.out.mono ?_
 rintro e W4 (⟨rfl, hJ4, hk4⟩ | ⟨rfl, hJx4⟩)
 ·simp only []
  refine HKK.out _ _ ⟨fun hx => (by simp at hx), ?_⟩
  simp only [List.setIfInBounds_toArray, List.set]
  refine wpGI_done (by kernel_rfl) ?_
  refine bodyPost_end (results_none rfl _ _ _) rfl ?_
  exact ⟨⟨_, rfl⟩, .inl ⟨_, rfl, hJ4⟩⟩
 ·simp only []
  refine HKK.out _ _ ⟨fun hx => (by simp at hx), ?_⟩
  simp only [List.setIfInBounds_toArray, List.set]
  refine wpGI_done (by kernel_rfl) ?_
  refine bodyPost_end (results_none rfl _ _ _) rfl ?_
  exact ⟨⟨_, rfl⟩, .inr ⟨[] ++ [headSc h], List.prefix_refl _, hJx4⟩⟩
theorem laid_stops (n : Nat) (hn : 1 ≤ n) (bh : Nat) (h : Hd) (hu : h.U32) (S : Nat → Prop) (w : World) (hS : ∀ k, S k → k < w.heap.size) (hg : S bh) (hc : w.heap[bh]? = some (.cells #[.int .i64 h.turn, .int .i64 h.area, .int .i64 h.place, .int .i64 h.number] 184 (0, 0))) :
  SeqStopsK Fence.wide n Tryz.prog 163 #[.pointer (some ⟨bh, 0, none⟩)] (fun x : Sc => #[.int .i64 x.1.1, .agg (bcells x.1.2).toArray]) (Keep S) (fun ys => ys = [headSc h]) (fun pre => pre <+: [headSc h]) [headSc h].length w := fun l J Jx W hW hJ _ hY h0 =>
 laid_in Fence.wide n trivial rfl rfl hn l bh h hu S hg J Jx W (fun k hk => Nat.lt_of_lt_of_le (hS k hk) hW.size) hJ hY ((hW.block bh (lt_of_heap hc)).trans hc) h0
end
section
open Go.RowKit Go.Shelf
attribute [local go_sem] Oper.semAt_some
theorem allF_length (b : List Int) (k : Nat) : (allF b k).length = 48 := by
 have e : (if k = 0 then layF b.length 32 else ([] : List Int)).length = if k = 0 then 4 else 0 := by split <;> simp [layF_length]
 unfold allF
 simp only [List.length_append, List.length_replicate, e, List.length_take, List.length_drop]
 split <;> omega
theorem allF_bytes {b : List Int} (h : Bytes b) (k : Nat) : Bytes (allF b k) := by
 unfold allF
 exact ((Bytes.append (by split; exact layF_bytes _ _; exact fun x hx => by simp at hx) (bytes_part h _ _))).append (Bytes.zeros _)
theorem cutF_ok {turn number : Int} {snap : Bool} {b : List Int} {k : Nat} (h : Bytes b) : okBlk (cutF turn number snap b k) := by
 have e := cutF_eq (turn := turn) (number := number) (snap := snap) (b := b) (k := k) rfl rfl rfl
 rw [e]
 refine ⟨by simp [layF_length, allF_length], fun x hx => ?_⟩
 exact ((((((layF_bytes _ _).append (layF_bytes _ _)).append (layF_bytes _ _)).append (layF_bytes _ _)).append (layF_bytes _ _)).append (allF_bytes h k)) x hx
def partSc (h : Hd) (number : Int) (place : Int) (snap : Bool) (b : List Int) (hb : Bytes b) : List Sc := (List.range (secsN b.length)).map fun (k : Nat) => ⟨(atF h.area (place + k), cutF h.turn number snap b k), cutF_ok hb⟩
theorem partSc_length {h : Hd} {number place : Int} {snap : Bool} {b : List Int} (hb : Bytes b) : (partSc h number place snap b hb).length = secsN b.length := by simp [partSc]
theorem partSc_take {h : Hd} {number place : Int} {snap : Bool} {b : List Int} (hb : Bytes b) {k : Nat} (hk : k < secsN b.length) : (partSc h number place snap b hb).take (k + 1) = (partSc h number place snap b hb).take k ++ [⟨(atF h.area (place + k), cutF h.turn number snap b k), cutF_ok hb⟩] := by
 rw [List.take_add_one]
 have : (partSc h number place snap b hb)[k]? = some ⟨(atF h.area (place + k), cutF h.turn number snap b k), cutF_ok hb⟩ := by simp [partSc, hk]
 rw [this]; rfl
theorem Keep.bytes {S : Nat → Prop} {W W' : World} (h : Keep S W W') {v : Value} {b : List Int} (hb : BytesIn W v b) (hs : b ≠ [] → ∀ a n c, v = .slice (some a) n c → S a.block) : BytesIn W' v b := by
 rcases hb with hb | ⟨a, c, rfl, h2, h3, h4⟩
 ·exact .inl hb
 ·refine .inr ⟨a, c, rfl, h2, h3, fun i u hi => ?_⟩
  have := h4 i u hi
  rw [← this]
  simp only [World.cell?]
  rw [show (a.add i).block = a.block by unfold Addr.add; split <;> rfl, h a.block (hs (by rintro rfl; simp [bcells] at hi) a _ _ rfl)]
theorem wpGI_skip {m : Nat} {P : Program} {Q : Exit → Act → World → Prop} {md : Region.Mode} {A : World → Prop} {n : Nat} {l : List Oper} {i : Nat} {oi : Oper} {f : Nat} {L : Array Bool} {a : Act} {w : World} (hi' : l[i]? = some oi) (hr : Region.ready md l.toArray L = [i]) (hg : Region.wanted oi (yielded l.toArray a.tmps) = false) (hA : A w)
  (h : wpGI Fence.wide m P md l.toArray Q n A f (L.setIfInBounds i true) (a.put oi.dst undef) w) : wpGI Fence.wide m P md l.toArray Q n A (f + 1) L a w := by
 have hi : l.toArray[i]? = some oi := by simpa using hi'
 refine ⟨fun h0 => (by rw [hr] at h0; cases h0), fun j hj => ?_⟩
 rw [hr] at hj
 have hji : j = i := by simpa using hj
 subst hji
 unfold wpOpIn
 simp only [hi, hg, Bool.false_eq_true, if_false]
 exact ⟨fun _ _ => trivial, fun _ => hA, h⟩
structure PartIn (W : World) (bb bh bp bn bs : Nat) (v : Value) (b : List Int) (h : Hd) (number place : Int) (snap : Bool) : Prop where
 cb : W.heap[bb]? = some (.cells #[v] 39 (0, 0))
 ch : W.heap[bh]? = some (.cells #[.int .i64 h.turn, .int .i64 h.area, .int .i64 h.place, .int .i64 h.number] 184 (0, 0))
 cp : W.heap[bp]? = some (.cells #[.int .i64 place] 3 (0, 0))
 cn : W.heap[bn]? = some (.cells #[.int .i64 number] 3 (0, 0))
 cs : W.heap[bs]? = some (.cells #[.bool snap] 4 (0, 0))
 bytes : BytesIn W v b
structure PartS (S : Nat → Prop) (bb bh bp bn bs : Nat) (v : Value) (b : List Int) : Prop where
 sb : S bb
 sh : S bh
 sp : S bp
 sn : S bn
 ss : S bs
 sv : b ≠ [] → ∀ a n c, v = .slice (some a) n c → S a.block
theorem PartIn.kept {W W' : World} {bb bh bp bn bs : Nat} {v : Value} {b : List Int} {h : Hd} {number place : Int} {snap : Bool} {S : Nat → Prop} (hp : PartIn W bb bh bp bn bs v b h number place snap) (hs : PartS S bb bh bp bn bs v b) (hk : Keep S W W') : PartIn W' bb bh bp bn bs v b h number place snap :=
 ⟨(hk _ hs.sb).trans hp.cb, (hk _ hs.sh).trans hp.ch, (hk _ hs.sp).trans hp.cp, (hk _ hs.sn).trans hp.cn, (hk _ hs.ss).trans hp.cs, hk.bytes hp.bytes hs.sv⟩
theorem PartIn.upd {W W' : World} {bb bh bp bn bs : Nat} {v : Value} {b : List Int} {h : Hd} {number place : Int} {snap : Bool} (hp : PartIn W bb bh bp bn bs v b h number place snap) (hk : Upd (fun _ => False) W W') : PartIn W' bb bh bp bn bs v b h number place snap :=
 ⟨(hk.block _ (lt_of_heap hp.cb) (fun e => e)).trans hp.cb, (hk.block _ (lt_of_heap hp.ch) (fun e => e)).trans hp.ch, (hk.block _ (lt_of_heap hp.cp) (fun e => e)).trans hp.cp, (hk.block _ (lt_of_heap hp.cn) (fun e => e)).trans hp.cn, (hk.block _ (lt_of_heap hp.cs) (fun e => e)).trans hp.cs, hp.bytes.kept hk⟩
theorem part_in (n : Nat) (hn : 1 ≤ n) (l : Nat) {bb bh bp bn bs : Nat} {v : Value} {b : List Int} {h : Hd} {number place : Int} {snap : Bool} (hb : Bytes b) (hl : b.length ≤ 40000) (ht : 0 ≤ h.turn ∧ h.turn ≤ 4294967295) (ha : 1 ≤ h.area ∧ h.area ≤ 1000) (hnb : 0 ≤ number ∧ number ≤ 4294967295) (hp : 0 ≤ place ∧ place ≤ 1000000000000)
  {S : Nat → Prop} (J Jx : List Sc → World → Prop) (W : World) (_hS : ∀ k, S k → k < W.heap.size) (hJ : AbidesFrom W.heap.size J)
  (hY : ∀ pre x W1, J pre W1 → pre.length < (partSc h number place snap b hb).length → YieldAt Fence.wide (n - 1) Tryz.prog l #[.int .i64 x.1.1, .agg (bcells x.1.2).toArray] W1 fun e W' =>
   (e = .returned (.bool true) ∧ J (pre ++ [x]) W' ∧ Keep S W1 W') ∨ (e = .returned (.bool false) ∧ Jx (pre ++ [x]) W'))
  (hPS : PartS S bb bh bp bn bs v b) (hP : PartIn W bb bh bp bn bs v b h number place snap) (h0 : J [] W) :
  CallsIn Fence.wide n Tryz.prog 160 #[.func (.yield l) #[] #[], .pointer (some ⟨bb, 0, none⟩), .pointer (some ⟨bh, 0, none⟩), .pointer (some ⟨bp, 0, none⟩), .pointer (some ⟨bn, 0, none⟩), .pointer (some ⟨bs, 0, none⟩)] W fun e W' => (∃ v, e = .returned v) ∧ ((∃ ys, ys = partSc h number place snap b hb ∧ J ys W') ∨ (∃ pre, pre <+: partSc h number place snap b hb ∧ Jx pre W')) := by
 obtain ⟨sa, sc, rfl⟩ := hP.bytes.slice'
 have HJ := Lib.hid hJ; have HP := Lib.hid hP; have HPS := Lib.hid hPS; have HY := Lib.hid hY; have HB := Lib.hid hb
 have hi107 : (Tryz.prog.info? 184).map (·.size) = some 4 := by kernel_rfl
 have HS9 : RowKit.Hid (secsN b.length ≤ 834) := Lib.hid (by unfold secsN; omega)
 have HSI : RowKit.Hid (secsI (b.length : Int) = (secsN b.length : Int)) := Lib.hid (secsI_nat hl)
 clear hJ hP hPS hY
 refine callsIn_of_wp Tryz.func160 rfl trivial ?_ rfl
 simp only [Tryz.ntmps160, List.size_toArray, List.length_cons, List.length_nil, Nat.reduceAdd, Nat.reduceSub, Array.replicate_succ, Array.replicate_zero, List.push_toArray, List.append_toArray, List.nil_append, List.cons_append]
 gi_upto_region 1 with fail
 gi_loopg [7] (secsN b.length) (fun gi i wr => ∃ k : Nat, k ≤ secsN b.length ∧ gi = secsN b.length - k ∧ i = .int .i64 k ∧ J ((partSc h number place snap b hb).take k) wr ∧ PartIn wr bb bh bp bn bs (.slice sa b.length sc) b h number place snap)
 case atStart => exact ⟨0, Nat.zero_le _, rfl, rfl, h0, HP.out⟩
 case round =>
  obtain ⟨k, hk, rfl, rfl, hJs, hpi⟩ := hrel
  obtain ⟨wo, rfl⟩ : ∃ wo, wo = wr := ⟨_, rfl⟩
  have HJS := Lib.hid hJs; have HPI := Lib.hid hpi
  clear hJs hpi h0 HP
  have hA : Upd (fun _ => False) wo wo.drew := (Upd.refl _ wo).drew
  obtain ⟨sn, hsn⟩ : ∃ sn : Nat, sn = secsN b.length := ⟨_, rfl⟩
  rw [← hsn] at hk HS9 HSI
  have HSN := Lib.hid hsn
  have hs9 := HS9.out
  clear hsn
  gi_upto_region 1 with fail
  refine wpIn_region_GI 19 (fun W' => Upd (fun _ => False) wo W') [false, false, false, false, false, false, false, false, false, false, false, false, false, false, false, false, false, false, false, false, false] rfl (by kernel_rfl) ?_
  refine wpGI_take (i := 0) (v := .int .i64 k) rfl rfl (fun L hc h => (hc.waits (n := 19) (i := 5) (by kernel_rfl) (hc.waits (n := 5) (i := 4) (by kernel_rfl) (hc.waits (n := 4) (i := 0) (by kernel_rfl) h)))) (by kernel_rfl) (fun _ _ _ h => h) hA (fun _ => rfl) (.inl ⟨rfl, fun w5 q1 => ?_⟩) ?_
  ·go_simp
  simp only [Act.put, List.setIfInBounds_toArray, List.set]
  refine wpGI_take (i := 1) (v := .slice sa b.length sc) rfl rfl (fun L hc h => (hc.waits (n := 19) (i := 5) (by kernel_rfl) (hc.waits (n := 5) (i := 3) (by kernel_rfl) (hc.waits (n := 3) (i := 2) (by kernel_rfl) (hc.waits (n := 2) (i := 1) (by kernel_rfl) h))))) (by kernel_rfl) (fun _ _ _ h => h) hA (fun _ => rfl) (.inl ⟨rfl, fun w5 q1 => ?_⟩) ?_
  ·have hc := cells1_of ((HPI.out.upd q1).cb)
   go_simp
  simp only [Act.put, List.setIfInBounds_toArray, List.set]
  refine wpGI_take (i := 2) (v := .int .i64 b.length) rfl rfl (fun L hc h => (hc.waits (n := 19) (i := 5) (by kernel_rfl) (hc.waits (n := 5) (i := 3) (by kernel_rfl) (hc.waits (n := 3) (i := 2) (by kernel_rfl) h)))) (by kernel_rfl) (fun _ _ _ h => h) hA (fun _ => rfl) (.inl ⟨rfl, fun w5 q1 => ?_⟩) ?_
  ·go_simp
  simp only [Act.put, List.setIfInBounds_toArray, List.set]
  refine wpGI_doIf (i := 3) rfl (by kernel_rfl) rfl (fun K hK => ?_)
  have HKK := Lib.hid hK
  clear hK
  gi_step
  refine ⟨trivial, ?_⟩
  refine (callsIn_wide.2 (sectors_any _ _)).mono ?_
  rintro e W3 ⟨rfl, rfl⟩
  rw [HSI.out]
  simp only []
  refine HKK.out _ _ ⟨fun _ => hA, ?_⟩
  clear HKK
  simp only [List.setIfInBounds_toArray, List.set]
  by_cases hkn : k < sn
  ·
   have hkn2 : (k : Int) < sn := by omega
   refine wpGI_val (i := 4) (v := .bool true) rfl rfl (by kernel_rfl) hA (fun _ => rfl) (.inl ⟨rfl, fun w5 q1 => ?_⟩) ?_
   ·go_simp
   simp only [Act.put, List.setIfInBounds_toArray, List.set]
   refine wpGI_val (i := 5) (v := .bool true) rfl rfl (by kernel_rfl) hA (fun _ => rfl) (.inl ⟨rfl, fun w5 q1 => ?_⟩) ?_
   ·go_simp
   simp only [Act.put, List.setIfInBounds_toArray, List.set]
   refine wpGI_take (i := 6) (v := .func (.yield l) #[] #[]) rfl rfl (fun L hc h => (hc.waits (n := 19) (i := 6) (by kernel_rfl) h)) (by kernel_rfl) (fun _ _ _ h => h) hA (fun _ => rfl) (.inl ⟨rfl, fun w5 q1 => ?_⟩) ?_
   ·go_simp
   simp only [Act.put, List.setIfInBounds_toArray, List.set]
   refine wpGI_take (i := 7) (v := h.val) rfl rfl (fun L hc h => (hc.waits (n := 19) (i := 11) (by kernel_rfl) (hc.waits (n := 11) (i := 7) (by kernel_rfl) h))) (by kernel_rfl) (fun _ _ _ h => h) hA (fun _ => rfl) (.inl ⟨rfl, fun w5 q1 => ?_⟩) ?_
   ·exact run_load_mid' rfl rfl [.int .i64 h.turn, .int .i64 h.area, .int .i64 h.place, .int .i64 h.number] (rangeAt_block (cs := [.int .i64 h.turn, .int .i64 h.area, .int .i64 h.place, .int .i64 h.number]) (HPI.out.upd q1).ch) Tryz.underlying184 rfl hi107
   simp only [Act.put, List.setIfInBounds_toArray, List.set]
   refine wpGI_take (i := 8) (v := .int .i64 place) rfl rfl (fun L hc h => (hc.waits (n := 19) (i := 11) (by kernel_rfl) (hc.waits (n := 11) (i := 10) (by kernel_rfl) (hc.waits (n := 10) (i := 8) (by kernel_rfl) h)))) (by kernel_rfl) (fun _ _ _ h => h) hA (fun _ => rfl) (.inl ⟨rfl, fun w5 q1 => ?_⟩) ?_
   ·have hc := cells1_of ((HPI.out.upd q1).cp)
    go_simp
   simp only [Act.put, List.setIfInBounds_toArray, List.set]
   refine wpGI_take (i := 9) (v := .int .i64 k) rfl rfl (fun L hc h => (hc.waits (n := 19) (i := 11) (by kernel_rfl) (hc.waits (n := 11) (i := 10) (by kernel_rfl) (hc.waits (n := 10) (i := 9) (by kernel_rfl) h)))) (by kernel_rfl) (fun _ _ _ h => h) hA (fun _ => rfl) (.inl ⟨rfl, fun w5 q1 => ?_⟩) ?_
   ·go_simp
   simp only [Act.put, List.setIfInBounds_toArray, List.set]
   refine wpGI_take (i := 10) (v := .int .i64 (place + k)) rfl rfl (fun L hc h => (hc.waits (n := 19) (i := 11) (by kernel_rfl) (hc.waits (n := 11) (i := 10) (by kernel_rfl) h))) (by kernel_rfl) (fun _ _ _ h => h) hA (fun _ => rfl) (.inl ⟨rfl, fun w5 q1 => ?_⟩) ?_
   ·go_simp
    rw [IntKind.wrap_i64]; omega
   simp only [Act.put, List.setIfInBounds_toArray, List.set]
   refine wpGI_take (i := 12) (v := .pointer (some ⟨bh, 0, none⟩)) rfl rfl (fun L hc h => (hc.waits (n := 19) (i := 18) (by kernel_rfl) (hc.waits (n := 18) (i := 13) (by kernel_rfl) (hc.waits (n := 13) (i := 12) (by kernel_rfl) h)))) (by kernel_rfl) (fun _ _ _ h => h) hA (fun _ => rfl) (.inl ⟨rfl, fun w5 q1 => ?_⟩) ?_
   ·go_simp
   simp only [Act.put, List.setIfInBounds_toArray, List.set]
   refine wpGI_take (i := 13) (v := .int .i64 h.turn) rfl rfl (fun L hc h => (hc.waits (n := 19) (i := 18) (by kernel_rfl) (hc.waits (n := 18) (i := 13) (by kernel_rfl) h))) (by kernel_rfl) (fun _ _ _ h => h) hA (fun _ => rfl) (.inl ⟨rfl, fun w5 q1 => ?_⟩) ?_
   ·have hc : w5.cell? ⟨bh, 0, none⟩ = some (.int .i64 h.turn) := by simp [World.cell?, (HPI.out.upd q1).ch]
    go_simp
   simp only [Act.put, List.setIfInBounds_toArray, List.set]
   refine wpGI_take (i := 14) (v := .int .i64 number) rfl rfl (fun L hc h => (hc.waits (n := 19) (i := 18) (by kernel_rfl) (hc.waits (n := 18) (i := 14) (by kernel_rfl) h))) (by kernel_rfl) (fun _ _ _ h => h) hA (fun _ => rfl) (.inl ⟨rfl, fun w5 q1 => ?_⟩) ?_
   ·have hc := cells1_of ((HPI.out.upd q1).cn)
    go_simp
   simp only [Act.put, List.setIfInBounds_toArray, List.set]
   refine wpGI_take (i := 15) (v := .bool snap) rfl rfl (fun L hc h => (hc.waits (n := 19) (i := 18) (by kernel_rfl) (hc.waits (n := 18) (i := 15) (by kernel_rfl) h))) (by kernel_rfl) (fun _ _ _ h => h) hA (fun _ => rfl) (.inl ⟨rfl, fun w5 q1 => ?_⟩) ?_
   ·have hc := cells1_of ((HPI.out.upd q1).cs)
    go_simp
   simp only [Act.put, List.setIfInBounds_toArray, List.set]
   refine wpGI_take (i := 16) (v := .slice sa b.length sc) rfl rfl (fun L hc h => (hc.waits (n := 19) (i := 18) (by kernel_rfl) (hc.waits (n := 18) (i := 16) (by kernel_rfl) h))) (by kernel_rfl) (fun _ _ _ h => h) hA (fun _ => rfl) (.inl ⟨rfl, fun w5 q1 => ?_⟩) ?_
   ·have hc := cells1_of ((HPI.out.upd q1).cb)
    go_simp
   simp only [Act.put, List.setIfInBounds_toArray, List.set]
   refine wpGI_take (i := 17) (v := .int .i64 k) rfl rfl (fun L hc h => (hc.waits (n := 19) (i := 18) (by kernel_rfl) (hc.waits (n := 18) (i := 17) (by kernel_rfl) h))) (by kernel_rfl) (fun _ _ _ h => h) hA (fun _ => rfl) (.inl ⟨rfl, fun w5 q1 => ?_⟩) ?_
   ·go_simp
   simp only [Act.put, List.setIfInBounds_toArray, List.set]
   refine wpGI_doIf (i := 11) rfl (by kernel_rfl) rfl (fun K hK => ?_)
   have HKK := Lib.hid hK
   clear hK
   gi_step
   refine ⟨trivial, ?_⟩
   refine (callsIn_wide.2 (at_any h (place + k) _ ha (by omega))).mono ?_
   rintro e W4 ⟨rfl, hu⟩
   have hA4 : Upd (fun _ => False) wo W4 := hA.trans hu
   clear hA hu
   have hA := hA4
   clear hA4
   simp only []
   refine HKK.out _ _ ⟨fun _ => hA, ?_⟩
   clear HKK
   simp only [List.setIfInBounds_toArray, List.set]
   refine wpGI_doIf (i := 18) rfl (by kernel_rfl) rfl (fun K hK => ?_)
   have HKK := Lib.hid hK
   clear hK
   gi_step
   refine ⟨trivial, ?_⟩
   refine (callsIn_wide.2 (cut_any _ ht hnb (HPI.out.upd hA).bytes HB.out hl (by rw [← HSN.out]; exact hkn))).mono ?_
   rintro e W5 ⟨rfl, hu⟩
   have hA5 : Upd (fun _ => False) wo W5 := hA.trans hu
   clear hA hu
   have hA := hA5
   clear hA5
   simp only []
   refine HKK.out _ _ ⟨fun _ => hA, ?_⟩
   clear HKK
   simp only [List.setIfInBounds_toArray, List.set]
   have hJ5 := HJ.out ((partSc h number place snap b hb).take k) wo W5 none HJS.out ⟨hA.os, hA.tape, hA.output, hA.size, fun j hj _ => hA.block j hj (fun e => e)⟩ (fun r e => by cases e)
   have hks : k < secsN b.length := by rw [← HSN.out]; exact hkn
   obtain ⟨fn, tmps, assign, body, hy, hR⟩ := HY.out _ ⟨(atF h.area (place + k), cutF h.turn number snap b k), cutF_ok hb⟩ W5 hJ5 (by rw [partSc_length, List.length_take, partSc_length]; omega)
   rw [← partSc_take hb hks] at hR
   dsimp only at hy
   have HRR := Lib.hid hR; have HP5 := Lib.hid (HPI.out.upd hA)
   clear hR hJ5 hA hks HJS HPI HY HSI
   refine wpGI_doIf (i := 19) rfl (by kernel_rfl) rfl (fun K hK => ?_)
   have HKK := Lib.hid hK
   clear hK
   gi_step
   refine HRR.out.mono ?_
   rintro e W6 (⟨rfl, hJ6, hk6⟩ | ⟨rfl, hJx6⟩)
   ·have HJ6 := Lib.hid hJ6; have HP6 := Lib.hid (HP5.out.kept HPS.out hk6)
    clear hJ6 hk6 hy
    simp only []
    refine HKK.out _ _ ⟨fun hx => (by simp at hx), ?_⟩
    clear HKK
    simp only [List.setIfInBounds_toArray, List.set]
    refine wpGI_doIf (i := 20) rfl (by kernel_rfl) rfl (fun K hK => ?_)
    have HKK := Lib.hid hK
    clear hK
    gi_step
    refine HKK.out _ _ ⟨fun hx => (by simp at hx), ?_⟩
    clear HKK
    simp only [List.setIfInBounds_toArray, List.set]
    refine wpGI_done (by kernel_rfl) ?_
    gi_wp2
    have hsn := HSN.out
    gi_roundg (secsN b.length - (k + 1))
    case measure => omega
    case rel => exact ⟨k + 1, by omega, rfl, by go_num, HJ6.out, HP6.out⟩
   ·have HJ6 := Lib.hid hJx6
    clear hJx6 hy
    simp only []
    refine HKK.out _ _ ⟨fun hx => (by simp at hx), ?_⟩
    clear HKK
    simp only [List.setIfInBounds_toArray, List.set]
    refine wpGI_doIf (i := 20) rfl (by kernel_rfl) rfl (fun K hK => ?_)
    have HKK := Lib.hid hK
    clear hK
    gi_step
    refine HKK.out _ _ ⟨fun hx => (by simp at hx), ?_⟩
    clear HKK
    simp only [List.setIfInBounds_toArray, List.set]
    refine wpGI_done (by kernel_rfl) ?_
    gi_wp2
    refine bodyPost_end (results_none rfl _ _ _) rfl ?_
    exact ⟨⟨_, rfl⟩, .inr ⟨_, List.take_prefix _ _, HJ6.out⟩⟩
  ·
   have hkn2 : ¬ (k : Int) < sn := by omega
   refine wpGI_val (i := 4) (v := .bool false) rfl rfl (by kernel_rfl) hA (fun _ => rfl) (.inl ⟨rfl, fun w5 q1 => ?_⟩) ?_
   ·go_simp
   simp only [Act.put, List.setIfInBounds_toArray, List.set]
   refine wpGI_val (i := 5) (v := .bool false) rfl rfl (by kernel_rfl) hA (fun _ => rfl) (.inl ⟨rfl, fun w5 q1 => ?_⟩) ?_
   ·go_simp
   simp only [Act.put, List.setIfInBounds_toArray, List.set]
   refine wpGI_take (i := 6) (v := undef) rfl rfl (fun L hc h => (hc.waits (n := 19) (i := 6) (by kernel_rfl) h)) (by kernel_rfl) (fun _ _ _ h => h) hA (fun _ => rfl) (.inr ⟨rfl, rfl⟩) ?_
   simp only [Act.put, List.setIfInBounds_toArray, List.set]
   refine wpGI_take (i := 7) (v := undef) rfl rfl (fun L hc h => (hc.waits (n := 19) (i := 11) (by kernel_rfl) (hc.waits (n := 11) (i := 7) (by kernel_rfl) h))) (by kernel_rfl) (fun _ _ _ h => h) hA (fun _ => rfl) (.inr ⟨rfl, rfl⟩) ?_
   simp only [Act.put, List.setIfInBounds_toArray, List.set]
   refine wpGI_take (i := 8) (v := undef) rfl rfl (fun L hc h => (hc.waits (n := 19) (i := 11) (by kernel_rfl) (hc.waits (n := 11) (i := 10) (by kernel_rfl) (hc.waits (n := 10) (i := 8) (by kernel_rfl) h)))) (by kernel_rfl) (fun _ _ _ h => h) hA (fun _ => rfl) (.inr ⟨rfl, rfl⟩) ?_
   simp only [Act.put, List.setIfInBounds_toArray, List.set]
   refine wpGI_take (i := 9) (v := undef) rfl rfl (fun L hc h => (hc.waits (n := 19) (i := 11) (by kernel_rfl) (hc.waits (n := 11) (i := 10) (by kernel_rfl) (hc.waits (n := 10) (i := 9) (by kernel_rfl) h)))) (by kernel_rfl) (fun _ _ _ h => h) hA (fun _ => rfl) (.inr ⟨rfl, rfl⟩) ?_
   simp only [Act.put, List.setIfInBounds_toArray, List.set]
   refine wpGI_take (i := 10) (v := undef) rfl rfl (fun L hc h => (hc.waits (n := 19) (i := 11) (by kernel_rfl) (hc.waits (n := 11) (i := 10) (by kernel_rfl) h))) (by kernel_rfl) (fun _ _ _ h => h) hA (fun _ => rfl) (.inr ⟨rfl, rfl⟩) ?_
   simp only [Act.put, List.setIfInBounds_toArray, List.set]
   refine wpGI_take (i := 12) (v := undef) rfl rfl (fun L hc h => (hc.waits (n := 19) (i := 18) (by kernel_rfl) (hc.waits (n := 18) (i := 13) (by kernel_rfl) (hc.waits (n := 13) (i := 12) (by kernel_rfl) h)))) (by kernel_rfl) (fun _ _ _ h => h) hA (fun _ => rfl) (.inr ⟨rfl, rfl⟩) ?_
   simp only [Act.put, List.setIfInBounds_toArray, List.set]
   refine wpGI_take (i := 13) (v := undef) rfl rfl (fun L hc h => (hc.waits (n := 19) (i := 18) (by kernel_rfl) (hc.waits (n := 18) (i := 13) (by kernel_rfl) h))) (by kernel_rfl) (fun _ _ _ h => h) hA (fun _ => rfl) (.inr ⟨rfl, rfl⟩) ?_
   simp only [Act.put, List.setIfInBounds_toArray, List.set]
   refine wpGI_take (i := 14) (v := undef) rfl rfl (fun L hc h => (hc.waits (n := 19) (i := 18) (by kernel_rfl) (hc.waits (n := 18) (i := 14) (by kernel_rfl) h))) (by kernel_rfl) (fun _ _ _ h => h) hA (fun _ => rfl) (.inr ⟨rfl, rfl⟩) ?_
   simp only [Act.put, List.setIfInBounds_toArray, List.set]
   refine wpGI_take (i := 15) (v := undef) rfl rfl (fun L hc h => (hc.waits (n := 19) (i := 18) (by kernel_rfl) (hc.waits (n := 18) (i := 15) (by kernel_rfl) h))) (by kernel_rfl) (fun _ _ _ h => h) hA (fun _ => rfl) (.inr ⟨rfl, rfl⟩) ?_
   simp only [Act.put, List.setIfInBounds_toArray, List.set]
   refine wpGI_take (i := 16) (v := undef) rfl rfl (fun L hc h => (hc.waits (n := 19) (i := 18) (by kernel_rfl) (hc.waits (n := 18) (i := 16) (by kernel_rfl) h))) (by kernel_rfl) (fun _ _ _ h => h) hA (fun _ => rfl) (.inr ⟨rfl, rfl⟩) ?_
   simp only [Act.put, List.setIfInBounds_toArray, List.set]
   refine wpGI_take (i := 17) (v := undef) rfl rfl (fun L hc h => (hc.waits (n := 19) (i := 18) (by kernel_rfl) (hc.waits (n := 18) (i := 17) (by kernel_rfl) h))) (by kernel_rfl) (fun _ _ _ h => h) hA (fun _ => rfl) (.inr ⟨rfl, rfl⟩) ?_
   simp only [Act.put, List.setIfInBounds_toArray, List.set]
   refine wpGI_skip (i := 11) rfl (by kernel_rfl) rfl hA ?_
   simp only [Act.put, List.setIfInBounds_toArray, List.set]
   refine wpGI_skip (i := 18) rfl (by kernel_rfl) rfl hA ?_
   simp only [Act.put, List.setIfInBounds_toArray, List.set]
   refine wpGI_skip (i := 19) rfl (by kernel_rfl) rfl hA ?_
   simp only [Act.put, List.setIfInBounds_toArray, List.set]
   refine wpGI_val (i := 20) (v := .bool false) rfl rfl (by kernel_rfl) hA (fun _ => rfl) (.inl ⟨rfl, fun w5 q1 => ?_⟩) ?_
   ·go_simp
   simp only [Act.put, List.setIfInBounds_toArray, List.set]
   refine wpGI_done (by kernel_rfl) ?_
   gi_wp2
   refine bodyPost_end (results_none rfl _ _ _) rfl ?_
   have hj := HJS.out
   rw [List.take_of_length_le (by rw [partSc_length, ← HSN.out]; omega)] at hj
   exact ⟨⟨_, rfl⟩, .inl (HJ.out _ wo wo.drew none hj ⟨hA.os, hA.tape, hA.output, hA.size, fun j hj _ => hA.block j hj (fun e => e)⟩ (fun r e => by cases e))⟩
theorem part_stops (n : Nat) (hn : 1 ≤ n) {bb bh bp bn bs : Nat} {v : Value} {b : List Int} {h : Hd} {number place : Int} {snap : Bool} (hb : Bytes b) (hl : b.length ≤ 40000) (ht : 0 ≤ h.turn ∧ h.turn ≤ 4294967295) (ha : 1 ≤ h.area ∧ h.area ≤ 1000) (hnb : 0 ≤ number ∧ number ≤ 4294967295) (hp : 0 ≤ place ∧ place ≤ 1000000000000)
  {S : Nat → Prop} (w : World) (hS : ∀ k, S k → k < w.heap.size) (hPS : PartS S bb bh bp bn bs v b) (hP : PartIn w bb bh bp bn bs v b h number place snap) :
  SeqStopsK Fence.wide n Tryz.prog 160 #[.pointer (some ⟨bb, 0, none⟩), .pointer (some ⟨bh, 0, none⟩), .pointer (some ⟨bp, 0, none⟩), .pointer (some ⟨bn, 0, none⟩), .pointer (some ⟨bs, 0, none⟩)] (fun x : Sc => #[.int .i64 x.1.1, .agg (bcells x.1.2).toArray]) (Keep S) (fun ys => ys = partSc h number place snap b hb) (fun pre => pre <+: partSc h number place snap b hb) (partSc h number place snap b hb).length w := fun l J Jx W hW hJ _ hY h0 =>
 part_in n hn l hb hl ht ha hnb hp J Jx W (fun k hk => Nat.lt_of_lt_of_le (hS k hk) hW.size) hJ hY hPS (hP.kept hPS (fun k hk => hW.block k (hS k hk))) h0
end
section
open Go.RowKit Go.Shelf
theorem BytesIn.lt {w : World} {a : Addr} {b : List Int} (h : ∀ (i : Nat) u, (bcells b)[i]? = some u → w.cell? (a.add i) = some u) (hne : b ≠ []) : a.block < w.heap.size := by
 cases b with
 |nil => exact absurd rfl hne
 |cons x b =>
  have := h 0 (.int .u8 x) (by simp [bcells])
  rw [show a.add 0 = a by unfold Addr.add; simp] at this
  rcases Nat.lt_or_ge a.block w.heap.size with h' | h'
  ·exact h'
  ·simp [World.cell?, Array.getElem?_eq_none h'] at this
theorem secsN_bound {n : Nat} (h : n ≤ 40000) : secsN n ≤ 834 := by unfold secsN; omega
theorem part_any {p : Nat} {D : Dk} {F : Nat → Prop} {K : Nat} {v : Value} {b : List Int} {h : Hd} {number place : Int} {snap : Bool} (w : World) (hD : Dsk w p D F) (hok : D.Ok K) (hK : K ≤ 1099511620000) (hb : Bytes b) (hl : b.length ≤ 40000) (ht : 0 ≤ h.turn ∧ h.turn ≤ 4294967295) (ha : 1 ≤ h.area ∧ h.area ≤ 1000) (hnb : 0 ≤ number ∧ number ≤ 4294967295) (hp : 0 ≤ place ∧ place ≤ 1000000000000)
  (hbi : BytesIn w v b) (hsv : b ≠ [] → ∀ a n c, v = .slice (some a) n c → ¬ F a.block) :
  Calls Tryz.prog 110 #[h.val, .pointer (some ⟨p, 0, none⟩), .int .i64 number, .int .i64 place, .bool snap, v] w fun e w' => e = .returned (.int .i64 (D.laysE (raw (partSc h number place snap b hb)))) ∧ Left w p (D.lays (raw (partSc h number place snap b hb))) F w' := by
 obtain ⟨sa, sc, rfl⟩ := hbi.slice'
 have hflt := hD.lt
 obtain ⟨w5, hw5⟩ : ∃ w5, w5 = ((((w.alloc (.cells #[.int .i64 h.turn, .int .i64 h.area, .int .i64 h.place, .int .i64 h.number] 184)).alloc (.cells #[.int .i64 number] 3)).alloc (.cells #[.int .i64 place] 3)).alloc (.cells #[.bool snap] 4)).alloc (.cells #[.slice sa b.length sc] 39) := ⟨_, rfl⟩
 have hu5 : Upd (fun _ => False) w w5 := by rw [hw5]; exact (((((Upd.refl _ w).alloc _).alloc _).alloc _).alloc _).alloc _
 have hsz : w5.heap.size = w.heap.size + 5 := by rw [hw5]; simp
 have hP : PartIn w5 (w.heap.size + 4) w.heap.size (w.heap.size + 2) (w.heap.size + 1) (w.heap.size + 3) (.slice sa b.length sc) b h number place snap := by
  refine ⟨?_, ?_, ?_, ?_, ?_, hbi.kept hu5⟩
  ·rw [hw5]; exact alloc_at (by simp)
  ·rw [hw5, alloc_lt (by simp only [World.size_alloc]; omega), alloc_lt (by simp only [World.size_alloc]; omega), alloc_lt (by simp only [World.size_alloc]; omega), alloc_lt (by simp only [World.size_alloc]; omega)]; exact alloc_at rfl
  ·rw [hw5, alloc_lt (by simp), alloc_lt (by simp)]; exact alloc_at (by simp)
  ·rw [hw5, alloc_lt (by simp only [World.size_alloc]; omega), alloc_lt (by simp only [World.size_alloc]; omega), alloc_lt (by simp only [World.size_alloc]; omega)]; exact alloc_at (by simp)
  ·rw [hw5, alloc_lt (by simp)]; exact alloc_at (by simp)
 obtain ⟨S, hSd⟩ : ∃ S : Nat → Prop, S = fun k => (w.heap.size ≤ k ∧ k < w.heap.size + 5) ∨ (b ≠ [] ∧ ∃ a n c, Value.slice sa b.length sc = .slice (some a) n c ∧ k = a.block) := ⟨_, rfl⟩
 have hPS : PartS S (w.heap.size + 4) w.heap.size (w.heap.size + 2) (w.heap.size + 1) (w.heap.size + 3) (.slice sa b.length sc) b := by
  rw [hSd]
  exact ⟨.inl (by omega), .inl (by omega), .inl (by omega), .inl (by omega), .inl (by omega), fun hne a n c e => .inr ⟨hne, a, n, c, e, rfl⟩⟩
 have hSw : ∀ k, S k → k < w5.heap.size := by
  rw [hSd]
  rintro k (hk | ⟨hne, a, n, c, e, rfl⟩)
  ·omega
  ·rcases hbi with ⟨_, q⟩ | ⟨a', c', q1, _, _, q4⟩
   ·exact absurd q hne
   ·rw [q1] at e
    simp only [Value.slice.injEq, Option.some.injEq] at e
    obtain ⟨rfl, _, _⟩ := e
    have := BytesIn.lt (a := a') q4 hne
    omega
 have hSF : ∀ k, S k → ¬ F k := by
  rw [hSd]
  rintro k (hk | ⟨hne, a, n, c, e, rfl⟩) hF
  ·have := hflt k hF; omega
  ·exact hsv hne a n c e hF
 have hsec := secsN_bound hl
 have hrun := lays_run (gf := 160) (lb := #[.pointer (some ⟨w.heap.size + 4, 0, none⟩), .pointer (some ⟨w.heap.size, 0, none⟩), .pointer (some ⟨w.heap.size + 2, 0, none⟩), .pointer (some ⟨w.heap.size + 1, 0, none⟩), .pointer (some ⟨w.heap.size + 3, 0, none⟩)]) (S := S) (partSc h number place snap b hb) w5 (hD.kept hu5 (fun _ _ e => e)) hok (by rw [partSc_length]; omega) (enters_of Tryz.func160 (by kernel_rfl) rfl) hSF hSw
  (fun w1 hu1 => part_stops (3 - 1) (by omega) hb hl ht ha hnb hp w1 (fun k hk => Nat.lt_of_lt_of_le (hSw k hk) hu1.size) hPS (hP.upd hu1))
 have HR := Lib.hid hrun; have HU5 := Lib.hid hu5; have HW5 := Lib.hid hw5
 clear hrun hP hPS hSw hSF hSd hu5 hD hok hbi hsv hsz hw5 hflt
 unfold Hd.val
 go_enter Tryz.func110, Tryz.ntmps110
 go_wp2_with (go_at_call 107; fail)
 rw [HW5.out] at HR
 refine HR.out.mono ?_
 rintro e w6 ⟨rfl, hl6⟩
 have HL := Lib.hid (hl6.of_upd ((by rw [← HW5.out]; exact HU5.out.mono (fun _ _ e => e.elim))) (by simp; omega))
 clear hl6 HR
 simp only []
 go_wp2
 go_ret
 exact ⟨rfl, HL.out⟩
theorem laid_any {p : Nat} {D : Dk} {F : Nat → Prop} {K : Nat} {h : Hd} (w : World) (hD : Dsk w p D F) (hok : D.Ok K) (hK : K ≤ 1099511620000) (hu : h.U32) :
  Calls Tryz.prog 112 #[h.val, .pointer (some ⟨p, 0, none⟩)] w fun e w' => e = .returned (.int .i64 (D.laysE (raw [headSc h]))) ∧ Left w p (D.lays (raw [headSc h])) F w' := by
 have hflt := hD.lt
 obtain ⟨w5, hw5⟩ : ∃ w5, w5 = w.alloc (.cells #[.int .i64 h.turn, .int .i64 h.area, .int .i64 h.place, .int .i64 h.number] 184) := ⟨_, rfl⟩
 have hu5 : Upd (fun _ => False) w w5 := by rw [hw5]; exact (Upd.refl _ w).alloc _
 have hsz : w5.heap.size = w.heap.size + 1 := by rw [hw5]; simp
 have hc : w5.heap[w.heap.size]? = some (.cells #[.int .i64 h.turn, .int .i64 h.area, .int .i64 h.place, .int .i64 h.number] 184 (0, 0)) := by rw [hw5]; exact alloc_at rfl
 have hSw : ∀ k, k = w.heap.size → k < w5.heap.size := fun k hk => by omega
 have hSF : ∀ k, k = w.heap.size → ¬ F k := fun k hk e => by have := hflt k e; omega
 have hrun := lays_run (gf := 163) (lb := #[.pointer (some ⟨w.heap.size, 0, none⟩)]) (S := fun k => k = w.heap.size) [headSc h] w5 (hD.kept hu5 (fun _ _ e => e)) hok (by simp; omega) (enters_of Tryz.func163 (by kernel_rfl) rfl) hSF hSw
  (fun w1 hu1 => laid_stops (3 - 1) (by omega) w.heap.size h hu (fun k => k = w.heap.size) w1 (fun k hk => Nat.lt_of_lt_of_le (hSw k hk) hu1.size) rfl ((hu1.block _ (lt_of_heap hc) (fun e => e)).trans hc))
 have HR := Lib.hid hrun; have HU5 := Lib.hid hu5; have HW5 := Lib.hid hw5
 clear hrun hSw hSF hu5 hD hok hsz hw5 hflt hc
 unfold Hd.val
 go_enter Tryz.func112, Tryz.ntmps112
 go_wp2_with (go_at_call 107; fail)
 rw [HW5.out] at HR
 refine HR.out.mono ?_
 rintro e w6 ⟨rfl, hl6⟩
 have HL := Lib.hid (hl6.of_upd ((by rw [← HW5.out]; exact HU5.out.mono (fun _ _ e => e.elim))) (by simp))
 clear hl6 HR
 simp only []
 go_wp2
 go_ret
 exact ⟨rfl, HL.out⟩
end
section
open Go.RowKit
structure Lg where
 h : Hd
 parts : List (List Int)
 used : Int
 broken : Bool
def Lg.cells (X : Lg) (p : Nat) (PV : Value) : Array Value := #[.int .i64 X.h.turn, .int .i64 X.h.area, .int .i64 X.h.place, .int .i64 X.h.number, .pointer (some ⟨p, 0, none⟩), PV, .int .i64 X.used, .bool X.broken]
structure LogAt (w : World) (q p : Nat) (X : Lg) (PV : Value) (vs : List Value) : Prop where
 main : w.heap[q]? = some (.cells (X.cells p PV) 193 (0, 0))
 row : w.ownsRow 0 39 1 PV X.parts.length vs
 parts : ∀ (i : Nat) v b, vs[i]? = some v → X.parts[i]? = some b → OwnB w 0 v b
 nq : ∀ k, PV.ownBlock = some k → k ≠ q
 nv : ∀ v k, v ∈ vs → v.ownBlock = some k → k ≠ q ∧ PV.ownBlock ≠ some k
def Gp (q : Nat) (PV : Value) (vs : List Value) (k : Nat) : Prop := k = q ∨ PV.ownBlock = some k ∨ ∃ v ∈ vs, v.ownBlock = some k
def Log (w : World) (q p : Nat) (X : Lg) (G : Nat → Prop) : Prop := ∃ PV vs, LogAt w q p X PV vs ∧ ∀ k, G k ↔ Gp q PV vs k
theorem LogAt.vslen {w : World} {q p : Nat} {X : Lg} {PV : Value} {vs : List Value} (h : LogAt w q p X PV vs) : vs.length = X.parts.length := by have := h.row.1; omega
theorem LogAt.kept {w w' : World} {q p : Nat} {X : Lg} {PV : Value} {vs : List Value} {F : Nat → Prop} (h : LogAt w q p X PV vs) (hu : Upd F w w') (hd : ∀ k, Gp q PV vs k → ¬ F k) : LogAt w' q p X PV vs where
 main := (hu.block _ (lt_of_heap h.main) (hd _ (.inl rfl))).trans h.main
 row := ownsRow_any h.row hu (fun k hk => hd k (.inr (.inl hk)))
 parts i v b hv hb := (h.parts i v b hv hb).keptF hu (fun k hk => hd k (.inr (.inr ⟨v, List.mem_of_getElem? hv, hk⟩)))
 nq := h.nq
 nv := h.nv
theorem Log.kept {w w' : World} {q p : Nat} {X : Lg} {G F : Nat → Prop} (h : Log w q p X G) (hu : Upd F w w') (hd : ∀ k, G k → ¬ F k) : Log w' q p X G := by
 obtain ⟨PV, vs, h1, h2⟩ := h
 exact ⟨PV, vs, h1.kept hu (fun k hk => hd k ((h2 k).2 hk)), h2⟩
theorem Log.lt {w : World} {q p : Nat} {X : Lg} {G : Nat → Prop} (h : Log w q p X G) : ∀ k, G k → k < w.heap.size := by
 obtain ⟨PV, vs, h1, h2⟩ := h
 intro k hk
 rcases (h2 k).1 hk with rfl | hk | ⟨v, hv, hk⟩
 ·exact lt_of_heap h1.main
 ·exact (World.ownsRow.lt h1.row k hk).2
 ·obtain ⟨i, hi⟩ := List.getElem?_of_mem hv
  have hl := h1.vslen
  have hil : i < X.parts.length := by rw [← hl]; exact (List.getElem?_eq_some_iff.1 hi).1
  exact (World.ownsRow.lt (h1.parts i v X.parts[i] hi (by simp [hil])) k hk).2
theorem Log.mem {w : World} {q p : Nat} {X : Lg} {G : Nat → Prop} (h : Log w q p X G) : G q := by
 obtain ⟨PV, vs, _, h2⟩ := h
 exact (h2 q).2 (.inl rfl)
theorem cells8_of {w : World} {b : Nat} {x0 x1 x2 x3 x4 x5 x6 x7 : Value} {t : TypeId} (h : w.heap[b]? = some (.cells #[x0, x1, x2, x3, x4, x5, x6, x7] t (0, 0))) :
  w.cell? ⟨b, 0, none⟩ = some x0 ∧ w.cell? ⟨b, 1, none⟩ = some x1 ∧ w.cell? ⟨b, 2, none⟩ = some x2 ∧ w.cell? ⟨b, 3, none⟩ = some x3 ∧ w.cell? ⟨b, 4, none⟩ = some x4 ∧ w.cell? ⟨b, 5, none⟩ = some x5 ∧ w.cell? ⟨b, 6, none⟩ = some x6 ∧ w.cell? ⟨b, 7, none⟩ = some x7 := by simp [World.cell?, h]
theorem rowV {w : World} {B : Nat} {e : TypeId} {n : Nat} {v : Value} {xs : List Value} (h : w.ownsRow B e 1 v n xs) : ∃ sa c, v = .slice sa n c := by
 rcases h.2 with ⟨h1, h2⟩ | ⟨g, cap, cur, h1, _⟩
 ·exact ⟨none, 0, by rw [h1, h2]⟩
 ·exact ⟨_, cap, h1⟩
structure Lg.Ok (X : Lg) : Prop where
 turn : 0 ≤ X.h.turn ∧ X.h.turn ≤ 1073741824
 area : 4 ≤ X.h.area ∧ X.h.area ≤ 1000
 place : 0 ≤ X.h.place ∧ X.h.place ≤ 100000
 number : 0 ≤ X.h.number ∧ X.h.number ≤ 1073741825
 used : 0 ≤ X.used ∧ X.used ≤ 1000
 len : X.parts.length ≤ 1000
 bytes : ∀ b ∈ X.parts, Bytes b ∧ b.length ≤ 40000
theorem next_any {q p : Nat} {X : Lg} {G : Nat → Prop} (w : World) (h : Log w q p X G) (hok : X.Ok) :
  Calls Tryz.prog 116 #[.pointer (some ⟨q, 0, none⟩)] w fun e w' => e = .returned (.int .i64 (X.h.number + X.parts.length)) ∧ Upd (fun _ => False) w w' := by
 obtain ⟨PV, vs, h1, _⟩ := h
 obtain ⟨sa, c, rfl⟩ := rowV h1.row
 obtain ⟨c0, c1, c2, c3, c4, c5, c6, c7⟩ := cells8_of h1.main
 have hn := hok.number; have hl := hok.len
 have hw : IntKind.i64.wrap (X.h.number + X.parts.length) = X.h.number + X.parts.length := by rw [IntKind.wrap_i64]; omega
 clear h1 c0 c1 c2 c4 c6 c7
 go_enter Tryz.func116, Tryz.ntmps116
 go_upto_region 1 with fail
 go_quiet (fail)
 go_wp2
 go_ret
 exact ⟨rfl, ⟨rfl, rfl, rfl, Nat.le_refl _, fun _ _ _ => rfl⟩⟩
theorem left_any {q p : Nat} {X : Lg} {G : Nat → Prop} (w : World) (h : Log w q p X G) (hok : X.Ok) :
  Calls Tryz.prog 54 #[.pointer (some ⟨q, 0, none⟩)] w fun e w' => e = .returned (.int .i64 (X.h.area - X.used)) ∧ Upd (fun _ => False) w w' := by
 obtain ⟨PV, vs, h1, _⟩ := h
 obtain ⟨c0, c1, c2, c3, c4, c5, c6, c7⟩ := cells8_of h1.main
 have hn := hok.area; have hl := hok.used
 have hw : IntKind.i64.wrap (X.h.area - X.used) = X.h.area - X.used := by rw [IntKind.wrap_i64]; omega
 clear h1 c0 c2 c3 c4 c5 c7
 go_enter Tryz.func54, Tryz.ntmps54
 go_upto_region 3 with fail
 go_quiet (fail)
 go_wp2
 go_ret
 exact ⟨rfl, ⟨rfl, rfl, rfl, Nat.le_refl _, fun _ _ _ => rfl⟩⟩
theorem loglen_any {q p : Nat} {X : Lg} {G : Nat → Prop} (w : World) (h : Log w q p X G) (hok : X.Ok) :
  Calls Tryz.prog 55 #[.pointer (some ⟨q, 0, none⟩)] w fun e w' => e = .returned (.int .i64 (X.parts.length - 1)) ∧ Upd (fun _ => False) w w' := by
 obtain ⟨PV, vs, h1, _⟩ := h
 obtain ⟨sa, c, rfl⟩ := rowV h1.row
 obtain ⟨c0, c1, c2, c3, c4, c5, c6, c7⟩ := cells8_of h1.main
 have hl := hok.len
 have hw : IntKind.i64.wrap ((X.parts.length : Int) - 1) = (X.parts.length : Int) - 1 := by rw [IntKind.wrap_i64]; omega
 clear h1 c0 c1 c2 c3 c4 c6 c7
 go_enter Tryz.func55, Tryz.ntmps55
 go_wp2
 go_ret
 exact ⟨rfl, Upd.refl _ w⟩
theorem Tryz.info28p : (Tryz.prog.info? 39).map (fun i => (i.zero, i.size, i.bytes)) = some (some (.slice none 0 0), 1, 24) := by kernel_rfl
def Lg.add (X : Lg) (b : List Int) : Lg := { X with parts := X.parts ++ [b], used := X.used + secsN b.length }
theorem adds_any {q p : Nat} {X : Lg} {G : Nat → Prop} {v : Value} {b : List Int} {B : Nat} (w : World) (h : Log w q p X G) (hok : X.Ok) (hlen : X.parts.length < 1000) (hb : OwnB w B v b) (hvG : ∀ k, v.ownBlock = some k → ¬ G k) (hl : b.length ≤ 40000) :
  Calls Tryz.prog 117 #[.pointer (some ⟨q, 0, none⟩), v] w fun e w' => e = .returned (.tuple #[]) ∧ (∃ G', Log w' q p (X.add b) G' ∧ ∀ k, G' k → G k ∨ v.ownBlock = some k ∨ w.heap.size ≤ k) ∧ Upd G w w' := by
 have hGlt := h.lt
 obtain ⟨PV, vs, h1, h2⟩ := h
 obtain ⟨pa, pc, rfl⟩ := rowV h1.row
 obtain ⟨sa, sc, rfl⟩ := hb.slice'
 have hvlt := World.ownsRow.lt hb
 have HSI : RowKit.Hid (secsI (b.length : Int) = (secsN b.length : Int)) := Lib.hid (secsI_nat hl)
 have hsb := secsN_bound hl
 have hus := hok.used
 have hwu : IntKind.i64.wrap (X.used + (secsN b.length : Int)) = X.used + (secsN b.length : Int) := by rw [IntKind.wrap_i64]; omega
 have HM := Lib.hid h1.main
 have c5 : w.cell? ⟨q, 5, none⟩ = some (.slice pa X.parts.length pc) := by simp [World.cell?, h1.main, Lg.cells]
 have H1 := Lib.hid h1; have H2 := Lib.hid h2; have HB := Lib.hid hb; have HVG := Lib.hid hvG; have HGL := Lib.hid hGlt; have HVL := Lib.hid hvlt
 clear h1 h2 hb hvG hGlt hvlt
 go_enter Tryz.func117, Tryz.ntmps117
 go_upto_region 0 with fail
 iterate 22 go_step
 obtain ⟨i0, hi0, hz0, hz1, hz2⟩ := info_parts Tryz.info28p
 refine wpList_append_own_at _ rfl (.tmp 8) (.tmp 10) 32 rfl 0 39 i0 (.slice none 0 0) 1 24 Tryz.underlying32 hi0 hz0 hz1 hz2 rfl (by omega) _ _ _ rfl (H1.out.row.alloc _) ⟨w.heap.size, 0, none⟩ 1 1 [.slice sa b.length sc] rfl rfl (cell_one_new _ _ _) (by simp [Value.oneCell']) (by unfold maxLen; omega) (by omega) (by omega) ?_
 intro v' w4 hown hgrow _ hat
 obtain ⟨g, cap, rfl⟩ := ownsRow_succ hown
 have hu4 : Upd (fun k => (Value.slice pa X.parts.length pc).ownBlock = some k) w w4 := ((Upd.refl _ w).alloc _).trans (Upd.of_grown hgrow (fun k hk => hk))
 have hqn : ¬ (Value.slice pa X.parts.length pc).ownBlock = some q := fun e => H1.out.nq q e rfl
 have hm4 := (hu4.block _ (lt_of_heap HM.out) hqn).trans HM.out
 have c5' : w4.cell? ⟨q, 5, none⟩ = some (.slice pa X.parts.length pc) := by simp [World.cell?, hm4, Lg.cells]
 have f5 : w4.frozen? ⟨q, 5, none⟩ = false := frozen_of_heap hm4
 have hat2 : g = w.heap.size + 1 ∨ (Value.slice pa X.parts.length pc).ownBlock = some g := by
  rcases hat with e | e
  ·exact .inr (show (Value.slice pa X.parts.length pc).ownBlock = some g from e.symm)
  ·simp [Value.ownBlock] at e; exact .inl e
 have HOWN := Lib.hid hown; have HU4 := Lib.hid hu4; have HM4 := Lib.hid hm4; have HAT := Lib.hid hat2
 clear hown hgrow hat hat2 hu4 hm4 hqn hi0 hz0 hz1 hz2 c5
 go_upto_region 1 with fail
 obtain ⟨w5, hw5⟩ : ∃ w5, w5 = w4.setCell ⟨q, 5, none⟩ (.slice (some ⟨g, 0, none⟩) (X.parts.length + 1) cap) := ⟨_, rfl⟩
 rw [← hw5]
 have hm5 : w5.heap[q]? = some (.cells [.int .i64 X.h.turn, .int .i64 X.h.area, .int .i64 X.h.place, .int .i64 X.h.number, .pointer (some ⟨p, 0, none⟩), .slice (some ⟨g, 0, none⟩) (X.parts.length + 1) cap, .int .i64 X.used, .bool X.broken].toArray 193 (0, 0)) := by
  rw [hw5]
  have := blk_set (i := 5) (v := .slice (some ⟨g, 0, none⟩) (X.parts.length + 1) cap) HM4.out
  simpa [Lg.cells] using this
 have hu5 : Upd (fun k => (Value.slice pa X.parts.length pc).ownBlock = some k ∨ k = q) w w5 := by
  rw [hw5]
  exact Upd.setCell (p := ⟨q, 5, none⟩) (HU4.out.mono (fun _ _ e => .inl e)) (.inl (.inr rfl)) _
 have hgq : g ≠ q := by
  rcases HAT.out with e | e
  ·have := lt_of_heap HM.out; omega
  ·exact H1.out.nq g e
 have hrow5 : w5.ownsRow 0 39 1 (.slice (some ⟨g, 0, none⟩) (X.parts.length + 1) cap) (X.parts.length + 1) (vs ++ [.slice sa b.length sc]) := by
  rw [hw5]
  exact ownsRow_any HOWN.out (upd_own w4 q 5 _) (fun k hk e => by simp [Value.ownBlock] at hk; omega)
 have HM5 := Lib.hid hm5; have HU5 := Lib.hid hu5; have HR5 := Lib.hid hrow5; have HGQ := Lib.hid hgq
 clear hm5 hu5 hrow5 hgq hw5 HOWN HU4 HM4 HM c5' f5
 have hA : w5.drew.heap[q]? = some (.cells [.int .i64 X.h.turn, .int .i64 X.h.area, .int .i64 X.h.place, .int .i64 X.h.number, .pointer (some ⟨p, 0, none⟩), .slice (some ⟨g, 0, none⟩) (X.parts.length + 1) cap, .int .i64 X.used, .bool X.broken].toArray 193 (0, 0)) := HM5.out
 refine wp_region_G 10 (fun W => W.heap[q]? = some (.cells [.int .i64 X.h.turn, .int .i64 X.h.area, .int .i64 X.h.place, .int .i64 X.h.number, .pointer (some ⟨p, 0, none⟩), .slice (some ⟨g, 0, none⟩) (X.parts.length + 1) cap, .int .i64 X.used, .bool X.broken].toArray 193 (0, 0))) [false, false, false, false, false, false, false, false, false, false, false] rfl (by kernel_rfl) ?_
 refine wpG_takeT (i := 0) (v := .pointer (some ⟨q, 0, none⟩)) rfl (fun L hc h => (hc.waits (n := 10) (i := 9) (by kernel_rfl) (hc.waits (n := 9) (i := 8) (by kernel_rfl) (hc.waits (n := 8) (i := 0) (by kernel_rfl) h)))) (by kernel_rfl) (fun _ _ _ h => h) hA (.inl ⟨rfl, fun w5 q1 => ?_⟩) ?_
 ·go_simp
 simp only [Act.put, List.setIfInBounds_toArray, List.set]
 refine wpG_takeT (i := 1) (v := .pointer (some ⟨q, 0, none⟩)) rfl (fun L hc h => (hc.waits (n := 10) (i := 7) (by kernel_rfl) (hc.waits (n := 7) (i := 3) (by kernel_rfl) (hc.waits (n := 3) (i := 2) (by kernel_rfl) (hc.waits (n := 2) (i := 1) (by kernel_rfl) h))))) (by kernel_rfl) (fun _ _ _ h => h) hA (.inl ⟨rfl, fun w5 q1 => ?_⟩) ?_
 ·go_simp
 simp only [Act.put, List.setIfInBounds_toArray, List.set]
 refine wpG_takeT (i := 2) (v := .pointer (some ⟨q, 6, none⟩)) rfl (fun L hc h => (hc.waits (n := 10) (i := 7) (by kernel_rfl) (hc.waits (n := 7) (i := 3) (by kernel_rfl) (hc.waits (n := 3) (i := 2) (by kernel_rfl) h)))) (by kernel_rfl) (fun _ _ _ h => h) hA (.inl ⟨rfl, fun w5 q1 => ?_⟩) ?_
 ·go_simp
 simp only [Act.put, List.setIfInBounds_toArray, List.set]
 refine wpG_takeT (i := 3) (v := .int .i64 X.used) rfl (fun L hc h => (hc.waits (n := 10) (i := 7) (by kernel_rfl) (hc.waits (n := 7) (i := 3) (by kernel_rfl) h))) (by kernel_rfl) (fun _ _ _ h => h) hA (.inl ⟨rfl, fun w5 q1 => ?_⟩) ?_
 ·have c6 : w5.cell? ⟨q, 6, none⟩ = some (.int .i64 X.used) := by simp [World.cell?, q1]
  go_simp
 simp only [Act.put, List.setIfInBounds_toArray, List.set]
 refine wpG_takeT (i := 4) (v := .slice sa b.length sc) rfl (fun L hc h => (hc.waits (n := 10) (i := 6) (by kernel_rfl) (hc.waits (n := 6) (i := 5) (by kernel_rfl) (hc.waits (n := 5) (i := 4) (by kernel_rfl) h)))) (by kernel_rfl) (fun _ _ _ h => h) hA (.inl ⟨rfl, fun w5 q1 => ?_⟩) ?_
 ·go_simp
 simp only [Act.put, List.setIfInBounds_toArray, List.set]
 refine wpG_takeT (i := 5) (v := .int .i64 b.length) rfl (fun L hc h => (hc.waits (n := 10) (i := 6) (by kernel_rfl) (hc.waits (n := 6) (i := 5) (by kernel_rfl) h))) (by kernel_rfl) (fun _ _ _ h => h) hA (.inl ⟨rfl, fun w5 q1 => ?_⟩) ?_
 ·go_simp
 simp only [Act.put, List.setIfInBounds_toArray, List.set]
 refine wpG_doIf (i := 6) rfl (by kernel_rfl) rfl (fun K hK => ?_)
 have HKK := Lib.hid hK
 clear hK
 go_step
 refine (sectors_any _ _).mono ?_
 rintro e W3 ⟨rfl, rfl⟩
 rw [HSI.out]
 simp only []
 refine HKK.out _ _ hA ?_
 clear HKK
 simp only [List.setIfInBounds_toArray, List.set]
 refine wpG_takeT (i := 7) (v := .int .i64 (X.used + secsN b.length)) rfl (fun L hc h => (hc.waits (n := 10) (i := 7) (by kernel_rfl) h)) (by kernel_rfl) (fun _ _ _ h => h) hA (.inl ⟨rfl, fun w5 q1 => ?_⟩) ?_
 ·go_simp
 simp only [Act.put, List.setIfInBounds_toArray, List.set]
 refine wpG_takeT (i := 8) (v := .pointer (some ⟨q, 0, none⟩)) rfl (fun L hc h => (hc.waits (n := 10) (i := 9) (by kernel_rfl) (hc.waits (n := 9) (i := 8) (by kernel_rfl) h))) (by kernel_rfl) (fun _ _ _ h => h) hA (.inl ⟨rfl, fun w5 q1 => ?_⟩) ?_
 ·go_simp
 simp only [Act.put, List.setIfInBounds_toArray, List.set]
 refine wpG_takeT (i := 9) (v := .pointer (some ⟨q, 6, none⟩)) rfl (fun L hc h => (hc.waits (n := 10) (i := 9) (by kernel_rfl) h)) (by kernel_rfl) (fun _ _ _ h => h) hA (.inl ⟨rfl, fun w5 q1 => ?_⟩) ?_
 ·go_simp
 simp only [Act.put, List.setIfInBounds_toArray, List.set]
 refine wpG_tail_lit (k := 10) rfl rfl (by kernel_rfl) ?_
 simp only [List.drop]
 have c6 : w5.drew.cell? ⟨q, 6, none⟩ = some (.int .i64 X.used) := by simp [World.cell?, hA]
 have f6 : w5.drew.frozen? ⟨q, 6, none⟩ = false := frozen_of_heap hA
 clear hA
 go_wp2
 refine bodyPost_end (results_none rfl _ _ _) rfl ?_
 obtain ⟨w6, hw6⟩ : ∃ w6, w6 = (w5.setCell ⟨q, 6, none⟩ (.int .i64 (X.used + (secsN b.length : Int)))).drew := ⟨_, rfl⟩
 rw [← hw6]
 have hu56 : Upd (fun k => k = q) w5 w6 := by rw [hw6]; exact (upd_own w5 q 6 _).drew
 have hm6 : w6.heap[q]? = some (.cells ((X.add b).cells p (.slice (some ⟨g, 0, none⟩) (X.parts.length + 1) cap)) 193 (0, 0)) := by
  rw [hw6]
  show (w5.setCell ⟨q, 6, none⟩ (.int .i64 (X.used + (secsN b.length : Int)))).heap[q]? = _
  have := blk_set (i := 6) (v := .int .i64 (X.used + (secsN b.length : Int))) HM5.out
  simpa [Lg.cells, Lg.add] using this
 have hu6 : Upd (fun k => (Value.slice pa X.parts.length pc).ownBlock = some k ∨ k = q) w w6 := HU5.out.trans (hu56.mono (fun _ _ e => .inr e))
 have hvl := H1.out.vslen
 have hFG : ∀ k, ((Value.slice pa X.parts.length pc).ownBlock = some k ∨ k = q) → G k := fun k hk => (H2.out k).2 (hk.elim (fun e => .inr (.inl e)) .inl)
 have hvs : ∀ u ∈ vs, ∀ k, u.ownBlock = some k → k < w.heap.size := fun u hu k hk => HGL.out k ((H2.out k).2 (.inr (.inr ⟨u, hu, hk⟩)))
 have hgk : ∀ k, k < w.heap.size → ¬ (Value.slice pa X.parts.length pc).ownBlock = some k → k ≠ g := fun k hk hn e => by
  rcases HAT.out with q1 | q1
  ·omega
  ·rw [e] at hn; exact hn q1
 refine ⟨rfl, ⟨Gp q (.slice (some ⟨g, 0, none⟩) (X.parts.length + 1) cap) (vs ++ [.slice sa b.length sc]), ⟨_, _, ⟨hm6, ?_, ?_, ?_, ?_⟩, fun _ => Iff.rfl⟩, ?_⟩, hu6.mono (fun k _ e => hFG k e)⟩
 ·have hlp : (X.add b).parts.length = X.parts.length + 1 := by simp [Lg.add]
  rw [hlp]
  exact ownsRow_any HR5.out hu56 (fun k hk e => by simp [Value.ownBlock] at hk; have := HGQ.out; omega)
 ·intro i u c hu hc
  by_cases hi : i < vs.length
  ·rw [List.getElem?_append_left hi] at hu
   have hc' : X.parts[i]? = some c := by
    simp only [Lg.add] at hc
    rwa [List.getElem?_append_left (by omega)] at hc
   have hm := List.mem_of_getElem? hu
   refine (H1.out.parts i u c hu hc').keptF hu6 (fun k hk e => ?_)
   obtain ⟨n1, n2⟩ := H1.out.nv u k hm hk
   rcases e with e | e
   ·exact n2 e
   ·exact n1 e
  ·have hil : i = vs.length := by
    have := (List.getElem?_eq_some_iff.1 hu).1
    simp at this; omega
   subst hil
   rw [List.getElem?_append_right (Nat.le_refl _)] at hu
   have hc' : b = c := by
    simp only [Lg.add] at hc
    rw [List.getElem?_append_right (by omega)] at hc
    simpa [hvl] using hc
   simp at hu
   subst hu; subst hc'
   exact (OwnB.mono HB.out (Nat.zero_le _)).keptF hu6 (fun k hk e => HVG.out k hk (hFG k e))
 ·intro k hk
  simp [Value.ownBlock] at hk
  have := HGQ.out; omega
 ·intro u k hu hk
  rw [List.mem_append] at hu
  rcases hu with hu | hu
  ·obtain ⟨n1, n2⟩ := H1.out.nv u k hu hk
   refine ⟨n1, fun e => ?_⟩
   simp [Value.ownBlock] at e
   exact hgk k (hvs u hu k hk) n2 e.symm
  ·simp at hu; subst hu
   have n0 := HVG.out k hk
   refine ⟨fun e => n0 (hFG k (.inr e)), fun e => ?_⟩
   simp [Value.ownBlock] at e
   exact hgk k (HVL.out k hk).2 (fun e2 => n0 (hFG k (.inl e2))) e.symm
 ·rintro k (rfl | hk | ⟨u, hu, hk⟩)
  ·exact .inl (hFG _ (.inr rfl))
  ·simp [Value.ownBlock] at hk
   subst hk
   rcases HAT.out with q1 | q1
   ·exact .inr (.inr (by omega))
   ·exact .inl (hFG _ (.inl q1))
  ·rw [List.mem_append] at hu
   rcases hu with hu | hu
   ·exact .inl ((H2.out k).2 (.inr (.inr ⟨u, hu, hk⟩)))
   ·simp at hu; subst hu
    exact .inr (.inl hk)
def Lg.refuses (X : Lg) (n : Nat) (u : Int) : Int := if X.broken then 8 else if 40000 < n then 3 else if X.h.area < u + secsN n ∨ 1073741824 < X.h.number + X.parts.length then 6 else 0
theorem refuses_nil {sa : Option Addr} {n sc : Nat} {f : Value} (w : World) : Calls Tryz.prog 114 #[.pointer none, .slice sa n sc, f] w fun e w' => e = .returned (.int .i64 1) ∧ w = w' := by
 go_enter Tryz.func114, Tryz.ntmps114
 go_wp2
 go_ret
 exact ⟨rfl, rfl⟩
theorem refuses_any {q p : Nat} {X : Lg} {G : Nat → Prop} {fu : Nat} {lb : Array Value} {sa : Option Addr} {n sc : Nat} {u : Int} (w : World) (h : Log w q p X G) (hok : X.Ok) (hu : 0 ≤ u ∧ u ≤ 1000) (eg : ∀ args w, (callFunc fu args).run Tryz.prog w = .ok (.enter fu args) w)
  (hc : ∀ W', Upd (fun _ => False) w W' → Calls Tryz.prog fu lb W' fun e w' => e = .returned (.int .i64 u) ∧ Upd (fun _ => False) W' w') :
  Calls Tryz.prog 114 #[.pointer (some ⟨q, 0, none⟩), .slice sa n sc, .func (.func fu) #[] lb] w fun e w' => e = .returned (.int .i64 (X.refuses n u)) ∧ Upd (fun _ => False) w w' := by
 have hLG := h
 obtain ⟨PV, vs, h1, _⟩ := h
 have hm := h1.main
 obtain ⟨pa, pc, rfl⟩ := rowV h1.row
 have c7 : w.cell? ⟨q, 7, none⟩ = some (.bool X.broken) := by simp [World.cell?, hm, Lg.cells]
 have hrf : X.refuses n u = if X.broken then 8 else if 40000 < n then 3 else if X.h.area < u + secsN n ∨ 1073741824 < X.h.number + X.parts.length then 6 else 0 := rfl
 obtain ⟨r, hr⟩ : ∃ r, r = X.refuses n u := ⟨_, rfl⟩
 rw [← hr] at hrf ⊢
 obtain ⟨br, hbr⟩ : ∃ br, br = X.broken := ⟨_, rfl⟩
 rw [← hbr] at c7 hrf
 have HC := Lib.hid hc; have HM := Lib.hid hm; have HLG := Lib.hid hLG
 clear hc hm h1 hr hbr hLG
 cases br with
 |true =>
  rw [if_pos rfl] at hrf
  subst hrf
  go_enter Tryz.func114, Tryz.ntmps114
  go_wp2
  go_ret
  exact ⟨rfl, Upd.refl _ _⟩
 |false =>
  rw [if_neg (by simp)] at hrf
  by_cases hn : 40000 < n
  ·rw [if_pos hn] at hrf
   subst hrf
   have hn2 : (n : Int) > 40000 := by omega
   go_enter Tryz.func114, Tryz.ntmps114
   go_wp2
   go_ret
   exact ⟨rfl, Upd.refl _ _⟩
  ·rw [if_neg hn] at hrf
   have hn2 : ¬ (n : Int) > 40000 := by omega
   have HSI : RowKit.Hid (secsI (n : Int) = (secsN n : Int)) := Lib.hid (secsI_nat (by omega))
   have hsb := secsN_bound (n := n) (by omega)
   have hwu : IntKind.i64.wrap (u + (secsN n : Int)) = u + (secsN n : Int) := by rw [IntKind.wrap_i64]; omega
   have HRF := Lib.hid hrf
   clear hrf
   have hA : Upd (fun _ => False) w w.drew := (Upd.refl _ w).drew
   go_enter Tryz.func114, Tryz.ntmps114
   go_upto_region 7 with fail
   clear c7
   refine wp_region_G 17 (fun W => Upd (fun _ => False) w W) [false, false, false, false, false, false, false, false, false, false, false, false, false, false, false, false, false, false] rfl (by kernel_rfl) ?_
   refine wpG_takeT (i := 0) (v := .func (.func fu) #[] lb) rfl (fun L hc h => (hc.waits (n := 17) (i := 16) (by kernel_rfl) (hc.waits (n := 16) (i := 12) (by kernel_rfl) (hc.waits (n := 12) (i := 4) (by kernel_rfl) (hc.waits (n := 4) (i := 1) (by kernel_rfl) (hc.waits (n := 1) (i := 0) (by kernel_rfl) h)))))) (by kernel_rfl) (fun _ _ _ h => h) hA (.inl ⟨rfl, fun w5 q1 => ?_⟩) ?_
   ·go_simp
   simp only [Act.put, List.setIfInBounds_toArray, List.set]
   refine wpG_takeT (i := 2) (v := .slice sa n sc) rfl (fun L hc h => (hc.waits (n := 17) (i := 16) (by kernel_rfl) (hc.waits (n := 16) (i := 12) (by kernel_rfl) (hc.waits (n := 12) (i := 4) (by kernel_rfl) (hc.waits (n := 4) (i := 3) (by kernel_rfl) (hc.waits (n := 3) (i := 2) (by kernel_rfl) h)))))) (by kernel_rfl) (fun _ _ _ h => h) hA (.inl ⟨rfl, fun w5 q1 => ?_⟩) ?_
   ·go_simp
   simp only [Act.put, List.setIfInBounds_toArray, List.set]
   refine wpG_takeT (i := 3) (v := .int .i64 n) rfl (fun L hc h => (hc.waits (n := 17) (i := 16) (by kernel_rfl) (hc.waits (n := 16) (i := 12) (by kernel_rfl) (hc.waits (n := 12) (i := 4) (by kernel_rfl) (hc.waits (n := 4) (i := 3) (by kernel_rfl) h))))) (by kernel_rfl) (fun _ _ _ h => h) hA (.inl ⟨rfl, fun w5 q1 => ?_⟩) ?_
   ·go_simp
   simp only [Act.put, List.setIfInBounds_toArray, List.set]
   refine wpG_takeT (i := 6) (v := .pointer (some ⟨q, 0, none⟩)) rfl (fun L hc h => (hc.waits (n := 17) (i := 16) (by kernel_rfl) (hc.waits (n := 16) (i := 12) (by kernel_rfl) (hc.waits (n := 12) (i := 11) (by kernel_rfl) (hc.waits (n := 11) (i := 10) (by kernel_rfl) (hc.waits (n := 10) (i := 9) (by kernel_rfl) (hc.waits (n := 9) (i := 8) (by kernel_rfl) (hc.waits (n := 8) (i := 7) (by kernel_rfl) (hc.waits (n := 7) (i := 6) (by kernel_rfl) h))))))))) (by kernel_rfl) (fun _ _ _ h => h) hA (.inl ⟨rfl, fun w5 q1 => ?_⟩) ?_
   ·go_simp
   simp only [Act.put, List.setIfInBounds_toArray, List.set]
   refine wpG_takeT (i := 7) (v := .pointer (some ⟨q, 0, none⟩)) rfl (fun L hc h => (hc.waits (n := 17) (i := 16) (by kernel_rfl) (hc.waits (n := 16) (i := 12) (by kernel_rfl) (hc.waits (n := 12) (i := 11) (by kernel_rfl) (hc.waits (n := 11) (i := 10) (by kernel_rfl) (hc.waits (n := 10) (i := 9) (by kernel_rfl) (hc.waits (n := 9) (i := 8) (by kernel_rfl) (hc.waits (n := 8) (i := 7) (by kernel_rfl) h)))))))) (by kernel_rfl) (fun _ _ _ h => h) hA (.inl ⟨rfl, fun w5 q1 => ?_⟩) ?_
   ·go_simp
   simp only [Act.put, List.setIfInBounds_toArray, List.set]
   refine wpG_takeT (i := 8) (v := .pointer (some ⟨q, 0, none⟩)) rfl (fun L hc h => (hc.waits (n := 17) (i := 16) (by kernel_rfl) (hc.waits (n := 16) (i := 12) (by kernel_rfl) (hc.waits (n := 12) (i := 11) (by kernel_rfl) (hc.waits (n := 11) (i := 10) (by kernel_rfl) (hc.waits (n := 10) (i := 9) (by kernel_rfl) (hc.waits (n := 9) (i := 8) (by kernel_rfl) h))))))) (by kernel_rfl) (fun _ _ _ h => h) hA (.inl ⟨rfl, fun w5 q1 => ?_⟩) ?_
   ·go_simp
   simp only [Act.put, List.setIfInBounds_toArray, List.set]
   refine wpG_takeT (i := 9) (v := .pointer (some ⟨q, 1, none⟩)) rfl (fun L hc h => (hc.waits (n := 17) (i := 16) (by kernel_rfl) (hc.waits (n := 16) (i := 12) (by kernel_rfl) (hc.waits (n := 12) (i := 11) (by kernel_rfl) (hc.waits (n := 11) (i := 10) (by kernel_rfl) (hc.waits (n := 10) (i := 9) (by kernel_rfl) h)))))) (by kernel_rfl) (fun _ _ _ h => h) hA (.inl ⟨rfl, fun w5 q1 => ?_⟩) ?_
   ·go_simp
   simp only [Act.put, List.setIfInBounds_toArray, List.set]
   refine wpG_takeT (i := 10) (v := .int .i64 X.h.area) rfl (fun L hc h => (hc.waits (n := 17) (i := 16) (by kernel_rfl) (hc.waits (n := 16) (i := 12) (by kernel_rfl) (hc.waits (n := 12) (i := 11) (by kernel_rfl) (hc.waits (n := 11) (i := 10) (by kernel_rfl) h))))) (by kernel_rfl) (fun _ _ _ h => h) hA (.inl ⟨rfl, fun w5 q1 => ?_⟩) ?_
   ·have cc : w5.cell? ⟨q, 1, none⟩ = some (.int .i64 X.h.area) := by simp [World.cell?, (q1.block _ (lt_of_heap HM.out) (fun e => e)).trans HM.out, Lg.cells]
    go_simp
   simp only [Act.put, List.setIfInBounds_toArray, List.set]
   refine wpG_doIf (i := 1) rfl (by kernel_rfl) rfl (fun K hK => ?_)
   have HKK := Lib.hid hK
   clear hK
   go_step
   refine (HC.out _ hA).mono ?_
   rintro e W3 ⟨rfl, hu3⟩
   have hA3 : Upd (fun _ => False) w W3 := hA.trans hu3
   clear hA hu3
   have hA := hA3
   clear hA3
   simp only []
   refine HKK.out _ _ hA ?_
   clear HKK
   simp only [List.setIfInBounds_toArray, List.set]
   refine wpG_doIf (i := 4) rfl (by kernel_rfl) rfl (fun K hK => ?_)
   have HKK := Lib.hid hK
   clear hK
   go_step
   refine (sectors_any _ _).mono ?_
   rintro e W4 ⟨rfl, rfl⟩
   rw [HSI.out]
   simp only []
   refine HKK.out _ _ hA ?_
   clear HKK
   simp only [List.setIfInBounds_toArray, List.set]
   refine wpG_takeT (i := 5) (v := .int .i64 (u + secsN n)) rfl (fun L hc h => (hc.waits (n := 17) (i := 16) (by kernel_rfl) (hc.waits (n := 16) (i := 12) (by kernel_rfl) (hc.waits (n := 12) (i := 11) (by kernel_rfl) (hc.waits (n := 11) (i := 5) (by kernel_rfl) h))))) (by kernel_rfl) (fun _ _ _ h => h) hA (.inl ⟨rfl, fun w5 q1 => ?_⟩) ?_
   ·go_simp
   simp only [Act.put, List.setIfInBounds_toArray, List.set]
   by_cases hc1 : X.h.area < u + (secsN n : Int)
   ·
    have hc2 : u + (secsN n : Int) > X.h.area := hc1
    refine wpG_takeT (i := 11) (v := .bool true) rfl (fun L hc h => (hc.waits (n := 17) (i := 16) (by kernel_rfl) (hc.waits (n := 16) (i := 12) (by kernel_rfl) (hc.waits (n := 12) (i := 11) (by kernel_rfl) h)))) (by kernel_rfl) (fun _ _ _ h => h) hA (.inl ⟨rfl, fun w5 q1 => ?_⟩) ?_
    ·go_simp
    simp only [Act.put, List.setIfInBounds_toArray, List.set]
    refine wpG_takeT (i := 12) (v := .bool true) rfl (fun L hc h => (hc.waits (n := 17) (i := 16) (by kernel_rfl) (hc.waits (n := 16) (i := 12) (by kernel_rfl) h))) (by kernel_rfl) (fun _ _ _ h => h) hA (.inl ⟨rfl, fun w5 q1 => ?_⟩) ?_
    ·go_simp
    simp only [Act.put, List.setIfInBounds_toArray, List.set]
    refine wpG_takeT (i := 13) (v := undef) rfl (fun L hc h => (hc.waits (n := 17) (i := 14) (by kernel_rfl) (hc.waits (n := 14) (i := 13) (by kernel_rfl) h))) (by kernel_rfl) (fun _ _ _ h => h) hA (.inr ⟨rfl, rfl⟩) ?_
    simp only [Act.put, List.setIfInBounds_toArray, List.set]
    refine wpG_takeT (i := 14) (v := undef) rfl (fun L hc h => (hc.waits (n := 17) (i := 14) (by kernel_rfl) h)) (by kernel_rfl) (fun _ _ _ h => h) hA (.inr ⟨rfl, rfl⟩) ?_
    simp only [Act.put, List.setIfInBounds_toArray, List.set]
    refine wpG_takeT (i := 15) (v := undef) rfl (fun L hc h => (hc.waits (n := 17) (i := 16) (by kernel_rfl) (hc.waits (n := 16) (i := 15) (by kernel_rfl) h))) (by kernel_rfl) (fun _ _ _ h => h) hA (.inr ⟨rfl, rfl⟩) ?_
    simp only [Act.put, List.setIfInBounds_toArray, List.set]
    refine wpG_takeT (i := 16) (v := .bool true) rfl (fun L hc h => (hc.waits (n := 17) (i := 16) (by kernel_rfl) h)) (by kernel_rfl) (fun _ _ _ h => h) hA (.inl ⟨rfl, fun w5 q1 => ?_⟩) ?_
    ·go_simp
    simp only [Act.put, List.setIfInBounds_toArray, List.set]
    refine wpG_tail_lit (k := 17) rfl rfl (by kernel_rfl) ?_
    simp only [List.drop]
    have HA := Lib.hid hA
    clear hA
    go_wp2
    go_ret
    have hrf := HRF.out
    rw [if_pos (by omega)] at hrf
    exact ⟨ret_int hrf.symm, HA.out⟩
   ·
    have hc2 : ¬ u + (secsN n : Int) > X.h.area := hc1
    refine wpG_takeT (i := 11) (v := .bool false) rfl (fun L hc h => (hc.waits (n := 17) (i := 16) (by kernel_rfl) (hc.waits (n := 16) (i := 12) (by kernel_rfl) (hc.waits (n := 12) (i := 11) (by kernel_rfl) h)))) (by kernel_rfl) (fun _ _ _ h => h) hA (.inl ⟨rfl, fun w5 q1 => ?_⟩) ?_
    ·go_simp
    simp only [Act.put, List.setIfInBounds_toArray, List.set]
    refine wpG_takeT (i := 12) (v := .bool false) rfl (fun L hc h => (hc.waits (n := 17) (i := 16) (by kernel_rfl) (hc.waits (n := 16) (i := 12) (by kernel_rfl) h))) (by kernel_rfl) (fun _ _ _ h => h) hA (.inl ⟨rfl, fun w5 q1 => ?_⟩) ?_
    ·go_simp
    simp only [Act.put, List.setIfInBounds_toArray, List.set]
    refine wpG_takeT (i := 13) (v := .pointer (some ⟨q, 0, none⟩)) rfl (fun L hc h => (hc.waits (n := 17) (i := 14) (by kernel_rfl) (hc.waits (n := 14) (i := 13) (by kernel_rfl) h))) (by kernel_rfl) (fun _ _ _ h => h) hA (.inl ⟨rfl, fun w5 q1 => ?_⟩) ?_
    ·go_simp
    simp only [Act.put, List.setIfInBounds_toArray, List.set]
    refine wpG_doIf (i := 14) rfl (by kernel_rfl) rfl (fun K hK => ?_)
    have HKK := Lib.hid hK
    clear hK
    go_step
    refine (next_any _ (HLG.out.kept hA (fun _ _ e => e)) hok).mono ?_
    rintro e W5 ⟨rfl, hu5⟩
    have hA3 : Upd (fun _ => False) w W5 := hA.trans hu5
    clear hA hu5
    have hA := hA3
    clear hA3
    simp only []
    refine HKK.out _ _ hA ?_
    clear HKK
    simp only [List.setIfInBounds_toArray, List.set]
    by_cases hc3 : 1073741824 < X.h.number + (X.parts.length : Int)
    ·
     have hc4 : X.h.number + (X.parts.length : Int) > 1073741824 := hc3
     refine wpG_takeT (i := 15) (v := .bool true) rfl (fun L hc h => (hc.waits (n := 17) (i := 16) (by kernel_rfl) (hc.waits (n := 16) (i := 15) (by kernel_rfl) h))) (by kernel_rfl) (fun _ _ _ h => h) hA (.inl ⟨rfl, fun w5 q1 => ?_⟩) ?_
     ·go_simp
     simp only [Act.put, List.setIfInBounds_toArray, List.set]
     refine wpG_takeT (i := 16) (v := .bool true) rfl (fun L hc h => (hc.waits (n := 17) (i := 16) (by kernel_rfl) h)) (by kernel_rfl) (fun _ _ _ h => h) hA (.inl ⟨rfl, fun w5 q1 => ?_⟩) ?_
     ·go_simp
     simp only [Act.put, List.setIfInBounds_toArray, List.set]
     refine wpG_tail_lit (k := 17) rfl rfl (by kernel_rfl) ?_
     simp only [List.drop]
     have HA := Lib.hid hA
     clear hA
     go_wp2
     go_ret
     have hrf := HRF.out
     rw [if_pos (by omega)] at hrf
     exact ⟨ret_int hrf.symm, HA.out⟩
    ·
     have hc4 : ¬ X.h.number + (X.parts.length : Int) > 1073741824 := hc3
     refine wpG_takeT (i := 15) (v := .bool false) rfl (fun L hc h => (hc.waits (n := 17) (i := 16) (by kernel_rfl) (hc.waits (n := 16) (i := 15) (by kernel_rfl) h))) (by kernel_rfl) (fun _ _ _ h => h) hA (.inl ⟨rfl, fun w5 q1 => ?_⟩) ?_
     ·go_simp
     simp only [Act.put, List.setIfInBounds_toArray, List.set]
     refine wpG_takeT (i := 16) (v := .bool false) rfl (fun L hc h => (hc.waits (n := 17) (i := 16) (by kernel_rfl) h)) (by kernel_rfl) (fun _ _ _ h => h) hA (.inl ⟨rfl, fun w5 q1 => ?_⟩) ?_
     ·go_simp
     simp only [Act.put, List.setIfInBounds_toArray, List.set]
     refine wpG_tail_lit (k := 17) rfl rfl (by kernel_rfl) ?_
     simp only [List.drop]
     have HA := Lib.hid hA
     clear hA
     go_wp2
     go_ret
     have hrf := HRF.out
     rw [if_neg (by omega)] at hrf
     exact ⟨ret_int hrf.symm, HA.out⟩
theorem BytesIn.keptF {w w' : World} {G : Nat → Prop} {v : Value} {bs : List Int} (h : BytesIn w v bs) (hu : Upd G w w') (hg : bs ≠ [] → ∀ a n c, v = .slice (some a) n c → ¬ G a.block) : BytesIn w' v bs := by
 rcases h with h | ⟨a, c, rfl, h2, h3, h4⟩
 ·exact .inl h
 ·refine .inr ⟨a, c, rfl, h2, h3, fun i u hi => cell_keptF hu ?_ (h4 i u hi)⟩
  rw [show (a.add i).block = a.block by unfold Addr.add; split <;> rfl]
  exact hg (by rintro rfl; simp [bcells] at hi) a _ _ rfl
def Lg.brk (X : Lg) (x : Bool) : Lg := { X with broken := x }
theorem Log.setBroken {w : World} {q p : Nat} {X : Lg} {G : Nat → Prop} (h : Log w q p X G) (x : Bool) : Log (w.setCell ⟨q, 7, none⟩ (.bool x)) q p (X.brk x) G := by
 obtain ⟨PV, vs, h1, h2⟩ := h
 have hu := upd_own w q 7 (.bool x)
 refine ⟨PV, vs, ⟨?_, ?_, ?_, h1.nq, h1.nv⟩, h2⟩
 ·have := blk_set (i := 7) (v := .bool x) h1.main
  simpa [Lg.cells, Lg.brk] using this
 ·exact ownsRow_any h1.row hu (fun k hk e => h1.nq k hk e)
 ·intro i v b hv hb
  exact (h1.parts i v b hv hb).keptF hu (fun k hk e => (h1.nv v k (List.mem_of_getElem? hv) hk).1 e)
theorem Log.main' {w : World} {q p : Nat} {X : Lg} {G : Nat → Prop} (h : Log w q p X G) : ∃ PV, w.heap[q]? = some (.cells (X.cells p PV) 193 (0, 0)) := by
 obtain ⟨PV, vs, h1, _⟩ := h
 exact ⟨PV, h1.main⟩
theorem used_run {q p bx : Nat} {X : Lg} {G : Nat → Prop} (w : World) (h : Log w q p X G) (hb : w.heap[bx]? = some (.cells #[.pointer (some ⟨q, 0, none⟩)] 38 (0, 0))) :
  Calls Tryz.prog 118 #[.pointer (some ⟨bx, 0, none⟩)] w fun e w' => e = .returned (.int .i64 X.used) ∧ Upd (fun _ => False) w w' := by
 obtain ⟨PV, hm⟩ := h.main'
 have c6 : w.cell? ⟨q, 6, none⟩ = some (.int .i64 X.used) := by simp [World.cell?, hm, Lg.cells]
 have c0 := cells1_of hb
 clear hm hb
 go_enter Tryz.func118, Tryz.ntmps118
 go_wp2
 go_ret
 exact ⟨rfl, Upd.refl _ _⟩
def Wal (w : World) (q p : Nat) (X : Lg) (D : Dk) (G F : Nat → Prop) : Prop := Log w q p X G ∧ Dsk w p D F ∧ ∀ k, G k → ¬ F k
def Lg.after (X : Lg) (b : List Int) (E : Int) : Lg := if E = 0 then X.add b else X.brk true
theorem append_any {q p : Nat} {X : Lg} {D : Dk} {G F : Nat → Prop} {K : Nat} {v : Value} {b : List Int} (w : World) (hX : Wal w q p X D G F) (hok : X.Ok) (hlen : X.parts.length < 1000) (hDok : D.Ok K) (hK : K ≤ 1099511620000) (hb : Bytes b) (hbl : b.length ≤ 1099511627700) (hbi : BytesIn w v b)
  (hsv : b ≠ [] → ∀ a n c, v = .slice (some a) n c → ¬ F a.block ∧ a.block ≠ q) :
  Calls Tryz.prog 43 #[.pointer (some ⟨q, 0, none⟩), v] w fun e w' =>
   (X.refuses b.length X.used ≠ 0 ∧ e = .returned (.int .i64 (X.refuses b.length X.used)) ∧ Upd (fun _ => False) w w') ∨
   (X.refuses b.length X.used = 0 ∧ e = .returned (.int .i64 (D.laysE (raw (partSc X.h (X.h.number + X.parts.length) (X.h.place + X.used) false b hb)))) ∧
    ∃ G' F', Wal w' q p (X.after b (D.laysE (raw (partSc X.h (X.h.number + X.parts.length) (X.h.place + X.used) false b hb)))) (D.lays (raw (partSc X.h (X.h.number + X.parts.length) (X.h.place + X.used) false b hb))) G' F' ∧
     (∀ k, G' k → G k ∨ w.heap.size ≤ k) ∧ (∀ k, F' k → F k ∨ w.heap.size ≤ k) ∧ Upd (fun k => G k ∨ F k) w w') := by
 obtain ⟨hLG, hD, hGF⟩ := hX
 obtain ⟨sa, sc, rfl⟩ := hbi.slice'
 have hGlt := hLG.lt; have hFlt := hD.lt; have hqG := hLG.mem
 have HLG := Lib.hid hLG; have HD := Lib.hid hD; have HGF := Lib.hid hGF; have HGL := Lib.hid hGlt; have HFL := Lib.hid hFlt; have HQG := Lib.hid hqG; have HBI := Lib.hid hbi; have HSV := Lib.hid hsv; have HDOK := Lib.hid hDok; have HB := Lib.hid hb
 obtain ⟨r, hr⟩ : ∃ r, r = X.refuses b.length X.used := ⟨_, rfl⟩
 have HR := Lib.hid hr
 rw [← hr]
 clear hLG hD hGF hGlt hFlt hqG hbi hsv hDok hr
 obtain ⟨w1, hw1⟩ : ∃ w1, w1 = w.alloc (.cells #[.pointer (some ⟨q, 0, none⟩)] 38) := ⟨_, rfl⟩
 have hu1 : Upd (fun _ => False) w w1 := by rw [hw1]; exact (Upd.refl _ w).alloc _
 have hb1 : w1.heap[w.heap.size]? = some (.cells #[.pointer (some ⟨q, 0, none⟩)] 38 (0, 0)) := by rw [hw1]; exact alloc_at rfl
 have HU1 := Lib.hid hu1; have HB1 := Lib.hid hb1
 go_enter Tryz.func43, Tryz.ntmps43
 go_wp2_with (go_at_call 114; fail)
 rw [← hw1]
 clear hw1 hu1 hb1
 refine (refuses_any (fu := 118) (lb := #[.pointer (some ⟨w.heap.size, 0, none⟩)]) w1 (HLG.out.kept HU1.out (fun _ _ e => e)) hok hok.used (enters_of Tryz.func118 (by kernel_rfl) rfl) (fun W' hu => used_run W' ((HLG.out.kept HU1.out (fun _ _ e => e)).kept hu (fun _ _ e => e)) ((hu.block _ (lt_of_heap HB1.out) (fun e => e)).trans HB1.out))).mono ?_
 rintro e w2 ⟨rfl, hu2⟩
 rw [← HR.out]
 have HU2 := Lib.hid (HU1.out.trans hu2); have HB2 := Lib.hid ((hu2.block _ (lt_of_heap HB1.out) (fun e => e)).trans HB1.out)
 clear hu2 HU1 HB1
 simp only []
 by_cases hr0 : r ≠ 0
 ·have hrq : (r != 0) = true := by simpa using hr0
  go_wp2
  go_ret
  exact .inl ⟨hr0, rfl, HU2.out⟩
 ·have hr0 : r = 0 := Decidable.not_not.1 hr0
  subst hr0
  have hr1 := HR.out
  have hbr : X.broken = false := by
   cases hx : X.broken with
   |false => rfl
   |true => rw [Lg.refuses, hx, if_pos rfl] at hr1; omega
  rw [Lg.refuses, hbr, if_neg (by simp)] at hr1
  have hb4 : b.length ≤ 40000 := by
   rcases Nat.lt_or_ge 40000 b.length with q1 | q1
   ·rw [if_pos q1] at hr1; omega
   ·exact q1
  rw [if_neg (by omega)] at hr1
  have hroom : ¬ (X.h.area < X.used + secsN b.length ∨ 1073741824 < X.h.number + X.parts.length) := by
   intro hx
   rw [if_pos hx] at hr1
   omega
  have HBR := Lib.hid hbr
  clear hr1 hbr
  have t1 := hok.turn; have t2 := hok.area; have t3 := hok.place; have t4 := hok.number; have t5 := hok.used; have t6 := hok.len
  have hwn : IntKind.i64.wrap (X.h.place + X.used) = X.h.place + X.used := by rw [IntKind.wrap_i64]; omega
  obtain ⟨PV, hm⟩ := HLG.out.main'
  have HM := Lib.hid ((HU2.out.block _ (lt_of_heap hm) (fun e => e)).trans hm)
  clear hm
  have hA : Upd (fun _ => False) w2 w2.drew := (Upd.refl _ w2).drew
  have hi107 : (Tryz.prog.info? 184).map (·.size) = some 4 := by kernel_rfl
  go_upto_region 4 with fail
  refine wp_region_G 21 (fun W => Upd (fun _ => False) w2 W) [false, false, false, false, false, false, false, false, false, false, false, false, false, false, false, false, false, false, false, false, false, false, false] rfl (by kernel_rfl) ?_
  refine wpG_takeT (i := 0) (v := .pointer (some ⟨q, 0, none⟩)) rfl (fun L hc h => (hc.waits (n := 21) (i := 3) (by kernel_rfl) (hc.waits (n := 3) (i := 2) (by kernel_rfl) (hc.waits (n := 2) (i := 1) (by kernel_rfl) (hc.waits (n := 1) (i := 0) (by kernel_rfl) h))))) (by kernel_rfl) (fun _ _ _ h => h) hA (.inl ⟨rfl, fun w5 q1 => ?_⟩) ?_
  ·have cc := cells1_of ((q1.block _ (lt_of_heap HB2.out) (fun e => e)).trans HB2.out)
   go_simp
  simp only [Act.put, List.setIfInBounds_toArray, List.set]
  refine wpG_takeT (i := 4) (v := .pointer (some ⟨q, 0, none⟩)) rfl (fun L hc h => (hc.waits (n := 21) (i := 7) (by kernel_rfl) (hc.waits (n := 7) (i := 6) (by kernel_rfl) (hc.waits (n := 6) (i := 5) (by kernel_rfl) (hc.waits (n := 5) (i := 4) (by kernel_rfl) h))))) (by kernel_rfl) (fun _ _ _ h => h) hA (.inl ⟨rfl, fun w5 q1 => ?_⟩) ?_
  ·have cc := cells1_of ((q1.block _ (lt_of_heap HB2.out) (fun e => e)).trans HB2.out)
   go_simp
  simp only [Act.put, List.setIfInBounds_toArray, List.set]
  refine wpG_takeT (i := 8) (v := .pointer (some ⟨q, 0, none⟩)) rfl (fun L hc h => (hc.waits (n := 21) (i := 9) (by kernel_rfl) (hc.waits (n := 9) (i := 8) (by kernel_rfl) h))) (by kernel_rfl) (fun _ _ _ h => h) hA (.inl ⟨rfl, fun w5 q1 => ?_⟩) ?_
  ·have cc := cells1_of ((q1.block _ (lt_of_heap HB2.out) (fun e => e)).trans HB2.out)
   go_simp
  simp only [Act.put, List.setIfInBounds_toArray, List.set]
  refine wpG_takeT (i := 10) (v := .pointer (some ⟨q, 0, none⟩)) rfl (fun L hc h => (hc.waits (n := 21) (i := 19) (by kernel_rfl) (hc.waits (n := 19) (i := 14) (by kernel_rfl) (hc.waits (n := 14) (i := 13) (by kernel_rfl) (hc.waits (n := 13) (i := 12) (by kernel_rfl) (hc.waits (n := 12) (i := 11) (by kernel_rfl) (hc.waits (n := 11) (i := 10) (by kernel_rfl) h))))))) (by kernel_rfl) (fun _ _ _ h => h) hA (.inl ⟨rfl, fun w5 q1 => ?_⟩) ?_
  ·have cc := cells1_of ((q1.block _ (lt_of_heap HB2.out) (fun e => e)).trans HB2.out)
   go_simp
  simp only [Act.put, List.setIfInBounds_toArray, List.set]
  refine wpG_takeT (i := 15) (v := .pointer (some ⟨q, 0, none⟩)) rfl (fun L hc h => (hc.waits (n := 21) (i := 19) (by kernel_rfl) (hc.waits (n := 19) (i := 18) (by kernel_rfl) (hc.waits (n := 18) (i := 17) (by kernel_rfl) (hc.waits (n := 17) (i := 16) (by kernel_rfl) (hc.waits (n := 16) (i := 15) (by kernel_rfl) h)))))) (by kernel_rfl) (fun _ _ _ h => h) hA (.inl ⟨rfl, fun w5 q1 => ?_⟩) ?_
  ·have cc := cells1_of ((q1.block _ (lt_of_heap HB2.out) (fun e => e)).trans HB2.out)
   go_simp
  simp only [Act.put, List.setIfInBounds_toArray, List.set]
  refine wpG_takeT (i := 1) (v := .pointer (some ⟨q, 0, none⟩)) rfl (fun L hc h => (hc.waits (n := 21) (i := 3) (by kernel_rfl) (hc.waits (n := 3) (i := 2) (by kernel_rfl) (hc.waits (n := 2) (i := 1) (by kernel_rfl) h)))) (by kernel_rfl) (fun _ _ _ h => h) hA (.inl ⟨rfl, fun w5 q1 => ?_⟩) ?_
  ·go_simp
  simp only [Act.put, List.setIfInBounds_toArray, List.set]
  refine wpG_takeT (i := 5) (v := .pointer (some ⟨q, 0, none⟩)) rfl (fun L hc h => (hc.waits (n := 21) (i := 7) (by kernel_rfl) (hc.waits (n := 7) (i := 6) (by kernel_rfl) (hc.waits (n := 6) (i := 5) (by kernel_rfl) h)))) (by kernel_rfl) (fun _ _ _ h => h) hA (.inl ⟨rfl, fun w5 q1 => ?_⟩) ?_
  ·go_simp
  simp only [Act.put, List.setIfInBounds_toArray, List.set]
  refine wpG_takeT (i := 11) (v := .pointer (some ⟨q, 0, none⟩)) rfl (fun L hc h => (hc.waits (n := 21) (i := 19) (by kernel_rfl) (hc.waits (n := 19) (i := 14) (by kernel_rfl) (hc.waits (n := 14) (i := 13) (by kernel_rfl) (hc.waits (n := 13) (i := 12) (by kernel_rfl) (hc.waits (n := 12) (i := 11) (by kernel_rfl) h)))))) (by kernel_rfl) (fun _ _ _ h => h) hA (.inl ⟨rfl, fun w5 q1 => ?_⟩) ?_
  ·go_simp
  simp only [Act.put, List.setIfInBounds_toArray, List.set]
  refine wpG_takeT (i := 16) (v := .pointer (some ⟨q, 0, none⟩)) rfl (fun L hc h => (hc.waits (n := 21) (i := 19) (by kernel_rfl) (hc.waits (n := 19) (i := 18) (by kernel_rfl) (hc.waits (n := 18) (i := 17) (by kernel_rfl) (hc.waits (n := 17) (i := 16) (by kernel_rfl) h))))) (by kernel_rfl) (fun _ _ _ h => h) hA (.inl ⟨rfl, fun w5 q1 => ?_⟩) ?_
  ·go_simp
  simp only [Act.put, List.setIfInBounds_toArray, List.set]
  refine wpG_takeT (i := 2) (v := .pointer (some ⟨q, 0, none⟩)) rfl (fun L hc h => (hc.waits (n := 21) (i := 3) (by kernel_rfl) (hc.waits (n := 3) (i := 2) (by kernel_rfl) h))) (by kernel_rfl) (fun _ _ _ h => h) hA (.inl ⟨rfl, fun w5 q1 => ?_⟩) ?_
  ·go_simp
  simp only [Act.put, List.setIfInBounds_toArray, List.set]
  refine wpG_takeT (i := 6) (v := .pointer (some ⟨q, 4, none⟩)) rfl (fun L hc h => (hc.waits (n := 21) (i := 7) (by kernel_rfl) (hc.waits (n := 7) (i := 6) (by kernel_rfl) h))) (by kernel_rfl) (fun _ _ _ h => h) hA (.inl ⟨rfl, fun w5 q1 => ?_⟩) ?_
  ·go_simp
  simp only [Act.put, List.setIfInBounds_toArray, List.set]
  refine wpG_takeT (i := 12) (v := .pointer (some ⟨q, 0, none⟩)) rfl (fun L hc h => (hc.waits (n := 21) (i := 19) (by kernel_rfl) (hc.waits (n := 19) (i := 14) (by kernel_rfl) (hc.waits (n := 14) (i := 13) (by kernel_rfl) (hc.waits (n := 13) (i := 12) (by kernel_rfl) h))))) (by kernel_rfl) (fun _ _ _ h => h) hA (.inl ⟨rfl, fun w5 q1 => ?_⟩) ?_
  ·go_simp
  simp only [Act.put, List.setIfInBounds_toArray, List.set]
  refine wpG_takeT (i := 13) (v := .pointer (some ⟨q, 2, none⟩)) rfl (fun L hc h => (hc.waits (n := 21) (i := 19) (by kernel_rfl) (hc.waits (n := 19) (i := 14) (by kernel_rfl) (hc.waits (n := 14) (i := 13) (by kernel_rfl) h)))) (by kernel_rfl) (fun _ _ _ h => h) hA (.inl ⟨rfl, fun w5 q1 => ?_⟩) ?_
  ·go_simp
  simp only [Act.put, List.setIfInBounds_toArray, List.set]
  refine wpG_takeT (i := 17) (v := .pointer (some ⟨q, 6, none⟩)) rfl (fun L hc h => (hc.waits (n := 21) (i := 19) (by kernel_rfl) (hc.waits (n := 19) (i := 18) (by kernel_rfl) (hc.waits (n := 18) (i := 17) (by kernel_rfl) h)))) (by kernel_rfl) (fun _ _ _ h => h) hA (.inl ⟨rfl, fun w5 q1 => ?_⟩) ?_
  ·go_simp
  simp only [Act.put, List.setIfInBounds_toArray, List.set]
  refine wpG_takeT (i := 3) (v := X.h.val) rfl (fun L hc h => (hc.waits (n := 21) (i := 3) (by kernel_rfl) h)) (by kernel_rfl) (fun _ _ _ h => h) hA (.inl ⟨rfl, fun w5 q1 => ?_⟩) ?_
  ·refine run_load_mid' rfl rfl [.int .i64 X.h.turn, .int .i64 X.h.area, .int .i64 X.h.place, .int .i64 X.h.number] (fun j v hj => ?_) Tryz.underlying184 rfl hi107
   have hm := (q1.block _ (lt_of_heap HM.out) (fun e => e)).trans HM.out
   match j, hj with
   | 0, hj => simp at hj; subst hj; simp [World.cell?, hm, Lg.cells]
   | 1, hj => simp at hj; subst hj; simp [World.cell?, hm, Lg.cells]
   | 2, hj => simp at hj; subst hj; simp [World.cell?, hm, Lg.cells]
   | 3, hj => simp at hj; subst hj; simp [World.cell?, hm, Lg.cells]
   |j + 4, hj => simp at hj
  simp only [Act.put, List.setIfInBounds_toArray, List.set]
  refine wpG_takeT (i := 7) (v := .pointer (some ⟨p, 0, none⟩)) rfl (fun L hc h => (hc.waits (n := 21) (i := 7) (by kernel_rfl) h)) (by kernel_rfl) (fun _ _ _ h => h) hA (.inl ⟨rfl, fun w5 q1 => ?_⟩) ?_
  ·have cc : w5.cell? ⟨q, 4, none⟩ = some (.pointer (some ⟨p, 0, none⟩)) := by simp [World.cell?, (q1.block _ (lt_of_heap HM.out) (fun e => e)).trans HM.out, Lg.cells]
   go_simp
  simp only [Act.put, List.setIfInBounds_toArray, List.set]
  refine wpG_takeT (i := 14) (v := .int .i64 X.h.place) rfl (fun L hc h => (hc.waits (n := 21) (i := 19) (by kernel_rfl) (hc.waits (n := 19) (i := 14) (by kernel_rfl) h))) (by kernel_rfl) (fun _ _ _ h => h) hA (.inl ⟨rfl, fun w5 q1 => ?_⟩) ?_
  ·have cc : w5.cell? ⟨q, 2, none⟩ = some (.int .i64 X.h.place) := by simp [World.cell?, (q1.block _ (lt_of_heap HM.out) (fun e => e)).trans HM.out, Lg.cells]
   go_simp
  simp only [Act.put, List.setIfInBounds_toArray, List.set]
  refine wpG_takeT (i := 18) (v := .int .i64 X.used) rfl (fun L hc h => (hc.waits (n := 21) (i := 19) (by kernel_rfl) (hc.waits (n := 19) (i := 18) (by kernel_rfl) h))) (by kernel_rfl) (fun _ _ _ h => h) hA (.inl ⟨rfl, fun w5 q1 => ?_⟩) ?_
  ·have cc : w5.cell? ⟨q, 6, none⟩ = some (.int .i64 X.used) := by simp [World.cell?, (q1.block _ (lt_of_heap HM.out) (fun e => e)).trans HM.out, Lg.cells]
   go_simp
  simp only [Act.put, List.setIfInBounds_toArray, List.set]
  refine wpG_takeT (i := 19) (v := .int .i64 (X.h.place + X.used)) rfl (fun L hc h => (hc.waits (n := 21) (i := 19) (by kernel_rfl) h)) (by kernel_rfl) (fun _ _ _ h => h) hA (.inl ⟨rfl, fun w5 q1 => ?_⟩) ?_
  ·go_simp
  simp only [Act.put, List.setIfInBounds_toArray, List.set]
  refine wpG_takeT (i := 20) (v := .slice sa b.length sc) rfl (fun L hc h => (hc.waits (n := 21) (i := 20) (by kernel_rfl) h)) (by kernel_rfl) (fun _ _ _ h => h) hA (.inl ⟨rfl, fun w5 q1 => ?_⟩) ?_
  ·go_simp
  simp only [Act.put, List.setIfInBounds_toArray, List.set]
  refine wpG_doIf (i := 9) rfl (by kernel_rfl) rfl (fun K hK => ?_)
  have HKK := Lib.hid hK
  clear hK
  go_step
  refine (next_any _ ((HLG.out.kept HU2.out (fun _ _ e => e)).kept hA (fun _ _ e => e)) hok).mono ?_
  rintro e W5 ⟨rfl, hu5⟩
  have hA3 : Upd (fun _ => False) w2 W5 := hA.trans hu5
  clear hA hu5
  have hA := hA3
  clear hA3
  simp only []
  refine HKK.out _ _ hA ?_
  clear HKK
  simp only [List.setIfInBounds_toArray, List.set]
  refine wpG_tail_lit (k := 21) rfl rfl (by kernel_rfl) ?_
  simp only [List.drop]
  have HU5 := Lib.hid (HU2.out.trans hA); have HB5 := Lib.hid ((hA.block _ (lt_of_heap HB2.out) (fun e => e)).trans HB2.out)
  clear hA HU2 HB2 HM
  go_wp2_with (go_at_call 110; fail)
  refine (part_any W5 (HD.out.kept HU5.out (fun _ _ e => e)) HDOK.out hK HB.out hb4 (by omega) (by omega) (by omega) (by omega) (HBI.out.kept HU5.out) (fun hne a n c e => (HSV.out hne a n c e).1)).mono ?_
  rintro e W6 ⟨rfl, hl⟩
  obtain ⟨sl, hsl⟩ : ∃ sl, sl = raw (partSc X.h (X.h.number + X.parts.length) (X.h.place + X.used) false b hb) := ⟨_, rfl⟩
  obtain ⟨E, hE⟩ : ∃ E, E = D.laysE sl := ⟨_, rfl⟩
  rw [← hsl] at hl ⊢
  rw [← hE]
  obtain ⟨F', d1, d2, d3⟩ := hl
  have hsz5 := HU5.out.size
  have hLG6 : Log W6 q p X G := (HLG.out.kept HU5.out (fun _ _ e => e)).kept d3 (fun k hk => HGF.out k hk)
  have hb6 := (d3.block _ (lt_of_heap HB5.out) (fun e => by have := HFL.out _ e; omega)).trans HB5.out
  have hqF : ¬ F' q := fun e => by
   rcases d2 q e with e2 | e2
   ·exact HGF.out q HQG.out e2
   ·have := HGL.out q HQG.out; omega
  have HLG6 := Lib.hid hLG6; have HB6 := Lib.hid hb6; have HQF := Lib.hid hqF; have HD6 := Lib.hid d1; have HD2 := Lib.hid d2; have HU6 : RowKit.Hid (Upd F w W6) := Lib.hid ((HU5.out.mono (fun _ _ e => e.elim)).trans d3); have HSL := Lib.hid hsl; have HE := Lib.hid hE
  obtain ⟨PV6, hm6⟩ := hLG6.main'
  have c7 : W6.cell? ⟨q, 7, none⟩ = some (.bool X.broken) := by simp [World.cell?, hm6, Lg.cells]
  have f7 : W6.frozen? ⟨q, 7, none⟩ = false := frozen_of_heap hm6
  have c36 := cells1_of hb6
  clear hLG6 hb6 hqF d1 d2 d3 hsl hE hm6 HU5 HB5
  simp only []
  go_upto_region 6 with fail
  obtain ⟨W7, hW7⟩ : ∃ W7, W7 = W6.setCell ⟨q, 7, none⟩ (.bool (E != 0)) := ⟨_, rfl⟩
  rw [← hW7]
  have hL7 : Log W7 q p (X.brk (E != 0)) G := by rw [hW7]; exact HLG6.out.setBroken _
  have hu67 : Upd (fun k => k = q) W6 W7 := by rw [hW7]; exact upd_own _ _ _ _
  have hD7 : Dsk W7 p (D.lays sl) F' := HD6.out.kept hu67 (fun k hk e => HQF.out (e ▸ hk))
  have hq0 : w.heap.size ≠ q := fun e => by have := HGL.out q HQG.out; omega
  have hb7 := (hu67.block _ (lt_of_heap HB6.out) hq0).trans HB6.out
  have hu7 : Upd (fun k => G k ∨ F k) w W7 := (HU6.out.mono (fun _ _ e => .inr e)).trans (hu67.mono (fun k _ e => .inl (e ▸ HQG.out)))
  have hbi7 : BytesIn W7 (.slice sa b.length sc) b := (HBI.out.keptF HU6.out (fun hne a n c e => (HSV.out hne a n c e).1)).keptF hu67 (fun hne a n c e => (HSV.out hne a n c e).2)
  obtain ⟨PV7, hm7⟩ := hL7.main'
  have c7' : W7.cell? ⟨q, 7, none⟩ = some (.bool (E != 0)) := by simp [World.cell?, hm7, Lg.cells, Lg.brk]
  have c41 := cells1_of hb7
  have hGF7 : ∀ k, G k → ¬ F' k := fun k hk e => by
   rcases HD2.out k e with e2 | e2
   ·exact HGF.out k hk e2
   ·have := HGL.out k hk; omega
  have hd2 : ∀ k, F' k → F k ∨ w.heap.size ≤ k := fun k hk => (HD2.out k hk).imp id (fun e => by omega)
  have HL7 := Lib.hid hL7; have HD7 := Lib.hid hD7; have HB7 := Lib.hid hb7; have HU7 := Lib.hid hu7; have HBI7 := Lib.hid hbi7; have HGF7 := Lib.hid hGF7; have HD2' := Lib.hid hd2
  clear hL7 hu67 hD7 hb7 hu7 hbi7 hm7 hGF7 hd2 hW7 c7 f7 c36 HLG6 HB6 HQF HD6 HD2 HU6
  by_cases hE0 : E ≠ 0
  ·
   have hEq : (E != 0) = true := by simpa using hE0
   rw [hEq] at c7' HL7
   go_wp2
   go_ret
   have he := HE.out
   have hsl2 := HSL.out
   subst hsl2
   refine ⟨by rw [← he]; rfl, G, F', ⟨?_, HD7.out, HGF7.out⟩, fun k hk => .inl hk, HD2'.out, HU7.out⟩
   rw [← he, Lg.after, if_neg hE0]
   exact HL7.out
  ·
   have hE0 : E = 0 := Decidable.not_not.1 hE0
   subst hE0
   have hz : ((0 : Int) != 0) = false := rfl
   rw [hz] at c7' HL7
   have hbrk : X.brk false = X := by
    have := HBR.out
    cases X
    simp only [Lg.brk] at *
    rw [this]
   rw [hbrk] at HL7
   clear hbrk
   go_upto_region 7 with fail
   clear c7' c41
   have hA : Upd (fun _ => False) W7 W7.drew := (Upd.refl _ W7).drew
   refine wp_region_G 3 (fun W => Upd (fun _ => False) W7 W) [false, false, false, false] rfl (by kernel_rfl) ?_
   refine wpG_takeT (i := 0) (v := .pointer (some ⟨q, 0, none⟩)) rfl (fun L hc h => (hc.waits (n := 3) (i := 0) (by kernel_rfl) h)) (by kernel_rfl) (fun _ _ _ h => h) hA (.inl ⟨rfl, fun w5 q1 => ?_⟩) ?_
   ·have cc := cells1_of ((q1.block _ (lt_of_heap HB7.out) (fun e => e)).trans HB7.out)
    go_simp
   simp only [Act.put, List.setIfInBounds_toArray, List.set]
   refine wpG_takeT (i := 1) (v := .slice sa b.length sc) rfl (fun L hc h => (hc.waits (n := 3) (i := 2) (by kernel_rfl) (hc.waits (n := 2) (i := 1) (by kernel_rfl) h))) (by kernel_rfl) (fun _ _ _ h => h) hA (.inl ⟨rfl, fun w5 q1 => ?_⟩) ?_
   ·go_simp
   simp only [Act.put, List.setIfInBounds_toArray, List.set]
   refine wpG_doIf (i := 2) rfl (by kernel_rfl) rfl (fun K hK => ?_)
   have HKK := Lib.hid hK
   clear hK
   go_step
   refine (clone_any _ (by omega) (HBI7.out.kept hA)).mono ?_
   rintro e W8 ⟨u8, rfl, ho8, _, hu8⟩
   have HO8 := Lib.hid (ho8.mono hA.size)
   have hA3 : Upd (fun _ => False) W7 W8 := hA.trans hu8
   clear hA hu8 ho8
   have hA := hA3
   clear hA3
   simp only []
   refine HKK.out _ _ hA ?_
   clear HKK
   simp only [List.setIfInBounds_toArray, List.set]
   refine wpG_tail_lit (k := 3) rfl rfl (by kernel_rfl) ?_
   simp only [List.drop]
   have HU8 := Lib.hid hA
   clear hA
   go_wp2_with (go_at_call 117; fail)
   have hW7s := HU7.out.size
   refine (adds_any W8 (HL7.out.kept HU8.out (fun _ _ e => e)) hok hlen HO8.out (fun k hk e => by have h1 := (World.ownsRow.lt HO8.out k hk).1; have h2 := HGL.out k e; omega) hb4).mono ?_
   rintro e W9 ⟨rfl, ⟨G9, g1, g2⟩, hu9⟩
   have hown9 : ∀ k, u8.ownBlock = some k → w.heap.size ≤ k := fun k hk => by have h1 := (World.ownsRow.lt HO8.out k hk).1; omega
   have hG9 : ∀ k, G9 k → G k ∨ w.heap.size ≤ k := fun k hk => by
    rcases g2 k hk with e1 | e1 | e1
    ·exact .inl e1
    ·exact .inr (hown9 k e1)
    ·exact .inr (by have := HU8.out.size; omega)
   have hFs : ∀ k, F' k → k < W7.heap.size := HD7.out.lt
   have hdis : ∀ k, G9 k → ¬ F' k := fun k hk e => by
    rcases g2 k hk with e1 | e1 | e1
    ·exact HGF7.out k e1 e
    ·have h1 := (World.ownsRow.lt HO8.out k e1).1; have := hFs k e; omega
    ·have := hFs k e; have := HU8.out.size; omega
   have hD9 : Dsk W9 p (D.lays sl) F' := (HD7.out.kept HU8.out (fun _ _ e => e)).kept hu9 (fun k hk e => HGF7.out k e hk)
   have HD9 := Lib.hid hD9; have HG9 := Lib.hid hG9; have HDIS := Lib.hid hdis; have HL9 := Lib.hid g1
   have HU9 : RowKit.Hid (Upd (fun k => G k ∨ F k) w W9) := Lib.hid ((HU7.out.trans (HU8.out.mono (fun _ _ e => e.elim))).trans (hu9.mono (fun k _ e => .inl e)))
   clear g1 g2 hu9 hown9 hG9 hFs hdis hD9 hW7s
   simp only []
   go_wp2
   go_ret
   have he := HE.out
   have hsl2 := HSL.out
   subst hsl2
   refine ⟨by rw [← he]; rfl, G9, F', ⟨?_, HD9.out, HDIS.out⟩, HG9.out, HD2'.out, HU9.out⟩
   rw [← he, Lg.after, if_pos rfl]
   exact HL9.out
end
end Go.Proofs.YtbimkhdiplnbfaaGreat
