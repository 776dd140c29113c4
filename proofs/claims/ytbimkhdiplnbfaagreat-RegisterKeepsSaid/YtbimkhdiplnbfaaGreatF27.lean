/- Walks: Open. -/
import Derived.Test.YtbimkhdiplnbfaaGreatF19
import Derived.Test.YtbimkhdiplnbfaaGreatF24
import Derived.Sort.LoopGhostIn
import Derived.Sort.CutIn
set_option linter.unusedVariables false
set_option linter.unusedSimpArgs false

section
namespace Go.Proofs.YtbimkhdiplnbfaaGreat
set_option maxRecDepth 100000
open Go.RowKit Go.Shelf

def openL (hd : Hd) (ps : List (List Int)) (D : Dk) : Option Lg × Int × Dk :=
 if D.laysE [hd.laid] = 0 then (some ⟨hd, ps, usedOf ps, false⟩, 0, D.lays [hd.laid]) else (none, D.laysE [hd.laid], D.lays [hd.laid])
def openP (hd : Hd) (R : List (List Int) × Int × Dk) : Option Lg × Int × Dk :=
 if R.2.1 = 0 then (if R.1 = [] ∨ hd.turn = 1073741824 then (none, 140, R.2.2) else openL { hd with turn := hd.turn + 1 } R.1 R.2.2) else (none, R.2.1, R.2.2)
noncomputable def openH (c : Hd × Bool) (D : Dk) : Option Lg × Int × Dk :=
 if c.2 = false ∨ (D.arr.length : Int) < 2 + 2 * c.1.area then (none, 140, D) else openP c.1 (foundD c.1 1001 [] 0 D)
noncomputable def openD (D : Dk) : Option Lg × Int × Dk :=
 if D.callE 0 false = 0 then
  if (D.callD 0 false).callE 1 false = 0 then openH (countsF (D.reads 0) ((D.callD 0 false).reads 1)) ((D.callD 0 false).callD 1 false)
  else (none, (D.callD 0 false).callE 1 false, (D.callD 0 false).callD 1 false)
 else (none, D.callE 0 false, D.callD 0 false)

def OpenAns (w : World) (p : Nat) (F : Nat → Prop) (R : Option Lg × Int × Dk) (N : Nat) (e : Ending) (w' : World) : Prop :=
 ∃ F', Dsk w' p R.2.2 F' ∧ (∀ k, F' k → F k ∨ w.heap.size ≤ k) ∧ Upd F w w' ∧ R.2.2.Ok (N + 1002000) ∧ match R.1 with
 |none => e = .returned (.tuple #[.pointer none, .int .i64 R.2.1])
 |some X => ∃ q G', e = .returned (.tuple #[.pointer (some ⟨q, 0, none⟩), .int .i64 0]) ∧ Log w' q p X G' ∧ (∀ k, G' k → w.heap.size ≤ k) ∧ (∀ k, G' k → ¬ F' k) ∧ X.Ok

theorem heap_setCells_at {w : World} {b o : Nat} {t : TypeId} {old vs : List Value} (h : w.heap[b]? = some (.cells old.toArray t (0, 0))) (hs : o + vs.length ≤ old.length) :
  (w.setCells b o vs).heap[b]? = some (.cells (old.take o ++ vs ++ old.drop (o + vs.length)).toArray t (0, 0)) := by
 rw [heap_setCells b t vs o w old.toArray h]
 have := splice_fold vs 0 o old.toArray (by simpa using hs)
 congr 2
 apply Array.toList_inj.1
 rw [this]
 simp

theorem there_sub {w : World} {b o m : Nat} {cs : Array Value} {t : TypeId} (h : w.heap[b]? = some (.cells cs t (0, 0))) (hs : o + m ≤ cs.size) : w.there b o m := fun j hj =>
 ⟨by rw [cell_of_heap h]; simp; omega, frozen_of_heap h⟩

theorem rangeAt_sub {w : World} {b o : Nat} {cs ds : List Value} {t : TypeId} (h : w.heap[b]? = some (.cells cs.toArray t (0, 0))) (hs : (cs.drop o).take ds.length = ds) : w.rangeAt b o ds := fun j v hj => by
 rw [cell_of_heap h, List.getElem?_toArray]
 have hjl := (List.getElem?_eq_some_iff.1 hj).1
 rw [← hs, List.getElem?_take_of_lt hjl, List.getElem?_drop] at hj
 exact hj

structure HdsAt (w : World) (p : Nat) (F : Nat → Prop) (a b : List Int) (D : Dk) (W : World) : Prop where
 dsk : Dsk W p D F
 upd : Upd F w W
 two : W.heap[w.heap.size]? = some (.cells (bcells a ++ bcells b).toArray 209 (0, 0))
 la : okBlk a
 lb : okBlk b

theorem HdsAt.kept {w W W' : World} {p : Nat} {F G : Nat → Prop} {a b : List Int} {D : Dk} (h : HdsAt w p F a b D W) (hu : Upd G W W') (hG : ∀ k, G k → w.heap.size < k) (hF : ∀ k, F k → k < w.heap.size) : HdsAt w p F a b D W' :=
 ⟨h.dsk.kept hu (fun k h1 h2 => by have := hG k h2; have := hF k h1; omega), h.upd.step hu (fun k h1 h2 => by have := hG k h2; omega), (hu.block _ (lt_of_heap h.two) (fun e => by have := hG _ e; omega)).trans h.two, h.la, h.lb⟩
theorem HdsAt.read {w W W' : World} {p : Nat} {F : Nat → Prop} {a b : List Int} {D D' : Dk} (h : HdsAt w p F a b D W) (hd' : Dsk W' p D' F) (hu : Upd F W W') (hF : ∀ k, F k → k < w.heap.size) : HdsAt w p F a b D' W' :=
 ⟨hd', h.upd.step hu (fun k _ h2 => h2), (hu.block _ (lt_of_heap h.two) (fun e => by have := hF _ e; omega)).trans h.two, h.la, h.lb⟩

def hdA (D : Dk) (k : Nat) : List Int := if k = 0 then zblk else D.reads 0
def hdB (D : Dk) (k : Nat) : List Int := if k ≤ 1 then zblk else (D.callD 0 false).reads 1
def hdD (D : Dk) (k : Nat) : Dk := if k = 0 then D else if k = 1 then D.callD 0 false else (D.callD 0 false).callD 1 false

theorem HdsAt.store {w W : World} {p : Nat} {F : Nat → Prop} {D : Dk} {k : Nat} {s : List Int} (h : HdsAt w p F (hdA D k) (hdB D k) (hdD D (k + 1)) W) (hk : k < 2) (hs : s = (hdD D k).reads (k : Int)) (hl : okBlk s) (hF : ∀ k, F k → k < w.heap.size) :
  HdsAt w p F (hdA D (k + 1)) (hdB D (k + 1)) (hdD D (k + 1)) (W.setCells w.heap.size (k * 64) (bcells s)) := by
 have hu : Upd (fun j => j = w.heap.size) W (W.setCells w.heap.size (k * 64) (bcells s)) := Upd.setCells (F := fun j => j = w.heap.size) rfl _ _ (Upd.refl _ W)
 have la := h.la.1; have lb := h.lb.1
 have hsl := hl.1
 have h2 := heap_setCells_at (o := k * 64) (vs := bcells s) h.two (by simp [bcells, la, lb, hsl]; omega)
 have hd := h.dsk.kept hu (fun j h1 h2 => by have := hF j h1; omega)
 have hup : Upd F w (W.setCells w.heap.size (k * 64) (bcells s)) := h.upd.step hu (fun j h1 h2 => by omega)
 have hk2 : k = 0 ∨ k = 1 := by omega
 rcases hk2 with rfl | rfl
 ·refine ⟨hd, hup, ?_, by subst hs; exact hl, h.lb⟩
  rw [h2]
  have e1 : (bcells (hdA D 0) ++ bcells (hdB D 0)).drop (0 * 64 + (bcells s).length) = bcells (hdB D 0) := by
   rw [Nat.zero_mul, Nat.zero_add]
   exact List.drop_left' (by rw [bcells_length, bcells_length, la, hsl])
  rw [e1, hs]
  simp [hdA, hdB, hdD]
 ·refine ⟨hd, hup, ?_, h.la, by subst hs; exact hl⟩
  rw [h2]
  have e1 : (bcells (hdA D 1) ++ bcells (hdB D 1)).drop (1 * 64 + (bcells s).length) = [] := by
   apply List.drop_eq_nil_of_le
   simp [bcells, la, lb, hsl]
  have e2 : (bcells (hdA D 1) ++ bcells (hdB D 1)).take (1 * 64) = bcells (hdA D 1) := List.take_left' (by rw [bcells_length, la])
  rw [e1, e2, hs]
  simp [hdA, hdB, hdD]

theorem hdD_ok {D : Dk} {N : Nat} (h : D.Ok N) (k : Nat) : (hdD D k).Ok (N + 2) := by
 unfold hdD
 split
 ·exact Dk.Ok.mono h (by omega)
 ·split
  ·exact Dk.Ok.mono (h.callD _ _) (by omega)
  ·exact Dk.Ok.mono ((h.callD _ _).callD _ _) (by omega)
theorem hdD_next {D : Dk} {k : Nat} (hk : k < 2) : (hdD D k).callD (k : Int) false = hdD D (k + 1) := by
 have hk2 : k = 0 ∨ k = 1 := by omega
 rcases hk2 with rfl | rfl <;> rfl
theorem openD_fails {D : Dk} {k : Nat} (hk : k < 2) (h0 : k = 1 → D.callE 0 false = 0) (he : (hdD D k).callE (k : Int) false ≠ 0) : openD D = (none, (hdD D k).callE (k : Int) false, hdD D (k + 1)) := by
 have hk2 : k = 0 ∨ k = 1 := by omega
 rcases hk2 with rfl | rfl
 ·unfold openD
  rw [if_neg (by exact he)]
  rfl
 ·unfold openD
  rw [if_pos (h0 rfl), if_neg (by exact he)]
  rfl

theorem Log.begin {w : World} {q p : Nat} {hd : Hd} (hq : w.heap[q]? = some (.cells #[.int .i64 hd.turn, .int .i64 hd.area, .int .i64 hd.place, .int .i64 hd.number, .pointer (some ⟨p, 0, none⟩), .slice none 0 0, .int .i64 0, .bool false] 193 (0, 0))) : Log w q p ⟨hd, [], 0, false⟩ (fun k => k = q) := by
 refine ⟨.slice none 0 0, [], ⟨hq, World.ownsRow_nil _ _ _ _, fun i v b hv => by simp at hv, fun k hk => by simp [Value.ownBlock] at hk, fun v k hv => by simp at hv⟩, fun k => ?_⟩
 simp [Gp, Value.ownBlock]

theorem Log.turned {w : World} {q p : Nat} {X : Lg} {G : Nat → Prop} (h : Log w q p X G) (t : Int) : Log (w.setCell ⟨q, 0, none⟩ (.int .i64 t)) q p { X with h := { X.h with turn := t } } G := by
 obtain ⟨PV, vs, h1, h2⟩ := h
 have hu := upd_own w q 0 (.int .i64 t)
 refine ⟨PV, vs, ⟨?_, ownsRow_any h1.row hu (fun k hk e => h1.nq k hk e), fun i v b hv hb => (h1.parts i v b hv hb).keptF hu (fun k hk e => (h1.nv v k (List.mem_of_getElem? hv) hk).1 e), h1.nq, h1.nv⟩, h2⟩
 have := blk_set (i := 0) (v := .int .i64 t) h1.main
 simpa [Lg.cells] using this

theorem countsF_says {a b : List Int} (ha : Bytes a) (hb : Bytes b) (h : (countsF a b).2 = true) : (countsF a b).1.Says ∧ 0 ≤ (countsF a b).1.place := by
 have hp : ∀ s, Bytes s → 0 ≤ (readF s).place := fun s hs => be_nonneg (fun x hx => hs x (List.mem_of_mem_drop hx))
 unfold countsF at h ⊢
 split at h
 ·rename_i h1
  rw [if_pos h1]
  exact ⟨((hOk_iff a).1 h1.1).1, hp a ha⟩
 ·rename_i h1
  rw [if_neg h1]
  exact ⟨((hOk_iff b).1 h).1, hp b hb⟩

set_option maxRecDepth 100000 in
set_option maxHeartbeats 8000000 in
theorem open_any {p : Nat} {F : Nat → Prop} {D : Dk} {N : Nat} (w : World) (hD : Dsk w p D F) (hdok : D.Ok N) (hN : N ≤ 1099500000000) :
  Calls Tryz.prog 61 #[.pointer (some ⟨p, 0, none⟩)] w fun e w' => OpenAns w p F (openD D) N e w' := by
 have hFL := hD.lt
 obtain ⟨R, hR⟩ : ∃ R, R = openD D := ⟨_, rfl⟩
 rw [← hR]
 have hu1 : Upd (fun _ => False) w (w.alloc (.cells (bcells zblk ++ bcells zblk).toArray 209)) := (Upd.refl _ w).alloc _
 have hat : HdsAt w p F (hdA D 0) (hdB D 0) (hdD D 0) (w.alloc (.cells (bcells zblk ++ bcells zblk).toArray 209)) := ⟨hD.kept hu1 (fun _ _ e => e), hu1.mono (fun _ _ e => e.elim), alloc_at rfl, zblk_ok, zblk_ok⟩
 obtain ⟨w1, hw1⟩ : ∃ w1, w1 = w.alloc (.cells (bcells zblk ++ bcells zblk).toArray 209) := ⟨_, rfl⟩
 rw [← hw1] at hat
 have HAT := Lib.hid hat; have HOK := Lib.hid hdok; have HFL := Lib.hid hFL; have HR := Lib.hid hR
 clear hD hdok hFL hR hu1 hat
 go_enter Tryz.func61, Tryz.ntmps61
 go_upto_region 2 with fail
 refine (?_ : Code.wp _ _ _ _ (w.alloc (.cells (bcells zblk ++ bcells zblk).toArray 209)))
 rw [← hw1]
 clear hw1
 go_upto_region 3 with fail
 go_loopg [13] 2 (fun gk i wr => ∃ k : Nat, k ≤ 2 ∧ gk = 2 - k ∧ i = .int .i64 k ∧ (1 ≤ k → D.callE 0 false = 0) ∧ (2 ≤ k → (D.callD 0 false).callE 1 false = 0) ∧ HdsAt w p F (hdA D k) (hdB D k) (hdD D k) wr)
 case atStart => exact ⟨0, by omega, rfl, rfl, fun e => by omega, fun e => by omega, HAT.out⟩
 case round =>
  obtain ⟨k, hk, rfl, rfl, hE0, hE1, hat⟩ := hrel
  obtain ⟨wo, rfl⟩ : ∃ wo, wo = wr := ⟨_, rfl⟩
  have HA := Lib.hid hat; have HE0 := Lib.hid hE0; have HE1 := Lib.hid hE1
  clear hat hE0 hE1 HAT
  by_cases hk2 : k < 2
  ·have hk2i : (k : Int) < 2 := by omega
   go_wp2_with (go_at_call 17; fail)
   refine (read_any (k : Int) wo HA.out.dsk (Dk.Ok.mono (hdD_ok HOK.out k) (by omega))).mono ?_
   rintro e w3 ⟨rfl, hd3, hu3⟩
   rw [hdD_next hk2] at hd3
   have hat3 := HA.out.read hd3 hu3 HFL.out
   have hsb := reads_blk (Dk.Ok.mono (hdD_ok HOK.out k) (show N + 2 ≤ 1099511627774 by omega)) (k : Int)
   have hfail := openD_fails (D := D) hk2 (fun e => HE0.out (by omega))
   obtain ⟨s, hs⟩ : ∃ s, s = (hdD D k).reads (k : Int) := ⟨_, rfl⟩
   obtain ⟨E, hE⟩ : ∃ E, E = (hdD D k).callE (k : Int) false := ⟨_, rfl⟩
   rw [← hs] at hsb ⊢
   rw [← hE] at hfail ⊢
   obtain ⟨f1, f2, f3⟩ := fresh56 w3 s hsb.1
   have HIS : RowKit.Hid ((Tryz.prog.info? 48).map (·.size) = some (bcells s).length) := Lib.hid (by rw [Tryz.info56p]; simp [bcells, hsb.1])
   have H1B := Lib.hid (all_oneCell_toArray (bcells_one s))
   have F1 := Lib.hid f1; have HSB := Lib.hid f2; have HSL := Lib.hid hsb; have HFAIL := Lib.hid hfail; have HE := Lib.hid hE; have HS := Lib.hid hs
   have HA4 := Lib.hid (hat3.kept f3 (fun _ e => e.elim) HFL.out)
   have HW3 : RowKit.Hid (w.heap.size < w3.heap.size) := Lib.hid (lt_of_heap hat3.two)
   clear f1 f2 f3 hsb hu3 hd3 hat3 hfail hE hs HA
   simp only []
   iterate 13 go_step
   refine (?_ : wpList _ _ _ _ _ (w3.alloc (.cells (bcells zblk).toArray 48)))
   refine wpList_store_mid rfl 48 (.tmp 6) (.tmp 20) rfl w3.heap.size 0 (bcells s).toArray rfl rfl F1.out (by rw [HIS.out]; simp) H1B.out ?_
   obtain ⟨w4, hw4⟩ : ∃ w4, w4 = (w3.alloc (.cells (bcells zblk).toArray 48)).setCells w3.heap.size 0 (bcells s) := ⟨_, rfl⟩
   rw [← hw4] at HA4 HSB
   rw [show (bcells s).toArray.toList = bcells s from rfl, ← hw4]
   clear hw4 F1
   obtain ⟨gs, hgs⟩ : ∃ gs, gs = w3.heap.size := ⟨_, rfl⟩
   rw [← hgs] at HSB HW3 ⊢
   clear hgs
   by_cases hE0 : E = 0
   rotate_left
   ·have hEb : (E != 0) = true := by simpa using hE0
    have HRE := Lib.hid (HFAIL.out hE0)
    clear hE0
    go_wp2
    go_returns
    rw [HR.out, HRE.out]
    exact ⟨F, HA4.out.dsk, fun k hk => .inl hk, HA4.out.upd, Dk.Ok.mono (hdD_ok HOK.out (k + 1)) (by omega), rfl⟩
   ·subst hE0
    go_upto_region 8 with fail
    have HNX := Lib.hid (HA4.out.store hk2 HS.out HSL.out HFL.out)
    have HTH := Lib.hid (there_sub (o := k * 64) (m := (bcells s).toArray.size) HA4.out.two (by have h1 := HA4.out.la.1; have h2 := HA4.out.lb.1; have h3 := HSL.out.1; simp [bcells, h1, h2, h3]; omega))
    have HE0' : RowKit.Hid (1 ≤ k + 1 → D.callE 0 false = 0) := Lib.hid (fun _ => by
     by_cases e : k = 0
     ·have := HE.out; rw [e] at this; exact this.symm
     ·exact HE0.out (by omega))
    have HE1' : RowKit.Hid (2 ≤ k + 1 → (D.callD 0 false).callE 1 false = 0) := Lib.hid (fun e2 => by
     have e : k = 1 := by omega
     have := HE.out; rw [e] at this; exact this.symm)
    have hcase : k = 0 ∨ k = 1 := by omega
    clear HE0 HE1 HE HS HFAIL
    rcases hcase with rfl | rfl
    ·iterate 4 go_step
     refine wpList_load_mid rfl 48 (.tmp 6) rfl gs 0 rfl (bcells s) _ (rangeAt_block HSB.out) Tryz.underlying48 rfl HIS.out ?_
     iterate 3 go_step
     refine wpList_store_mid rfl 48 (.tmp 27) (.tmp 26) rfl w.heap.size 0 (bcells s).toArray rfl rfl HTH.out (by rw [HIS.out]; simp) H1B.out ?_
     obtain ⟨w5, hw5⟩ : ∃ w5, w5 = w4.setCells w.heap.size (0 * 64) (bcells s) := ⟨_, rfl⟩
     rw [← hw5] at HNX
     refine (?_ : wpList _ _ _ _ _ (w4.setCells w.heap.size (0 * 64) (bcells s)))
     rw [← hw5]
     clear hw5
     go_wp2
     go_roundg (2 - (0 + 1))
     case measure => omega
     case rel => exact ⟨0 + 1, by omega, rfl, rfl, HE0'.out, HE1'.out, HNX.out⟩
    ·iterate 4 go_step
     refine wpList_load_mid rfl 48 (.tmp 6) rfl gs 0 rfl (bcells s) _ (rangeAt_block HSB.out) Tryz.underlying48 rfl HIS.out ?_
     iterate 3 go_step
     refine wpList_store_mid rfl 48 (.tmp 27) (.tmp 26) rfl w.heap.size 64 (bcells s).toArray rfl rfl HTH.out (by rw [HIS.out]; simp) H1B.out ?_
     obtain ⟨w5, hw5⟩ : ∃ w5, w5 = w4.setCells w.heap.size (1 * 64) (bcells s) := ⟨_, rfl⟩
     rw [← hw5] at HNX
     refine (?_ : wpList _ _ _ _ _ (w4.setCells w.heap.size (1 * 64) (bcells s)))
     rw [← hw5]
     clear hw5
     go_wp2
     go_roundg (2 - (1 + 1))
     case measure => omega
     case rel => exact ⟨1 + 1, by omega, rfl, rfl, HE0'.out, HE1'.out, HNX.out⟩
  ·obtain rfl : k = 2 := by omega
   have hRH : R = openH (countsF (D.reads 0) ((D.callD 0 false).reads 1)) (hdD D 2) := by
    rw [HR.out]; unfold openD
    rw [if_pos (HE0.out (by omega)), if_pos (HE1.out (by omega))]
    rfl
   have hA2 : hdA D 2 = D.reads 0 := rfl
   have hB2 : hdB D 2 = (D.callD 0 false).reads 1 := rfl
   have hdk := hdD_ok HOK.out 2
   have hat := HA.out
   rw [hA2, hB2] at hat
   obtain ⟨a, ha⟩ : ∃ a, a = D.reads 0 := ⟨_, rfl⟩
   obtain ⟨b, hb⟩ : ∃ b, b = (D.callD 0 false).reads 1 := ⟨_, rfl⟩
   obtain ⟨D2, hD2⟩ : ∃ D2, D2 = hdD D 2 := ⟨_, rfl⟩
   rw [← ha, ← hb, ← hD2] at hRH
   rw [← ha, ← hb, ← hD2] at hat
   rw [← hD2] at hdk
   have hla := hat.la.1; have hlb := hat.lb.1
   have hra := rangeAt_sub (o := 0) (ds := bcells a) hat.two (by rw [List.drop_zero]; exact List.take_left' rfl)
   have hrb := rangeAt_sub (o := 64) (ds := bcells b) hat.two (by rw [List.drop_left' (by rw [bcells_length, hla])]; exact List.take_of_length_le (Nat.le_refl _))
   have HIA : RowKit.Hid ((Tryz.prog.info? 48).map (·.size) = some (bcells a).length) := Lib.hid (by rw [Tryz.info56p]; simp [bcells, hla])
   have HIB : RowKit.Hid ((Tryz.prog.info? 48).map (·.size) = some (bcells b).length) := Lib.hid (by rw [Tryz.info56p]; simp [bcells, hlb])
   have hcn := counts_any wo hla hlb hat.la.2 hat.lb.2
   have hsy := countsF_says hat.la.2 hat.lb.2
   obtain ⟨cf, hcf⟩ : ∃ cf, cf = countsF a b := ⟨_, rfl⟩
   rw [← hcf] at hcn hsy hRH
   obtain ⟨hh, cok⟩ := cf
   simp only at hcn hsy hRH
   have HRA := Lib.hid hra; have HRB := Lib.hid hrb; have HCN := Lib.hid hcn; have HSY := Lib.hid hsy; have HRH := Lib.hid hRH; have HDK := Lib.hid hdk; have HA2 := Lib.hid hat
   clear hRH hA2 hB2 hdk hat ha hb hD2 hla hlb hra hrb hcn hsy hcf HE0 HE1 HA HOK
   go_upto_region 10 with fail
   iterate 4 go_step
   refine wpList_load_mid rfl 48 (.tmp 30) rfl w.heap.size 0 rfl (bcells a) _ HRA.out Tryz.underlying48 rfl HIA.out ?_
   iterate 3 go_step
   refine wpList_load_mid rfl 48 (.tmp 32) rfl w.heap.size 64 rfl (bcells b) _ HRB.out Tryz.underlying48 rfl HIB.out ?_
   go_wp2_with (go_at_call 130; fail)
   refine HCN.out.mono ?_
   rintro e w6 ⟨rfl, hu6⟩
   have HA6 := Lib.hid (HA2.out.kept hu6 (fun _ e => e.elim) HFL.out)
   clear hu6 HCN HRA HRB HIA HIB HA2
   simp only [Hd.val]
   go_upto_region 11 with fail
   obtain ⟨bh, hbh⟩ : ∃ bh, bh = w6.heap.size := ⟨_, rfl⟩
   obtain ⟨w7, hw7⟩ : ∃ w7, w7 = w6.alloc (.cells #[.int .i64 hh.turn, .int .i64 hh.area, .int .i64 hh.place, .int .i64 hh.number] 184) := ⟨_, rfl⟩
   have HBH : RowKit.Hid (w7.heap[bh]? = some (.cells #[.int .i64 hh.turn, .int .i64 hh.area, .int .i64 hh.place, .int .i64 hh.number] 184 (0, 0))) := Lib.hid (by rw [hw7, hbh]; exact alloc_at rfl)
   have HBG : RowKit.Hid (w.heap.size < bh) := Lib.hid (by rw [hbh]; exact lt_of_heap HA6.out.two)
   have HA7 : RowKit.Hid (HdsAt w p F a b D2 w7) := Lib.hid (by rw [hw7]; exact HA6.out.kept ((Upd.refl (fun _ => False) w6).alloc _) (fun _ e => e.elim) HFL.out)
   rw [← hbh, ← hw7]
   have HD7 := Lib.hid HA7.out.dsk
   clear hbh hw7 HA6
   cases cok with
   |false =>
    have HRE : RowKit.Hid (R = (none, 140, D2)) := Lib.hid (by rw [HRH.out]; unfold openH; rw [if_pos (.inl rfl)])
    go_quiet (fail)
    go_wp2
    go_returns
    rw [HRE.out]
    have hun : ∀ n, Upd (fun _ => False) w7 (w7.drewN n) := fun n => ⟨rfl, rfl, rfl, Nat.le_refl _, fun _ _ _ => rfl⟩
    exact ⟨F, HA7.out.dsk.kept (hun _) (fun _ _ e => e), fun k hk => .inl hk, HA7.out.upd.trans ((hun _).mono (fun _ _ e => e.elim)), Dk.Ok.mono HDK.out (by omega), rfl⟩
   |true =>
    obtain ⟨hsays, hpl⟩ := HSY.out rfl
    have har := hsays.area; have hnum := hsays.number; have htu := hsays.turn; have hpl2 := hsays.place
    have hA : Upd (fun _ => False) w7 w7.drew := (Upd.refl _ w7).drew
    have hv1 : IntKind.i64.wrap (2 * hh.area) = 2 * hh.area := by rw [IntKind.wrap_i64]; omega
    have hv2 : IntKind.i64.wrap (2 + 2 * hh.area) = 2 + 2 * hh.area := by rw [IntKind.wrap_i64]; omega
    have HSAYS := Lib.hid hsays
    clear hsays HSY
    refine wp_region_G 10 (fun W => Upd (fun _ => False) w7 W) [false, false, false, false, false, false, false, false, false, false, false] rfl (by kernel_rfl) ?_
    refine wpG_tq 0 (.bool true) [2, 1] rfl (by kernel_rfl) (fun _ _ _ h => h) hA rfl (fun w5 q1 => ?_) ?_
    ·go_simp
    simp only [Act.put, List.setIfInBounds_toArray, List.set]
    refine wpG_tq 1 (.bool false) [2] rfl (by kernel_rfl) (fun _ _ _ h => h) hA rfl (fun w5 q1 => ?_) ?_
    ·go_simp
    simp only [Act.put, List.setIfInBounds_toArray, List.set]
    refine wpG_tq 2 (.bool false) [] rfl (by kernel_rfl) (fun _ _ _ h => h) hA rfl (fun w5 q1 => ?_) ?_
    ·go_simp
    simp only [Act.put, List.setIfInBounds_toArray, List.set]
    refine wpG_tq 3 (.pointer (some ⟨p, 0, none⟩)) [9, 4] rfl (by kernel_rfl) (fun _ _ _ h => h) hA rfl (fun w5 q1 => ?_) ?_
    ·go_simp
    simp only [Act.put, List.setIfInBounds_toArray, List.set]
    refine wpG_tq 5 (.pointer (some ⟨bh, 1, none⟩)) [9, 8, 7, 6] rfl (by kernel_rfl) (fun _ _ _ h => h) hA rfl (fun w5 q1 => ?_) ?_
    ·go_simp
    simp only [Act.put, List.setIfInBounds_toArray, List.set]
    refine wpG_tq 6 (.int .i64 hh.area) [9, 8, 7] rfl (by kernel_rfl) (fun _ _ _ h => h) hA rfl (fun w5 q1 => ?_) ?_
    ·have cc : w5.cell? ⟨bh, 1, none⟩ = some (.int .i64 hh.area) := by simp [World.cell?, (q1.block _ (lt_of_heap HBH.out) (fun e => e)).trans HBH.out]
     go_simp
    simp only [Act.put, List.setIfInBounds_toArray, List.set]
    refine wpG_tq 7 (.int .i64 (2 * hh.area)) [9, 8] rfl (by kernel_rfl) (fun _ _ _ h => h) hA rfl (fun w5 q1 => ?_) ?_
    ·go_simp
    simp only [Act.put, List.setIfInBounds_toArray, List.set]
    refine wpG_tq 8 (.int .i64 (2 + 2 * hh.area)) [9] rfl (by kernel_rfl) (fun _ _ _ h => h) hA rfl (fun w5 q1 => ?_) ?_
    ·go_simp
    simp only [Act.put, List.setIfInBounds_toArray, List.set]
    refine wpG_doIf (i := 4) rfl (by kernel_rfl) rfl (fun K hK => ?_)
    have HKK := Lib.hid hK
    clear hK
    go_step
    refine (len_any _ (HD7.out.kept hA (fun _ _ e => e))).mono ?_
    rintro e w8 ⟨rfl, rfl⟩
    simp only []
    refine HKK.out _ _ hA ?_
    clear HKK
    simp only [List.setIfInBounds_toArray, List.set]
    refine wpG_tq 9 (.bool (decide ((D2.arr.length : Int) < 2 + 2 * hh.area))) [] rfl (by kernel_rfl) (fun _ _ _ h => h) hA rfl (fun w5 q1 => ?_) ?_
    ·go_simp
    simp only [Act.put, List.setIfInBounds_toArray, List.set]
    refine wpG_tail_lit (k := 10) rfl rfl (by kernel_rfl) ?_
    simp only [List.drop]
    clear hv1 hv2
    have HA8 := Lib.hid (HA7.out.kept hA (fun _ e => e.elim) HFL.out)
    have HBH8 := Lib.hid ((hA.block _ (lt_of_heap HBH.out) (fun e => e)).trans HBH.out)
    clear hA HA7 HBH HD7
    obtain ⟨w8, hw8⟩ : ∃ w8, w8 = w7.drew := ⟨_, rfl⟩
    rw [← hw8] at HA8 HBH8 ⊢
    clear hw8
    by_cases hln : (D2.arr.length : Int) < 2 + 2 * hh.area
    ·have hq : decide ((D2.arr.length : Int) < 2 + 2 * hh.area) = true := by simpa using hln
     have HRE : RowKit.Hid (R = (none, 140, D2)) := Lib.hid (by rw [HRH.out]; unfold openH; rw [if_pos (.inr hln)])
     go_wp2
     go_returns
     rw [HRE.out]
     exact ⟨F, HA8.out.dsk, fun k hk => .inl hk, HA8.out.upd, Dk.Ok.mono HDK.out (by omega), rfl⟩
    ·have hq : decide ((D2.arr.length : Int) < 2 + 2 * hh.area) = false := by simpa using hln
     have HRE : RowKit.Hid (R = openP hh (foundD hh 1001 [] 0 D2)) := Lib.hid (by rw [HRH.out]; unfold openH; rw [if_neg (by simp; omega)])
     have c0 : w8.cell? ⟨bh, 0, none⟩ = some (.int .i64 hh.turn) := by simp [World.cell?, HBH8.out]
     have c1 : w8.cell? ⟨bh, 1, none⟩ = some (.int .i64 hh.area) := by simp [World.cell?, HBH8.out]
     have c2 : w8.cell? ⟨bh, 2, none⟩ = some (.int .i64 hh.place) := by simp [World.cell?, HBH8.out]
     have c3 : w8.cell? ⟨bh, 3, none⟩ = some (.int .i64 hh.number) := by simp [World.cell?, HBH8.out]
     go_wp2_with (go_at_call 131; fail)
     have hcf := found_any (q := w8.heap.size) (X := ⟨hh, [], 0, false⟩) (G := fun k => k = w8.heap.size) (F := F) (D := D2) (N := N + 2) (p := p) (w8.alloc (.cells #[.int .i64 hh.turn, .int .i64 hh.area, .int .i64 hh.place, .int .i64 hh.number, .pointer (some ⟨p, 0, none⟩), .slice none 0 0, .int .i64 0, .bool false] 193))
      (Log.begin (alloc_at rfl)) ⟨by show 0 ≤ hh.turn ∧ hh.turn ≤ _; omega, har, by show 0 ≤ hh.place ∧ hh.place ≤ _; omega, by show 0 ≤ hh.number ∧ hh.number ≤ _; omega, by show (0 : Int) ≤ 0 ∧ (0 : Int) ≤ 1000; omega, by simp, fun b hb => by simp at hb⟩ rfl (by show (0 : Int) ≤ hh.area; omega) (by simp)
      (HA8.out.dsk.kept ((Upd.refl (fun _ => False) w8).alloc _) (fun _ _ e => e)) HDK.out (by omega) (fun k hk e => by have := HFL.out k e; have := lt_of_heap HA8.out.two; omega)
     have hu9 : Upd (fun _ => False) w8 (w8.alloc (.cells #[.int .i64 hh.turn, .int .i64 hh.area, .int .i64 hh.place, .int .i64 hh.number, .pointer (some ⟨p, 0, none⟩), .slice none 0 0, .int .i64 0, .bool false] 193)) := (Upd.refl _ w8).alloc _
     obtain ⟨w9, hw9⟩ : ∃ w9, w9 = w8.alloc (.cells #[.int .i64 hh.turn, .int .i64 hh.area, .int .i64 hh.place, .int .i64 hh.number, .pointer (some ⟨p, 0, none⟩), .slice none 0 0, .int .i64 0, .bool false] 193) := ⟨_, rfl⟩
     refine (?_ : Calls _ _ _ (w8.alloc (.cells #[.int .i64 hh.turn, .int .i64 hh.area, .int .i64 hh.place, .int .i64 hh.number, .pointer (some ⟨p, 0, none⟩), .slice none 0 0, .int .i64 0, .bool false] 193)) _)
     have hs9 : w9.heap.size = w8.heap.size + 1 := by rw [hw9]; simp
     rw [← hw9] at hcf hu9 ⊢
     clear hw9
     obtain ⟨q, hq0⟩ : ∃ q, q = w8.heap.size := ⟨_, rfl⟩
     have hqw : w.heap.size < q := by rw [hq0]; exact lt_of_heap HA8.out.two
     have hup9 : Upd F w w9 := HA8.out.upd.trans (hu9.mono (fun _ _ e => e.elim))
     have hqF : ¬ F q := fun e => by have := HFL.out q e; omega
     rw [← hq0] at hcf hs9 ⊢
     obtain ⟨RF, hRF⟩ : ∃ RF, RF = foundD hh 1001 [] 0 D2 := ⟨_, rfl⟩
     simp only at hcf
     rw [← hRF] at hcf HRE
     have HUP := Lib.hid hup9; have HQF := Lib.hid hqF; have HS9 := Lib.hid hs9
     clear hq0 hu9 hup9 hqF hs9 hRF HA8 HBH8 c0 c1 c2 c3 HRH HDK hq
     refine hcf.mono ?_
     clear hcf
     rintro e w10 ⟨Y, G', D', rfl, y1, y2, y3, y4, y5, y6, rfl, y8, y9, y10, y11, y12⟩
     have HUPA : RowKit.Hid (Upd F w w10) := Lib.hid (HUP.out.step y12 (fun k hk e => e.elim (fun e => by omega) id))
     have HGW : RowKit.Hid (∀ k, G' k → w.heap.size ≤ k) := Lib.hid (fun k hk => (y9 k hk).elim (fun e => by omega) (fun e => by have := HS9.out; omega))
     have HGF : RowKit.Hid (∀ k, G' k → ¬ F k) := Lib.hid (fun k hk e => by have := HGW.out k hk; have := HFL.out k e; omega)
     have hyh : Y.h = hh := y1
     have y8' := y8
     obtain ⟨PV, vs, hl1, hl2⟩ := y8
     obtain ⟨pa, pc, rfl⟩ := rowV hl1.row
     have HM := Lib.hid hl1.main; have HLG := Lib.hid y8'; have HD10 := Lib.hid y10; have HK10 := Lib.hid y11; have HYP := Lib.hid y3; have HYO := Lib.hid y6; have HYH := Lib.hid hyh; have HYU := Lib.hid y4; have HYB := Lib.hid y2
     clear y1 y2 y3 y4 y5 y6 y8' y9 y10 y11 y12 hl1 hl2 hyh HUP HS9
     simp only []
     by_cases hE : RF.2.1 = 0
     rotate_left
     ·have hEb : (RF.2.1 != 0) = true := by simpa using hE
      have HRE2 : RowKit.Hid (R = (none, RF.2.1, RF.2.2)) := Lib.hid (by rw [HRE.out]; unfold openP; rw [if_neg hE])
      clear hE
      go_wp2
      go_returns
      rw [HRE2.out]
      exact ⟨F, HD10.out, fun k hk => .inl hk, HUPA.out, Dk.Ok.mono HK10.out (by omega), rfl⟩
     ·have hEb : (RF.2.1 != 0) = false := by simpa using hE
      have HRE2 : RowKit.Hid (R = if RF.1 = [] ∨ hh.turn = 1073741824 then (none, 140, RF.2.2) else openL { hh with turn := hh.turn + 1 } RF.1 RF.2.2) := Lib.hid (by rw [HRE.out]; unfold openP; rw [if_pos hE])
      have c0 : w10.cell? ⟨q, 0, none⟩ = some (.int .i64 hh.turn) := by rw [← HYH.out]; simp [World.cell?, HM.out, Lg.cells]
      have c5 : w10.cell? ⟨q, 5, none⟩ = some (.slice pa Y.parts.length pc) := by simp [World.cell?, HM.out, Lg.cells]
      clear hE
      go_upto_region 17 with fail
      by_cases hp0 : Y.parts = []
      ·have hz : ((Y.parts.length : Int) == 0) = true := by rw [hp0]; rfl
       have HRE3 : RowKit.Hid (R = (none, 140, RF.2.2)) := Lib.hid (by rw [HRE2.out, if_pos (.inl (by rw [← HYP.out, hp0]))])
       clear hp0
       go_wp2
       go_returns
       rw [HRE3.out]
       exact ⟨F, HD10.out, fun k hk => .inl hk, HUPA.out, Dk.Ok.mono HK10.out (by omega), rfl⟩
      ·have hz : ((Y.parts.length : Int) == 0) = false := by
        have : Y.parts.length ≠ 0 := fun e => hp0 (List.length_eq_zero_iff.1 e)
        simp; omega
       by_cases htm : hh.turn = 1073741824
       ·have htb : (hh.turn == 1073741824) = true := by simpa using htm
        have HRE3 : RowKit.Hid (R = (none, 140, RF.2.2)) := Lib.hid (by rw [HRE2.out, if_pos (.inr htm)])
        clear hp0 htm
        go_wp2
        go_returns
        rw [HRE3.out]
        exact ⟨F, HD10.out, fun k hk => .inl hk, HUPA.out, Dk.Ok.mono HK10.out (by omega), rfl⟩
       ·have htb : (hh.turn == 1073741824) = false := by simpa using htm
        have HRE3 : RowKit.Hid (R = openL { hh with turn := hh.turn + 1 } RF.1 RF.2.2) := Lib.hid (by rw [HRE2.out, if_neg (fun e => e.elim (fun e => hp0 (by rw [HYP.out, e])) htm)])
        have hv1 : IntKind.i64.wrap (hh.turn + 1) = hh.turn + 1 := by rw [IntKind.wrap_i64]; omega
        have hf0 : w10.frozen? ⟨q, 0, none⟩ = false := frozen_of_heap HM.out
        clear hp0 htm HRE2
        go_upto_region 20 with fail
        have hu11 : Upd (fun k => k = q) w10 (w10.setCell ⟨q, 0, none⟩ (.int .i64 (hh.turn + 1))) := upd_own w10 q 0 _
        have hlg11 := HLG.out.turned (hh.turn + 1)
        have hye : ({ Y with h := { Y.h with turn := hh.turn + 1 } } : Lg) = ⟨{ hh with turn := hh.turn + 1 }, RF.1, usedOf RF.1, false⟩ := by
         have h1 := HYH.out; have h2 := HYP.out; have h3 := HYU.out; have h4 := HYB.out
         rcases Y with ⟨ya, yb, yc, yd⟩
         simp only at h1 h2 h3 h4
         subst h1 h4
         rw [h3, h2]
        rw [hye] at hlg11
        have hok11 : (⟨{ hh with turn := hh.turn + 1 }, RF.1, usedOf RF.1, false⟩ : Lg).Ok := by
         rw [← hye]
         have h := HYO.out
         exact ⟨by show 0 ≤ hh.turn + 1 ∧ hh.turn + 1 ≤ 1073741824; have : hh.turn ≠ 1073741824 := by simpa using htb
                   omega, h.area, h.place, h.number, h.used, h.len, h.bytes⟩
        obtain ⟨w11, hw11⟩ : ∃ w11, w11 = w10.setCell ⟨q, 0, none⟩ (.int .i64 (hh.turn + 1)) := ⟨_, rfl⟩
        rw [← hw11] at hu11 hlg11 ⊢
        obtain ⟨PV2, vs2, hm1, hm2⟩ := hlg11
        have hm := hm1.main
        have d0 : w11.cell? ⟨q, 0, none⟩ = some (.int .i64 (hh.turn + 1)) := by simp [World.cell?, hm, Lg.cells]
        have d1 : w11.cell? ⟨q, 1, none⟩ = some (.int .i64 hh.area) := by simp [World.cell?, hm, Lg.cells]
        have d2 : w11.cell? ⟨q, 2, none⟩ = some (.int .i64 hh.place) := by simp [World.cell?, hm, Lg.cells]
        have d3 : w11.cell? ⟨q, 3, none⟩ = some (.int .i64 hh.number) := by simp [World.cell?, hm, Lg.cells]
        have HLG11 : RowKit.Hid (Log w11 q p ⟨{ hh with turn := hh.turn + 1 }, RF.1, usedOf RF.1, false⟩ G') := Lib.hid ⟨PV2, vs2, hm1, hm2⟩
        have HOK11 := Lib.hid hok11
        have HU11 : RowKit.Hid (Upd F w w11) := Lib.hid (HUPA.out.step hu11 (fun k hk e => by omega))
        have HD11 := Lib.hid (HD10.out.kept hu11 (fun k hk e => HQF.out (by rw [← e]; exact hk)))
        have hun : ({ hh with turn := hh.turn + 1 } : Hd).U32 := ⟨by show 0 ≤ hh.turn + 1 ∧ hh.turn + 1 ≤ 4294967295; omega, by show 0 ≤ hh.area ∧ hh.area ≤ 4294967295; omega, by show 0 ≤ hh.place ∧ hh.place ≤ 4294967295; omega, by show 0 ≤ hh.number ∧ hh.number ≤ 4294967295; omega⟩
        have HLD := Lib.hid (laid_any w11 HD11.out HK10.out (by omega) hun)
        have hdl := Dk.lays_ok [headSc ({ hh with turn := hh.turn + 1 } : Hd)] HK10.out
        have HDL := Lib.hid hdl
        clear hu11 hye hok11 hw11 hm1 hm2 hm hun hdl c0 c5 hf0 hv1 HM HLG HUPA HYO HYH HYP HYU HYB
        go_wp2_with (go_at_call 112; fail)
        refine HLD.out.mono ?_
        rintro e w12 ⟨rfl, F', hd12, hF', hu12⟩
        rw [show raw [headSc ({ hh with turn := hh.turn + 1 } : Hd)] = [({ hh with turn := hh.turn + 1 } : Hd).laid] from rfl] at hd12 ⊢
        rw [show raw [headSc ({ hh with turn := hh.turn + 1 } : Hd)] = [({ hh with turn := hh.turn + 1 } : Hd).laid] from rfl] at HDL
        have HD12 := Lib.hid hd12; have HF' := Lib.hid hF'; have HU12 := Lib.hid hu12
        clear hd12 hF' hu12 HLD
        obtain ⟨E, hE⟩ : ∃ E, E = RF.2.2.laysE [({ hh with turn := hh.turn + 1 } : Hd).laid] := ⟨_, rfl⟩
        have HE := Lib.hid hE
        rw [← hE]
        clear hE
        have HUF : RowKit.Hid (Upd F w w12) := Lib.hid (HU11.out.step HU12.out (fun k _ e => e))
        have HFF : RowKit.Hid (∀ k, F' k → F k ∨ w.heap.size ≤ k) := Lib.hid (fun k hk => (HF'.out k hk).imp id (fun e => by have := HU11.out.size; omega))
        simp only []
        by_cases hE0 : E = 0
        ·have hEb : (E != 0) = false := by simpa using hE0
         have HR4 : RowKit.Hid (R = (some ⟨{ hh with turn := hh.turn + 1 }, RF.1, usedOf RF.1, false⟩, 0, RF.2.2.lays [({ hh with turn := hh.turn + 1 } : Hd).laid])) := Lib.hid (by
          rw [HRE3.out]; unfold openL; rw [if_pos (by rw [← HE.out]; exact hE0)])
         clear hE0
         go_wp2
         go_returns
         rw [HR4.out]
         exact ⟨F', HD12.out, HFF.out, HUF.out, Dk.Ok.mono HDL.out (by simp), q, G', rfl, HLG11.out.kept HU12.out HGF.out, HGW.out, fun k hk e => (HF'.out k e).elim (fun e => HGF.out k hk e) (fun e => by have := HLG11.out.lt k hk; omega), HOK11.out⟩
        ·have hEb : (E != 0) = true := by simpa using hE0
         have HR4 : RowKit.Hid (R = (none, E, RF.2.2.lays [({ hh with turn := hh.turn + 1 } : Hd).laid])) := Lib.hid (by
          rw [HRE3.out]; unfold openL; rw [if_neg (by rw [← HE.out]; exact hE0), HE.out])
         clear hE0
         go_wp2
         go_returns
         rw [HR4.out]
         exact ⟨F', HD12.out, HFF.out, HUF.out, Dk.Ok.mono HDL.out (by simp), rfl⟩

end Go.Proofs.YtbimkhdiplnbfaaGreat
end

section
namespace Go.Proofs.YtbimkhdiplnbfaaGreat
set_option maxRecDepth 100000
open Go.RowKit Go.Shelf

attribute [local go_sem] Oper.semAt_some

theorem ownsRow_heap {w w' : World} {B : Nat} {e : TypeId} {s : Nat} {v : Value} {n : Nat} {xs : List Value} (h : w.ownsRow B e s v n xs) (hk : ∀ g, v.ownBlock = some g → w'.heap[g]? = w.heap[g]?) : w'.ownsRow B e s v n xs := by
 refine ⟨h.1, ?_⟩
 rcases h.2 with h | ⟨g, cap, cur, rfl, h2, h3, h4⟩
 ·exact .inl h
 ·exact .inr ⟨g, cap, cur, rfl, h2, (hk g rfl).trans h3, h4⟩

theorem Log.keep {w w' : World} {q p : Nat} {X : Lg} {G : Nat → Prop} (h : Log w q p X G) (hk : ∀ k, G k → w'.heap[k]? = w.heap[k]?) : Log w' q p X G := by
 obtain ⟨PV, vs, h1, h2⟩ := h
 refine ⟨PV, vs, ⟨(hk q ((h2 q).2 (.inl rfl))).trans h1.main, ownsRow_heap h1.row (fun g hg => hk g ((h2 g).2 (.inr (.inl hg)))), fun i v b hv hb => ownsRow_heap (h1.parts i v b hv hb) (fun g hg => hk g ((h2 g).2 (.inr (.inr ⟨v, List.mem_of_getElem? hv, hg⟩)))), h1.nq, h1.nv⟩, h2⟩

set_option maxRecDepth 100000 in
set_option maxHeartbeats 8000000 in
theorem walk_any (n : Nat) (hn : 1 ≤ n) (l : Nat) {q p bp : Nat} {X : Lg} {G : Nat → Prop} (hok : X.Ok) (hne : X.parts ≠ []) (J : List (Nat × Value) → World → Prop) (W : World) (hlog : Log W q p X G) (hbp : W.heap[bp]? = some (.cells #[.pointer (some ⟨q, 0, none⟩)] 38 (0, 0)))
  (hY : ∀ pre x W0 W1 b, J pre W0 → Upd (fun _ => False) W0 W1 → x.1 = pre.length → X.parts[pre.length + 1]? = some b → OwnB W1 W0.heap.size x.2 b → YieldAt Fence.wide (n - 1) Tryz.prog l #[.int .i64 x.1, x.2] W1 fun e W' =>
   e = .returned (.bool true) ∧ J (pre ++ [x]) W' ∧ ∀ k, G k ∨ k = bp → W'.heap[k]? = W1.heap[k]?) (h0 : J [] W) (hJA : ∀ pre W W', J pre W → Upd (fun _ => False) W W' → J pre W') :
  CallsIn Fence.wide n Tryz.prog 165 #[.func (.yield l) #[] #[], .pointer (some ⟨bp, 0, none⟩)] W fun e W' => (∃ v, e = .returned v) ∧ ∃ xs, xs.length + 1 = X.parts.length ∧ J xs W' := by
 have HLG := Lib.hid hlog; have HBP := Lib.hid hbp; have HY := Lib.hid hY; have HOK := Lib.hid hok; have HJA := Lib.hid hJA
 have hc := cells1_of hbp
 have hpl : 1 ≤ X.parts.length := by
  rcases hX : X.parts with _ | ⟨a, b⟩
  ·exact absurd hX hne
  ·simp
 have hpl2 := hok.len
 have H0 := Lib.hid h0
 clear hlog hbp hY hok hne h0 hJA
 refine callsIn_of_wp Tryz.func165 rfl trivial ?_ rfl
 simp only [Tryz.ntmps165, List.size_toArray, List.length_cons, List.length_nil, Nat.reduceAdd, Nat.reduceSub, Array.replicate_succ, Array.replicate_zero, List.push_toArray, List.append_toArray, List.nil_append, List.cons_append]
 gi_wp2_with (refine ⟨trivial, ?_⟩; gi_at_call 55; fail)
 refine ⟨trivial, ?_⟩
 refine (callsIn_wide.2 (loglen_any W HLG.out HOK.out)).mono ?_
 rintro e w1 ⟨rfl, hu1⟩
 have HU1 := Lib.hid hu1
 clear hu1 hc
 simp only []
 gi_upto_region 1 with fail
 obtain ⟨N, hN⟩ : ∃ N : Nat, N + 1 = X.parts.length := ⟨X.parts.length - 1, by omega⟩
 rw [show ((X.parts.length : Int) - 1) = (N : Int) by omega]
 gi_loopg [6] N (fun gi i wr => ∃ (k : Nat) (pre : List (Nat × Value)) (W0 : World), k ≤ N ∧ gi = N - k ∧ i = .int .i64 k ∧ pre.length = k ∧ J pre W0 ∧ Upd (fun _ => False) W0 wr ∧ Log W0 q p X G ∧ W0.heap[bp]? = some (.cells #[.pointer (some ⟨q, 0, none⟩)] 38 (0, 0)))
 case atStart => exact ⟨0, [], W, by omega, rfl, rfl, rfl, H0.out, HU1.out, HLG.out, HBP.out⟩
 case round =>
  obtain ⟨k, pre, W0, hk, rfl, rfl, hpre, hJ, hu, hlg, hbp⟩ := hrel
  obtain ⟨wo, rfl⟩ : ∃ wo, wo = wr := ⟨_, rfl⟩
  by_cases hkN : k < N
  ·have hlgo := hlg.kept hu (fun _ _ e => e)
   have hbpo := (hu.block _ (lt_of_heap hbp) (fun e => e)).trans hbp
   have hcc := cells1_of hbpo
   have hkN2 : (k : Int) < N := by omega
   obtain ⟨PV, vs, h1, h2⟩ := hlgo
   have hvl := h1.vslen
   obtain ⟨b, hb⟩ : ∃ b, X.parts[k + 1]? = some b := ⟨_, List.getElem?_eq_getElem (by omega)⟩
   obtain ⟨v, hv⟩ : ∃ v, vs[k + 1]? = some v := ⟨_, List.getElem?_eq_getElem (by omega)⟩
   have hown := h1.parts _ _ _ hv hb
   have hbl := (HOK.out.bytes b (List.mem_of_getElem? hb)).2
   obtain ⟨g, cap, hPV⟩ : ∃ g cap, PV = .slice (some ⟨g, 0, none⟩) X.parts.length cap := by
    rcases h1.row.2 with ⟨_, h⟩ | ⟨g, cap, cur, h, _⟩
    ·omega
    ·exact ⟨g, cap, h⟩
   subst hPV
   have c5 : wo.cell? ⟨q, 5, none⟩ = some (.slice (some ⟨g, 0, none⟩) X.parts.length cap) := by simp [World.cell?, h1.main, Lg.cells]
   have cv : wo.cell? ⟨g, k + 1, none⟩ = some v := by
    have := h1.row.cells (g := g) rfl (k + 1) v hv
    rwa [Addr.add_mid, Nat.zero_add] at this
   have HOWN := Lib.hid hown; have HB := Lib.hid hb; have HJ := Lib.hid hJ; have HU := Lib.hid hu; have HLG0 := Lib.hid hlg; have HBP0 := Lib.hid hbp; have HPRE := Lib.hid hpre
   have hlN : (k : Int) + 1 < X.parts.length := by omega
   clear h1 h2 hown hb hJ hu hlg hbp hbpo hvl hv hpre HLG HBP HU1 H0
   gi_wp2_with (refine ⟨trivial, ?_⟩; gi_at_call 99; fail)
   refine ⟨trivial, ?_⟩
   refine (callsIn_wide.2 (clone_any wo (by omega) HOWN.out.bytesIn)).mono ?_
   rintro e w3 ⟨u, rfl, hou, _, hu3⟩
   have hu03 : Upd (fun _ => False) W0 w3 := HU.out.trans hu3
   have hJy := HY.out pre (k, u) W0 w3 b HJ.out hu03 HPRE.out.symm (by rw [HPRE.out]; exact HB.out) (hou.mono HU.out.size)
   obtain ⟨fn, tmps, assign, body, hy, hR⟩ := hJy
   dsimp only at hy
   have HRR := Lib.hid hR; have HU03 := Lib.hid hu03
   clear hou hu3 hR hu03 HOWN HB HJ HU HY cv c5 hcc
   simp only []
   iterate 3 gi_step
   refine HRR.out.mono ?_
   rintro e w4 ⟨rfl, hJ4, hk4⟩
   have HJ4 := Lib.hid hJ4
   have HL4 := Lib.hid ((HLG0.out.kept HU03.out (fun _ _ e => e)).keep (fun j hj => hk4 j (.inl hj)))
   have HB4 := Lib.hid ((hk4 bp (.inr rfl)).trans ((HU03.out.block _ (lt_of_heap HBP0.out) (fun e => e)).trans HBP0.out))
   clear hJ4 hk4 hy HRR HU03 HLG0 HBP0
   simp only []
   gi_wp2
   gi_roundg (N - (k + 1))
   case measure => omega
   case rel => exact ⟨k + 1, pre ++ [(k, u)], w4, by omega, rfl, congrArg _ (by omega), by simp [HPRE.out], HJ4.out, Upd.refl _ _, HL4.out, HB4.out⟩
  ·obtain rfl : k = N := by omega
   have hkN2 : ¬ (k : Int) < k := by omega
   have HFIN : RowKit.Hid (∃ xs : List (Nat × Value), xs.length + 1 = X.parts.length ∧ J xs wo) := Lib.hid ⟨pre, by omega, HJA.out _ _ _ hJ hu⟩
   clear hJ hu hlg hbp hpre
   gi_wp2
   refine bodyPost_end (results_none rfl _ _ _) rfl ?_
   exact ⟨⟨_, rfl⟩, HFIN.out⟩

theorem walAll_any (q : Nat) (w : World) : Calls Tryz.prog 120 #[.pointer (some ⟨q, 0, none⟩)] w fun e w' => e = .returned (.func (.func 165) #[] #[.pointer (some ⟨w.heap.size, 0, none⟩)]) ∧ w' = w.alloc (.cells #[.pointer (some ⟨q, 0, none⟩)] 38) := by
 go_enter Tryz.func120, Tryz.ntmps120
 go_wp2
 go_ret
 exact ⟨rfl, rfl⟩

end Go.Proofs.YtbimkhdiplnbfaaGreat
end

section
namespace Go.Proofs.YtbimkhdiplnbfaaGreat
set_option maxRecDepth 100000
open Go.RowKit Go.Shelf

attribute [local go_sem] Oper.semAt_some

theorem upd_put {W : World} {l : Nat} (o : Obj) : Upd (fun k => k = l) W (W.putObj l o) := Upd.of_grown (grownBy_putObj' W l o) (fun k hk => by injection hk with hk; exact hk.symm)

end Go.Proofs.YtbimkhdiplnbfaaGreat
end

section
namespace Go.Proofs.YtbimkhdiplnbfaaGreat
set_option maxRecDepth 100000
open Go.RowKit Go.Shelf

def RowsIn (w : World) (v : Value) (txs : List (List Int)) : Prop := ∃ vs, w.ownsRow 0 39 1 v txs.length vs ∧ ∀ (i : Nat) u b, vs[i]? = some u → txs[i]? = some b → BytesIn w u b

theorem len_le_used (l : List (List Int)) : (l.length : Int) ≤ usedOf l := by
 induction l with
 |nil => simp [usedOf]
 |cons b l ih =>
  have := secsN_pos b.length
  rw [usedOf_cons]
  simp
  omega

end Go.Proofs.YtbimkhdiplnbfaaGreat
end

section
namespace Go.Proofs.YtbimkhdiplnbfaaGreat
set_option maxRecDepth 100000
open Go.RowKit

theorem law_fmt {D : Dk} {N area : Nat} (hg : D.Good N) (ha : 4 ≤ area ∧ area ≤ 1000) (hN : 2 + 2 * area ≤ N) : LawD (fmtX area) 1 (fmtD D area 3).S := by
 have b1 := zl_bound (area := area) (N := N) hN
 have b2 : ∀ x ∈ raw (partSc (fmtH area) 1 0 true [] bytes_nil), 0 ≤ x.1 ∧ x.1 < N := partSc_bound bytes_nil (by show (1 : Int) ≤ area; omega) (by show (2 : Int) + 2 * area ≤ N; omega)
 have b3 : ∀ x ∈ raw [headSc (fmtH area)], 0 ≤ x.1 ∧ x.1 < N := headSc_bound (by omega)
 obtain ⟨_, g1⟩ := hg.lays _ (by omega) b1
 obtain ⟨_, g2⟩ := g1.lays _ (by omega) b2
 have hz : ∀ i : Int, 0 ≤ i → i < 2 + 2 * area → (D.lays (fmt1 area)).S i = zblk := fun i h1 h2 => by
  show (D.lays (raw (zl area))).S i = zblk
  rw [hg.S_lays _ b1 i h1 (by omega)]
  exact layS_zl h1 h2
 refine (LawD.fmt ha hz).congr (fun i h1 h2 => ?_)
 have h2' : i < 2 + 2 * (area : Int) := h2
 show (((D.lays (raw (zl area))).lays (raw (partSc (fmtH area) 1 0 true [] bytes_nil))).lays (raw [headSc (fmtH area)])).S i = _
 rw [Dk.Good.S_lays _ g2 b3 i h1 (by omega)]
 refine layS_congr (N := N) _ _ _ (fun j h3 h4 => ?_) i h1 (by omega)
 rw [Dk.Good.S_lays _ g1 b2 j h3 h4, partL_raw]
 rfl

theorem law_app {X : Lg} {τ : Int} {D : Dk} {N : Nat} (h : LawD X τ D.S) (hg : D.Good N) (hN : 2 + 2 * X.h.area ≤ N) {b : List Int} (hb : Bytes b) (hl : b.length ≤ 40000) (hr : X.used + secsN b.length ≤ X.h.area) (hn : X.h.number + X.parts.length + 1 ≤ 2000000000) : LawD (X.add b) 1 (D.lays (X.apS b hb)).S := by
 have ha := h.says.area
 refine (h.add (τ' := 1) hl hr hn (by omega)).congr (fun i h1 h2 => ?_)
 have h2' : i < 2 + 2 * X.h.area := h2
 unfold Lg.apS
 rw [hg.S_lays _ (partSc_bound hb (by omega) hN) i h1 (by omega), partL_raw]

theorem law_cp {X : Lg} {τ : Int} {D : Dk} {N : Nat} (h : LawD X τ D.S) (hg : D.Good N) (hN : 2 + 2 * X.h.area ≤ N) {b : List Int} (hb : Bytes b) (hl : b.length ≤ 40000) (hr : (secsN b.length : Int) ≤ X.h.area) (hn : X.h.number + X.parts.length ≤ 1073741824) (ht : X.h.turn < 1073741824) :
  LawD ((⟨X.cpH, [], 0, false⟩ : Lg).add b) 1 ((D.lays (X.cpS b hb)).lays (raw [headSc X.cpH])).S := by
 have ha := h.says.area
 have b1 : ∀ x ∈ X.cpS b hb, 0 ≤ x.1 ∧ x.1 < N := partSc_bound hb (by omega) hN
 obtain ⟨_, g1⟩ := hg.lays _ (by omega) b1
 refine (h.cp (τ' := 1) hl hr hn ht (by omega)).congr (fun i h1 h2 => ?_)
 have h2' : i < 2 + 2 * X.h.area := h2
 rw [Dk.Good.S_lays _ g1 (headSc_bound (by omega)) i h1 (by omega)]
 refine layS_congr (N := N) _ _ _ (fun j h3 h4 => ?_) i h1 (by omega)
 rw [Dk.Good.S_lays _ hg b1 j h3 h4]
 unfold Lg.cpS
 rw [partL_raw]

theorem shows_far {D : Dk} {K : Nat} (h : D.Ok K) {i : Nat} (hi : D.arr.length ≤ i) : D.shows i = [] := by
 have e : D.row.filter (fun x => x.1 == i) = [] := by
  rw [List.filter_eq_nil_iff]
  intro x hx
  have := (h.rblks x hx).2.1
  simp; omega
 unfold Dk.shows Dk.vers
 rw [e, List.getD_eq_getElem?_getD, List.getElem?_eq_none hi]
 rfl

theorem startN_nonneg {D : Dk} {K : Nat} (h : D.Ok K) (i : Int) : 0 ≤ startN (D.S i) := by
 unfold startN Dk.S
 by_cases hi : i.toNat < D.arr.length
 ·exact be_nonneg (fun x hx => (shows_blk h hi).2 x (List.mem_of_mem_drop hx))
 ·rw [shows_far h (by omega)]
  show (0 : Int) ≤ 0
  omega

theorem openD_law {X : Lg} {τ : Int} {D : Dk} {N K : Nat} (h : LawD X τ D.S) (hg : D.Good N) (hok : D.Ok K) (hN : 2 + 2 * X.h.area ≤ N) (ht : X.h.turn < 1073741824) (hτ : τ ≤ X.h.turn + 1) :
  ∃ D', openD D = (some X.on, 0, D') ∧ D'.Good N ∧ LawD X.on (X.h.turn + 1) D'.S := by
 have ha := h.says.area
 obtain ⟨e0, g0, r0, s0⟩ := hg.callR (i := 0) (by omega)
 obtain ⟨e1, g1, r1, s1⟩ := g0.callR (i := 1) (by omega)
 have hc := h.counts
 obtain ⟨D2, f1, f2, f3, f4⟩ := foundD_good (h := X.h) (N := N) (by omega) hN 1001 [] 0 ((D.callD 0 false).callD 1 false) (by omega) g1
 have hlen : (X.parts.length : Int) ≤ X.used := by rw [h.sum]; exact len_le_used _
 have hfit := h.fits
 rw [s1, s0, h.found (startN_nonneg hok) (by omega)] at f1
 rw [s1, s0] at f3
 have hb := headSc_bound (h := X.on.h) (N := N) (by omega)
 obtain ⟨l1, l2⟩ := f2.lays (raw [headSc X.on.h]) (by omega) hb
 have hlaw := h.opened ht hτ
 refine ⟨D2.lays (raw [headSc X.on.h]), ?_, l2, hlaw.congr (fun i h1 h2 => ?_)⟩
 ·unfold openD
  rw [if_pos e0, if_pos e1, r0, r1, s0, hc]
  unfold openH
  rw [if_neg (by have := g1.len; simp; omega)]
  show openP X.h (foundD X.h 1001 [] 0 _) = _
  rw [f1]
  unfold openP
  rw [if_pos rfl, if_neg (by have := h.one; simp; exact ⟨this, by omega⟩)]
  unfold openL
  rw [if_pos (by exact l1)]
  unfold Lg.on
  rw [h.sum]
  rfl
 ·have h2' : i < 2 + 2 * X.h.area := h2
  rw [Dk.Good.S_lays _ f2 hb i h1 (by omega), f3]
  rfl

theorem open_good {p N K : Nat} {X : Lg} {τ : Int} {D : Dk} {F : Nat → Prop} (w : World) (hD : Dsk w p D F) (h : LawD X τ D.S) (hg : D.Good N) (hok : D.Ok K) (hK : K ≤ 1000000000) (hN : 2 + 2 * X.h.area ≤ N) (ht : X.h.turn < 1073741824) (hτ : τ ≤ X.h.turn + 1) :
  Calls Tryz.prog 61 #[.pointer (some ⟨p, 0, none⟩)] w fun e w' => ∃ q D' G' F', e = .returned (.tuple #[.pointer (some ⟨q, 0, none⟩), .int .i64 0]) ∧ WalG w' q p X.on D' G' F' N (K + 1002000) ∧ LawD X.on (X.h.turn + 1) D'.S ∧ (∀ k, G' k → w.heap.size ≤ k) ∧ (∀ k, F' k → F k ∨ w.heap.size ≤ k) ∧ Upd F w w' := by
 obtain ⟨D', e1, e2, e3⟩ := openD_law h hg hok hN ht hτ
 refine (open_any w hD hok (by omega)).mono ?_
 rintro e w' hx
 rw [e1] at hx
 obtain ⟨F', h1, h2, h3, h4, q, G', rfl, h5, h6, h7, h8⟩ := hx
 exact ⟨q, D', G', F', rfl, ⟨⟨h5, h1, h7⟩, h8, rfl, e2, h4, hN⟩, e3, h6, h2, h3⟩

end Go.Proofs.YtbimkhdiplnbfaaGreat
end

section
namespace Go.Proofs.YtbimkhdiplnbfaaGreat
set_option maxRecDepth 100000
open Go.RowKit

def Dk.Vers (D : Dk) (S : Int → List Int) (l : List (Int × List Int)) : Prop := ∀ i : Nat, i < D.arr.length → ∀ v ∈ D.vers i, v.1 = S i ∨ ((i : Int), v.1) ∈ l

theorem callD_arr (D : Dk) (i : Int) (wr : Bool) : (D.callD i wr).arr = D.arr ∧ (D.callD i wr).row = D.row := by
 unfold Dk.callD
 split
 ·exact ⟨rfl, rfl⟩
 ·split
  ·exact ⟨rfl, rfl⟩
  ·split
   ·exact ⟨rfl, rfl⟩
   ·split <;> exact ⟨rfl, rfl⟩

theorem callD_vers (D : Dk) (i : Int) (wr : Bool) (k : Nat) : (D.callD i wr).vers k = D.vers k := by
 unfold Dk.vers
 rw [(callD_arr D i wr).1, (callD_arr D i wr).2]

theorem Dk.Vers.start {D : Dk} (h : D.row = []) (l : List (Int × List Int)) : D.Vers D.S l := by
 intro i _ v hv
 have e : D.vers i = [(D.arr.getD i [], 0)] := by unfold Dk.vers; rw [h]; rfl
 have es : D.S (i : Int) = D.arr.getD i [] := by
  unfold Dk.S Dk.shows
  rw [Int.toNat_natCast, e]
  rfl
 rw [e] at hv
 simp only [List.mem_singleton] at hv
 left
 rw [hv, es]

theorem Dk.Vers.callD {D : Dk} {S : Int → List Int} {l : List (Int × List Int)} (h : D.Vers S l) (i : Int) (wr : Bool) : (D.callD i wr).Vers S l := by
 intro k hk v hv
 rw [(callD_arr D i wr).1] at hk
 rw [callD_vers] at hv
 exact h k hk v hv

theorem write_len (D : Dk) (i : Int) (b : List Int) : (D.write i b).arr.length = D.arr.length := by
 unfold Dk.write
 split
 ·show (D.callD i true).arr.length = _
  rw [(callD_arr D i true).1]
 ·rw [(callD_arr D i true).1]

theorem Dk.Vers.write {D : Dk} {S : Int → List Int} {l : List (Int × List Int)} (h : D.Vers S l) {i : Int} {b : List Int} (hm : (i, b) ∈ l) (hi : 0 ≤ i) : (D.write i b).Vers S l := by
 unfold Dk.write
 split
 ·intro k hk v hv
  have hk' : k < D.arr.length := by
   have : k < (D.callD i true).arr.length := hk
   rwa [(callD_arr D i true).1] at this
  by_cases e : k = i.toNat
  ·subst e
   rw [vers_send_same, callD_vers] at hv
   rcases List.mem_append.1 hv with hv | hv
   ·exact h _ hk' v hv
   ·simp only [List.mem_singleton] at hv
    right
    rw [hv, show ((i.toNat : Nat) : Int) = i by omega]
    exact hm
  ·rw [vers_send_other _ _ _ _ e, callD_vers] at hv
   exact h k hk' v hv
 ·exact h.callD i true

theorem kept_mem (D : Dk) (lost : Int → Bool) (i : Nat) : ∃ v ∈ D.vers i, v.1 = D.kept lost i := by
 have hc : D.count lost i < (D.vers i).length := by
  unfold Dk.count
  have h1 := List.Sublist.length_le (List.takeWhile_sublist (fun v : List Int × Int => !lost v.2) (l := (D.vers i).tail))
  have h2 : (D.vers i).tail.length = (D.vers i).length - 1 := List.length_tail
  have h3 : 0 < (D.vers i).length := by unfold Dk.vers; simp
  omega
 refine ⟨(D.vers i)[D.count lost i], List.getElem_mem hc, ?_⟩
 unfold Dk.kept
 rw [List.getD_eq_getElem?_getD, List.getElem?_eq_getElem hc]
 rfl

theorem arrive_vers (D : Dk) (lost : Int → Bool) {i : Nat} (hi : i < D.arr.length) : (D.arrive lost).vers i = [(D.kept lost i, 0)] := by
 unfold Dk.vers Dk.arrive
 simp [List.getD_eq_getElem?_getD, hi]

theorem Dk.Vers.arrive {D : Dk} {S : Int → List Int} {l : List (Int × List Int)} (h : D.Vers S l) (lost : Int → Bool) : (D.arrive lost).Vers S l := by
 intro i hi v hv
 have hi' : i < D.arr.length := by simpa [Dk.arrive] using hi
 rw [arrive_vers D lost hi'] at hv
 simp only [List.mem_singleton] at hv
 obtain ⟨u, hu, e⟩ := kept_mem D lost i
 have := h i hi' u hu
 rw [e] at this
 rw [hv]
 exact this

theorem Dk.Vers.sync {D : Dk} {S : Int → List Int} {l : List (Int × List Int)} (h : D.Vers S l) : D.sync.Vers S l := by
 unfold Dk.sync
 split
 ·exact (h.callD 0 true).arrive _
 ·exact h.callD 0 true

theorem Dk.Vers.lays {S : Int → List Int} {L : List (Int × List Int)} : ∀ (l : List (Int × List Int)) {D : Dk}, D.Vers S L → (∀ x ∈ l, x ∈ L ∧ 0 ≤ x.1) → (D.lays l).Vers S L
 | [], _, h, _ => h.sync
 | (i, b) :: l, D, h, hl => by
  have hx := hl (i, b) (List.mem_cons_self ..)
  unfold Dk.lays
  split
  ·exact Dk.Vers.lays l (h.write hx.1 hx.2) (fun x hx => hl x (List.mem_cons_of_mem _ hx))
  ·exact h.write hx.1 hx.2

theorem sync_len (D : Dk) : D.sync.arr.length = D.arr.length := by
 unfold Dk.sync
 split
 ·show ((List.range (D.callD 0 true).arr.length).map _).length = _
  rw [(callD_arr D 0 true).1]; simp
 ·rw [(callD_arr D 0 true).1]

theorem lays_len : ∀ (l : List (Int × List Int)) (D : Dk), (D.lays l).arr.length = D.arr.length
 | [], D => sync_len D
 | (i, b) :: l, D => by
  unfold Dk.lays
  split
  ·rw [lays_len l, write_len]
  ·exact write_len D i b

theorem crash_shows' {D : Dk} {keep : List Bool} {i : Nat} (hi : i < D.arr.length) : (D.crash keep).shows i = D.kept (fun n => !D.keepsAt keep n) i := by
 unfold Dk.shows Dk.vers Dk.crash Dk.arrive
 simp [List.getD_eq_getElem?_getD, hi]

theorem Dk.Vers.crash {D : Dk} {S : Int → List Int} {l : List (Int × List Int)} (h : D.Vers S l) (keep : List Bool) {i : Int} (h1 : 0 ≤ i) (h2 : i < D.arr.length) : (D.crash keep).S i = S i ∨ (i, (D.crash keep).S i) ∈ l := by
 have hv := h.arrive (fun n => !D.keepsAt keep n) i.toNat (by simp [Dk.arrive]; omega)
 have hi : i.toNat < D.arr.length := by omega
 rw [arrive_vers D _ hi] at hv
 have hs : (D.crash keep).S i = D.kept (fun n => !D.keepsAt keep n) i.toNat := by
  unfold Dk.S
  exact crash_shows' hi
 have := hv (D.kept (fun n => !D.keepsAt keep n) i.toNat, 0) (List.mem_singleton.2 rfl)
 rw [hs]
 rwa [show ((i.toNat : Nat) : Int) = i by omega] at this

/-! ### Sectors laid without an error -/
theorem callE_zero {D : Dk} {i : Int} (h : D.callE i true = 0) : D.callR i true = true ∧ 0 ≤ i ∧ i < D.arr.length ∧ D.dead = false ∧ (D.callD i true).dead = false := by
 unfold Dk.callE at h
 cases hd : D.dead with
 |true => simp [hd] at h
 |false =>
  rw [hd] at h
  simp only [Bool.false_eq_true, if_false] at h
  by_cases h1 : i < 0 ∨ (D.arr.length : Int) ≤ i
  ·rw [if_pos h1] at h; omega
  ·rw [if_neg h1] at h
   by_cases h2 : D.arm = 0
   ·simp [h2] at h
   ·by_cases h3 : D.fail = 0
    ·simp [h2, h3] at h
    ·refine ⟨by simp [Dk.callR, hd, h3]; omega, by omega, by omega, rfl, ?_⟩
     unfold Dk.callD
     simp [hd, h1, h2, h3]

theorem write_S {D : Dk} {i : Int} (h : D.callE i true = 0) {j : Int} (hj : 0 ≤ j) (b : List Int) : (D.write i b).S j = if j = i then b else D.S j := by
 obtain ⟨h1, h2, _, _⟩ := callE_zero h
 unfold Dk.write Dk.S
 rw [if_pos h1]
 unfold Dk.shows
 by_cases e : j = i
 ·subst e
  rw [vers_send_same, List.getLast?_concat, if_pos rfl]
  rfl
 ·rw [vers_send_other _ _ _ _ (by omega), callD_vers, if_neg e]

theorem lays_done : ∀ (l : List (Int × List Int)) (D : Dk), D.laysE l = 0 → (∀ j : Int, 0 ≤ j → j < D.arr.length → (D.lays l).S j = layS D.S l j) ∧ (D.lays l).row = [] ∧ (D.lays l).dead = false
 | [], D, h => by
  have hc : D.callE 0 true = 0 := h
  obtain ⟨_, _, _, _, hd⟩ := callE_zero hc
  show (∀ j : Int, 0 ≤ j → j < D.arr.length → D.sync.S j = D.S j) ∧ D.sync.row = [] ∧ D.sync.dead = false
  unfold Dk.sync
  rw [if_pos hc]
  refine ⟨fun j h1 h2 => ?_, rfl, hd⟩
  unfold Dk.S
  show ((((D.callD 0 true).arrive (fun _ => false)).vers j.toNat).getLast?.getD (zblk, 0)).1 = D.shows j.toNat
  rw [arrive_vers _ _ (by rw [(callD_arr D 0 true).1]; omega), kept_all]
  unfold Dk.shows
  rw [callD_vers]
  rfl
 | (i, b) :: l, D, h => by
  unfold Dk.laysE at h
  split at h
  ·rename_i hc
   obtain ⟨h1, h2, h3⟩ := lays_done l (D.write i b) h
   unfold Dk.lays layS
   rw [if_pos hc]
   refine ⟨fun j g1 g2 => ?_, h2, h3⟩
   rw [h1 j g1 (by rw [write_len]; exact g2)]
   exact layS_congr (N := D.arr.length) l _ _ (fun k k1 _ => write_S hc k1 b) j g1 g2
  ·rename_i hc
   exact absurd h hc

end Go.Proofs.YtbimkhdiplnbfaaGreat
end

section
namespace Go.Proofs.YtbimkhdiplnbfaaGreat
set_option maxRecDepth 100000
open Go.RowKit

def Mix (area : Int) (S S' : Int → List Int) (l : List (Int × List Int)) : Prop := ∀ i, 0 ≤ i → i < 2 + 2 * area → S' i = S i ∨ (i, S' i) ∈ l

theorem OldC.next {nx τ t : Int} {c : List Int} {k : Nat} (hnx : 0 ≤ nx ∧ nx ≤ 2000000000) (ht : 1 ≤ t ∧ t ≤ 2000000000) (hc : c.length ≤ 40000) (hk : k ≤ 65535) (h : OldC nx τ (cutF t nx false c k)) : t < τ := by
 rcases h with hz | ⟨t', n', s', b', k', e', g1, g2, g3, g4, g5⟩
 ·have := cutF_turn (turn := t) (number := nx) (by omega) false c k
  rw [hz, be_zblk] at this
  omega
 ·have g6 : k' ≤ 65535 := by unfold secsN at g3; omega
  obtain ⟨c1, c2, _⟩ := cutF_names (by omega) (by omega) (by omega) (by omega) hk g6 hc g2 e'
  have c3 := cutF_snap (by omega) (by omega) (by omega) (by omega) hk g6 hc g2 e'
  rcases g5 with g5 | ⟨_, g5 | g5⟩
  ·omega
  ·rw [← c3] at g5; cases g5
  ·omega

theorem partL_mem {h : Hd} {number place i : Int} {snap : Bool} {b s : List Int} (hm : (i, s) ∈ partL h number place snap b) : ∃ k : Nat, k < secsN b.length ∧ i = atF h.area (place + k) ∧ s = cutF h.turn number snap b k := by
 unfold partL at hm
 rw [List.mem_map] at hm
 obtain ⟨k, hk, e⟩ := hm
 injection e with e1 e2
 exact ⟨k, by simpa using hk, e1.symm, e2.symm⟩

theorem LawD.live {X : Lg} {τ τ' : Int} {S : Int → List Int} (h : LawD X τ S) (hτ : τ ≤ τ') : LawD X τ' S :=
 ⟨h.sum, h.one, h.says, h.place, h.fits, h.next, h.head, h.other, h.parts, fun v h1 h2 => (h.old v h1 h2).mono (.inr ⟨rfl, hτ⟩), h.none⟩

theorem LawD.crash_add {X : Lg} {τ : Int} {S S' : Int → List Int} (h : LawD X τ S) (hτ : τ ≤ X.h.turn) {b : List Int} (hb : b.length ≤ 40000) (hr : X.used + secsN b.length ≤ X.h.area) (hn : X.h.number + X.parts.length + 1 ≤ 2000000000)
  (hm : Mix X.h.area S S' (partL X.h (X.h.number + X.parts.length) (X.h.place + X.used) false b)) : LawD X (X.h.turn + 1) S' ∨ LawD (X.add b) 1 S' := by
 have ha := h.says.area; have ht := h.says.turn; have hs := h.sum; have hnum := h.says.number
 have hsp := secsN_pos b.length
 have hup := usedOf_pos X.parts
 have hat : ∀ p, S' (atF X.h.area p) = S (atF X.h.area p) ∨ (atF X.h.area p, S' (atF X.h.area p)) ∈ partL X.h (X.h.number + X.parts.length) (X.h.place + X.used) false b := fun p => by
  obtain ⟨v, hv, e⟩ := atF_range (area := X.h.area) (p := p) (by omega)
  rw [e]; exact hm _ (by omega) (by omega)
 by_cases hw : ∀ k : Nat, k < secsN b.length → S' (atF X.h.area (X.h.place + X.used + k)) = cutF X.h.turn (X.h.number + X.parts.length) false b k
 ·right
  refine (h.add (τ' := 1) hb hr hn (by omega)).congr (fun i h1 h2 => ?_)
  have h2' : i < 2 + 2 * X.h.area := h2
  by_cases hk : ∃ k : Nat, k < secsN b.length ∧ atF X.h.area (X.h.place + X.used + k) = i
  ·obtain ⟨k, hk, e⟩ := hk
   rw [← e, hw k hk, layS_part (by omega) (by omega) k hk]
  ·rw [layS_part_other (fun k hk' e => hk ⟨k, hk', e⟩)]
   rcases hm i h1 h2' with e | e
   ·exact e
   ·obtain ⟨k, hk', e1, _⟩ := partL_mem e
    exact absurd ⟨k, hk', e1.symm⟩ hk
 ·left
  have hlow : ∀ i, 0 ≤ i → i < 2 → S' i = S i := fun i h1 h2 => by
   rcases hm i h1 (by omega) with e | e
   ·exact e
   ·obtain ⟨k, _, e1, _⟩ := partL_mem e
    exact absurd e1.symm (atF_ne (by omega) h2)
  refine ⟨h.sum, h.one, h.says, h.place, h.fits, h.next, by rw [hlow _ (by omega) (by omega)]; exact h.head, by rw [hlow _ (by omega) (by omega)]; exact h.other, PartsAt.congr X.parts 0 0 (fun v h1 h2 => ?_) h.parts, fun v h1 h2 => ?_, fun t c h1 h2 hc hl => ?_⟩
  ·rcases hat (X.h.place + v) with e | e
   ·exact e
   ·obtain ⟨k, hk, e1, _⟩ := partL_mem e
    rw [show X.h.place + X.used + (k : Int) = X.h.place + (X.used + k) by omega] at e1
    have := atF_inj (by omega) e1 (by omega) (by omega)
    omega
  ·rcases hm (2 + v) (by omega) (by omega) with e | e
   ·rw [e]
    exact (h.old v h1 h2).mono (.inr ⟨rfl, by omega⟩)
   ·obtain ⟨k, hk, _, e2⟩ := partL_mem e
    rw [e2]
    exact .inr ⟨_, _, _, _, _, rfl, by omega, hb, hk, by omega, .inr ⟨rfl, .inr (by omega)⟩⟩
  ·have hold : ∀ k : Nat, k < secsN c.length → S (atF X.h.area (X.h.place + X.used + k)) = cutF t (X.h.number + X.parts.length) false c k → t < τ := fun k hk e => by
    obtain ⟨v, hv, ev⟩ := atF_range (area := X.h.area) (p := X.h.place + X.used + k) (by omega)
    have := h.old v hv.1 hv.2
    rw [← ev, e] at this
    exact this.next (by have := h.next; omega) (by omega) hc (by unfold secsN at hk; omega)
   have hnew : ∀ k : Nat, k < secsN c.length → k < 1000 → (atF X.h.area (X.h.place + X.used + k), S' (atF X.h.area (X.h.place + X.used + k))) ∈ partL X.h (X.h.number + X.parts.length) (X.h.place + X.used) false b → t = X.h.turn := fun k hk _ e => by
    obtain ⟨j, hj, _, e2⟩ := partL_mem e
    have e3 := hl k hk
    rw [e2] at e3
    obtain ⟨c1, _⟩ := cutF_names (by omega) (by omega) (by omega) (by omega) (by unfold secsN at hj; omega) (by unfold secsN at hk; omega) hb hc e3
    exact c1.symm
   have hsc := secsN_pos c.length
   have hk1000 : ∀ k : Nat, k < secsN c.length → k < 1000 := fun k hk => by unfold secsN at hk; omega
   by_cases htt : t = X.h.turn
   ·subst htt
    refine hw ?_
    -- the first sector is new: so all are of this very part
    have h0 := hl 0 (by omega)
    rcases hat (X.h.place + X.used + ((0 : Nat) : Int)) with e | e
    ·have := hold 0 (by omega) (by rw [← e]; exact h0)
     omega
    ·obtain ⟨j, hj, e1, e2⟩ := partL_mem e
     have hj0 := atF_inj (p := X.h.place + X.used) (a := ((0 : Nat) : Int)) (b := (j : Int)) (area := X.h.area) (by omega) e1 (by omega) (by omega)
     obtain rfl : j = 0 := by omega
     rw [h0] at e2
     have hlen : c.length = b.length := by
      have g1 := cutF_len (turn := X.h.turn) (number := X.h.number + X.parts.length) (snap := false) hc
      have g2 := cutF_len (turn := X.h.turn) (number := X.h.number + X.parts.length) (snap := false) hb
      rw [e2, g2] at g1
      omega
     intro k hk
     have hkc : k < secsN c.length := by rw [hlen]; exact hk
     rcases hat (X.h.place + X.used + k) with q | q
     ·have := hold k hkc (by rw [← q]; exact hl k hkc)
      omega
     ·obtain ⟨m, hm', e3, e4⟩ := partL_mem q
      have hmk : m = k := by
       by_cases hle : k ≤ m
       ·have := atF_inj (p := X.h.place + X.used) (area := X.h.area) (by omega) e3 (by omega) (by omega)
        omega
       ·have := atF_inj (p := X.h.place + X.used) (area := X.h.area) (by omega) e3.symm (by omega) (by omega)
        omega
      rw [e4, hmk]
   ·refine h.none t c h1 h2 hc (fun k hk => ?_)
    rcases hat (X.h.place + X.used + k) with q | q
    ·rw [← q]; exact hl k hk
    ·exact absurd (hnew k hk (hk1000 k hk) q) htt

theorem LawD.crash_snap {X : Lg} {τ : Int} {S S' : Int → List Int} (h : LawD X τ S) {b : List Int} (hb : b.length ≤ 40000) (hr : (secsN b.length : Int) ≤ X.h.area)
  (hm : Mix X.h.area S S' (partL X.h X.cpH.number X.cpH.place true b)) : LawD X τ S' := by
 have ha := h.says.area; have ht := h.says.turn; have hs := h.sum; have hnum := h.says.number; have hnx := h.next
 have hfit := h.fits
 have hup := usedOf_pos X.parts
 have hshift : ∀ k : Nat, atF X.h.area (X.cpH.place + k) = atF X.h.area (X.h.place + (X.used + k)) := fun k => by
  show atF X.h.area ((X.h.place + X.used) % (2 * X.h.area) + k) = _
  rw [atF_shift, show X.h.place + X.used + (k : Int) = X.h.place + (X.used + k) by omega]
 have hat : ∀ p, S' (atF X.h.area p) = S (atF X.h.area p) ∨ (atF X.h.area p, S' (atF X.h.area p)) ∈ partL X.h X.cpH.number X.cpH.place true b := fun p => by
  obtain ⟨v, hv, e⟩ := atF_range (area := X.h.area) (p := p) (by omega)
  rw [e]; exact hm _ (by omega) (by omega)
 have hlow : ∀ i, 0 ≤ i → i < 2 → S' i = S i := fun i h1 h2 => by
  rcases hm i h1 (by omega) with e | e
  ·exact e
  ·obtain ⟨k, _, e1, _⟩ := partL_mem e
   exact absurd e1.symm (atF_ne (by omega) h2)
 refine ⟨h.sum, h.one, h.says, h.place, h.fits, h.next, by rw [hlow _ (by omega) (by omega)]; exact h.head, by rw [hlow _ (by omega) (by omega)]; exact h.other, PartsAt.congr X.parts 0 0 (fun v h1 h2 => ?_) h.parts, fun v h1 h2 => ?_, fun t c h1 h2 hc hl => ?_⟩
 ·rcases hat (X.h.place + v) with e | e
  ·exact e
  ·obtain ⟨k, hk, e1, _⟩ := partL_mem e
   rw [hshift] at e1
   have := atF_inj (by omega) e1 (by omega) (by omega)
   omega
 ·rcases hm (2 + v) (by omega) (by omega) with e | e
  ·rw [e]
   exact h.old v h1 h2
  ·obtain ⟨k, hk, _, e2⟩ := partL_mem e
   rw [e2]
   exact .inr ⟨_, _, _, _, _, rfl, by omega, hb, hk, by show 0 ≤ X.h.number + (X.parts.length : Int); omega, .inr ⟨rfl, .inl rfl⟩⟩
 ·refine h.none t c h1 h2 hc (fun k hk => ?_)
  rcases hat (X.h.place + X.used + k) with q | q
  ·rw [← q]; exact hl k hk
  ·obtain ⟨j, hj, _, e2⟩ := partL_mem q
   have e3 := hl k hk
   rw [e2] at e3
   have c3 := cutF_snap (by omega) (by omega) (by show 0 ≤ X.h.number + (X.parts.length : Int) ∧ X.h.number + (X.parts.length : Int) ≤ _; omega) (by omega) (by unfold secsN at hj; omega) (by unfold secsN at hk; omega) hb hc e3
   cases c3

theorem Mix.laid {area : Int} {S : Int → List Int} {h : Hd} {number place : Int} {snap : Bool} {b : List Int} (ha : h.area = area) (h1 : 1 ≤ area) (hs : (secsN b.length : Int) ≤ 2 * area) : Mix area S (layS S (partL h number place snap b)) (partL h number place snap b) := by
 intro i _ _
 by_cases hk : ∃ k : Nat, k < secsN b.length ∧ atF h.area (place + k) = i
 ·obtain ⟨k, hk, e⟩ := hk
  right
  rw [← e, layS_part (by omega) (by omega) k hk]
  exact List.mem_map.2 ⟨k, by simpa using hk, rfl⟩
 ·left
  exact layS_part_other (fun k hk' e => hk ⟨k, hk', e⟩)

theorem LawD.crash_head {X : Lg} {τ : Int} {S S' : Int → List Int} (h : LawD X τ S) {b : List Int} (hb : b.length ≤ 40000) (hr : (secsN b.length : Int) ≤ X.h.area) (hn : X.h.number + X.parts.length ≤ 1073741824) (ht1 : X.h.turn < 1073741824)
  (hm : Mix X.h.area (layS S (partL X.h X.cpH.number X.cpH.place true b)) S' [X.cpH.laid]) : LawD X τ S' ∨ LawD ((⟨X.cpH, [], 0, false⟩ : Lg).add b) 1 S' := by
 have ha := h.says.area
 have h1 := h.crash_snap hb hr (Mix.laid rfl (by omega) (by omega))
 by_cases hx : S' X.cpH.laid.1 = X.cpH.laid.2
 ·right
  refine (h.cp (τ' := 1) hb hr hn ht1 (by omega)).congr (fun i g1 g2 => ?_)
  have g2' : i < 2 + 2 * X.h.area := g2
  by_cases hi : i = X.cpH.laid.1
  ·rw [hi, hx]
   exact (layS_mem _ _ (List.pairwise_singleton ..) (List.mem_singleton.2 rfl)).symm
  ·rw [layS_other _ _ (by intro x hx; simp at hx; subst hx; exact fun e => hi e.symm)]
   rcases hm i g1 g2' with e | e
   ·exact e
   ·simp only [List.mem_singleton] at e
    exact absurd (congrArg Prod.fst e) hi
 ·left
  refine h1.congr (fun i g1 g2 => ?_)
  rcases hm i g1 g2 with e | e
  ·exact e
  ·simp only [List.mem_singleton] at e
   have e1 := congrArg Prod.fst e; have e2 := congrArg Prod.snd e
   simp only at e1 e2
   rw [e1] at e2
   exact absurd e2 hx

end Go.Proofs.YtbimkhdiplnbfaaGreat
end

section
namespace Go.Proofs.YtbimkhdiplnbfaaGreat
set_option maxRecDepth 100000
open Go.RowKit Go.Shelf

end Go.Proofs.YtbimkhdiplnbfaaGreat
end

section
namespace Go.Proofs.YtbimkhdiplnbfaaGreat
set_option maxRecDepth 100000
open Go.RowKit

theorem Dk.Good.alive {D : Dk} {N : Nat} (h : D.Good N) {l : List (Int × List Int)} (hN : 0 < N) (hl : ∀ x ∈ l, 0 ≤ x.1 ∧ x.1 < N) : (D.lays l).row = [] := (lays_done l D (h.lays l hN hl).1).2.1

end Go.Proofs.YtbimkhdiplnbfaaGreat
end

section
namespace Go.Proofs.YtbimkhdiplnbfaaGreat
set_option maxRecDepth 100000
open Go.RowKit

theorem laid_raw (X : Lg) : raw [headSc X.cpH] = [X.cpH.laid] := rfl

end Go.Proofs.YtbimkhdiplnbfaaGreat
end

section
namespace Go.Proofs.YtbimkhdiplnbfaaGreat
open Go.RowKit

structure LiveN (N : Nat) (A : Int) (X : Lg) (D : Dk) : Prop where
 ok : X.Ok
 unbroken : X.broken = false
 law : LawD X X.h.turn D.S
 row : D.row = []
 dead : D.dead = false
 len : D.arr.length = N
 fit : 2 + 2 * A ≤ N
 area : X.h.area = A

def ShakyN (N : Nat) (A : Int) (D : Dk) (P1 P2 : List (List Int)) (T M : Int) : Prop := D.arr.length = N ∧ ∀ keep, ∃ Y τ, LawD Y τ (D.crash keep).S ∧ τ ≤ Y.h.turn + 1 ∧ Y.h.area = A ∧ (Y.parts = P1 ∨ Y.parts = P2) ∧ Y.h.turn ≤ T ∧ Y.h.number + Y.parts.length ≤ M

theorem mix_crashN {N : Nat} {A : Int} (hNA : 2 + 2 * A ≤ N) {D D' : Dk} {l : List (Int × List Int)} (h : D'.Vers D.S l) (hl : D'.arr.length = N) (keep : List Bool) : Mix A D.S (D'.crash keep).S l :=
 fun i h1 h2 => h.crash keep h1 (by omega)

theorem LiveN.vers {N : Nat} {A : Int} {X : Lg} {D : Dk} (h : LiveN N A X D) (l : List (Int × List Int)) (hl : ∀ x ∈ l, 0 ≤ x.1) : (D.lays l).Vers D.S l :=
 Dk.Vers.lays l (Dk.Vers.start h.row l) (fun x hx => ⟨hx, hl x hx⟩)

theorem LiveN.shaky {N : Nat} {A : Int} {X : Lg} {D : Dk} {P2 : List (List Int)} {T M : Int} (h : LiveN N A X D) (ht : X.h.turn ≤ T) (hm : X.h.number + X.parts.length ≤ M) : ShakyN N A D X.parts P2 T M := by
 refine ⟨h.len, fun keep => ⟨X, X.h.turn, h.law.congr (fun i h1 h2 => ?_), by omega, h.area, .inl rfl, ht, hm⟩⟩
 have ha := h.area; have hl := h.len; have hfit := h.fit; have har := h.ok.area
 have hm := mix_crashN h.fit (D := D) (l := []) (Dk.Vers.start h.row []) h.len keep i h1 (by omega)
 rcases hm with e | e
 ·exact e
 ·cases e

theorem LiveN.add {N : Nat} {A : Int} {X : Lg} {D : Dk} (h : LiveN N A X D) {b : List Int} (hb : Bytes b) (hl : b.length ≤ 40000) (hr : X.used + secsN b.length ≤ X.h.area) (hn : X.h.number + X.parts.length ≤ 1073741824) (he : D.laysE (X.apS b hb) = 0) : LiveN N A (X.add b) (D.lays (X.apS b hb)) := by
 obtain ⟨h1, h2, h3⟩ := lays_done (X.apS b hb) D he
 have hlen := h.len; have ha := h.area; have hfit := h.fit; have har := h.ok.area
 have hpl : (X.parts.length : Int) ≤ X.used := by rw [h.law.sum]; exact len_le_used _
 have hsp := secsN_pos b.length
 have hf := h.law.fits
 have ht := h.law.says.turn
 refine ⟨h.ok.add hb hl hr (by omega), h.unbroken, ?_, h2, h3, by rw [lays_len]; exact hlen, hfit, h.area⟩
 refine ((h.law.add (τ' := 1) hl hr (by omega) (by omega)).congr (fun i g1 g2 => ?_)).live (by show 1 ≤ X.h.turn; omega)
 have g2' : i < 2 + 2 * X.h.area := g2
 rw [h1 i g1 (by omega)]
 unfold Lg.apS
 rw [partL_raw]

theorem LiveN.add_shaky {N : Nat} {A : Int} {X : Lg} {D : Dk} (h : LiveN N A X D) {b : List Int} (hb : Bytes b) (hl : b.length ≤ 40000) (hr : X.used + secsN b.length ≤ X.h.area) (hn : X.h.number + X.parts.length ≤ 1073741824) {T M : Int} (hT : X.h.turn ≤ T) (hM : X.h.number + X.parts.length + 1 ≤ M) : ShakyN N A (D.lays (X.apS b hb)) X.parts (X.parts ++ [b]) T M := by
 have hlen := h.len; have ha := h.area; have hfit := h.fit; have har := h.ok.area
 refine ⟨by rw [lays_len]; exact hlen, fun keep => ?_⟩
 have hbd : ∀ x ∈ X.apS b hb, 0 ≤ x.1 ∧ x.1 < N := partSc_bound hb (by omega) (by omega)
 have hm := mix_crashN h.fit (h.vers (X.apS b hb) (fun x hx => (hbd x hx).1)) (by rw [lays_len]; exact hlen) keep
 have hm' : Mix X.h.area D.S ((D.lays (X.apS b hb)).crash keep).S (partL X.h (X.h.number + X.parts.length) (X.h.place + X.used) false b) := by
  rw [ha]
  rw [show X.apS b hb = partL X.h (X.h.number + X.parts.length) (X.h.place + X.used) false b from partL_raw hb] at hm ⊢
  exact hm
 rcases h.law.crash_add (Int.le_refl _) hl hr (by omega) hm' with q | q
 ·exact ⟨X, _, q, Int.le_refl _, ha, .inl rfl, hT, by omega⟩
 ·exact ⟨X.add b, 1, q, by have := h.law.says.turn; show 1 ≤ X.h.turn + 1; omega, ha, .inr rfl, hT, by show X.h.number + ((X.parts ++ [b]).length : Int) ≤ M; simp; omega⟩

theorem LiveN.cp {N : Nat} {A : Int} {X : Lg} {D : Dk} (h : LiveN N A X D) {b : List Int} (hb : Bytes b) (hl : b.length ≤ 40000) (hr : (secsN b.length : Int) ≤ X.h.area) (hn : X.h.number + X.parts.length ≤ 1073741824) (ht : X.h.turn < 1073741824) (he : X.cpE D b hb = 0) : LiveN N A (X.cp b 0) (X.cpD D b hb) := by
 have hlen := h.len; have ha := h.area; have hfit := h.fit; have har := h.ok.area; have h1 := h.ok.turn; have h2 := h.ok.place; have h3 := h.ok.number; have h4 := h.ok.used
 have e1 : D.laysE (X.cpS b hb) = 0 := by
  unfold Lg.cpE at he
  split at he
  ·assumption
  ·exact he
 have e2 : (D.lays (X.cpS b hb)).laysE (raw [headSc X.cpH]) = 0 := by
  unfold Lg.cpE at he
  rwa [if_pos e1] at he
 obtain ⟨s1, r1, d1⟩ := lays_done _ _ e1
 obtain ⟨s2, r2, d2⟩ := lays_done _ _ e2
 have hnp0 := Int.emod_nonneg (X.h.place + X.used) (b := 2 * X.h.area) (by omega)
 have hnp1 := Int.emod_lt_of_pos (X.h.place + X.used) (b := 2 * X.h.area) (by omega)
 have hok2 : (⟨X.cpH, [], 0, false⟩ : Lg).Ok := ⟨(by show 0 ≤ X.h.turn + 1 ∧ X.h.turn + 1 ≤ 1073741824; omega), h.ok.area, (by show 0 ≤ (X.h.place + X.used) % (2 * X.h.area) ∧ (X.h.place + X.used) % (2 * X.h.area) ≤ 100000; omega), (by show 0 ≤ X.h.number + X.parts.length ∧ X.h.number + X.parts.length ≤ 1073741825; omega), (by show (0 : Int) ≤ 0 ∧ (0 : Int) ≤ 1000; omega), (by simp), (by simp)⟩
 unfold Lg.cpD Lg.cp
 rw [if_pos e1, if_pos rfl]
 refine ⟨hok2.add hb hl (by show (0 : Int) + secsN b.length ≤ X.h.area; omega) (by simp), rfl, ?_, r2, d2, by rw [lays_len, lays_len]; exact hlen, hfit, ha⟩
 refine ((h.law.cp (τ' := 1) hl hr hn ht (by omega)).congr (fun i g1 g2 => ?_)).live (by have := h.law.says.turn; show 1 ≤ X.h.turn + 1; omega)
 have g2' : i < 2 + 2 * X.h.area := g2
 rw [s2 i g1 (by rw [lays_len]; omega), laid_raw]
 refine layS_congr (N := N) _ _ _ (fun j g3 g4 => ?_) i g1 (by omega)
 rw [s1 j g3 (by omega)]
 unfold Lg.cpS
 rw [partL_raw]

theorem LiveN.cp_shaky {N : Nat} {A : Int} {X : Lg} {D : Dk} (h : LiveN N A X D) {b : List Int} (hb : Bytes b) (hl : b.length ≤ 40000) (hr : (secsN b.length : Int) ≤ X.h.area) (hn : X.h.number + X.parts.length ≤ 1073741824) (ht : X.h.turn < 1073741824) {T M : Int} (hT : X.h.turn + 1 ≤ T) (hM : X.h.number + X.parts.length + 1 ≤ M) : ShakyN N A (X.cpD D b hb) X.parts [b] T M := by
 have hlen := h.len; have ha := h.area; have hfit := h.fit; have har := h.ok.area
 have hbd : ∀ x ∈ X.cpS b hb, 0 ≤ x.1 ∧ x.1 < N := partSc_bound hb (by omega) (by omega)
 have hcs : X.cpS b hb = partL X.h X.cpH.number X.cpH.place true b := partL_raw hb
 by_cases e1 : D.laysE (X.cpS b hb) = 0
 ·obtain ⟨s1, r1, d1⟩ := lays_done _ _ e1
  unfold Lg.cpD
  rw [if_pos e1]
  refine ⟨by rw [lays_len, lays_len]; exact hlen, fun keep => ?_⟩
  have hb2 : ∀ x ∈ raw [headSc X.cpH], 0 ≤ x.1 ∧ x.1 < N := headSc_bound (by omega)
  have hv : ((D.lays (X.cpS b hb)).lays (raw [headSc X.cpH])).Vers (D.lays (X.cpS b hb)).S (raw [headSc X.cpH]) := Dk.Vers.lays _ (Dk.Vers.start r1 _) (fun x hx => ⟨hx, (hb2 x hx).1⟩)
  have hm := mix_crashN h.fit hv (by rw [lays_len, lays_len]; exact hlen) keep
  have hm' : Mix X.h.area (layS D.S (partL X.h X.cpH.number X.cpH.place true b)) (((D.lays (X.cpS b hb)).lays (raw [headSc X.cpH])).crash keep).S [X.cpH.laid] := by
   intro i g1 g2
   have := hm i g1 (by omega)
   rw [s1 i g1 (by omega), hcs] at this
   rw [← laid_raw, hcs]
   exact this
  rcases h.law.crash_head hl hr hn ht hm' with q | q
  ·exact ⟨X, _, q, by omega, ha, .inl rfl, by omega, by omega⟩
  ·exact ⟨_, 1, q, by have := h.law.says.turn; show 1 ≤ X.h.turn + 1 + 1; omega, ha, .inr rfl, hT, by show X.h.number + (X.parts.length : Int) + ((1 : Nat) : Int) ≤ M; omega⟩
 ·unfold Lg.cpD
  rw [if_neg e1]
  refine ⟨by rw [lays_len]; exact hlen, fun keep => ?_⟩
  have hm := mix_crashN h.fit (h.vers (X.cpS b hb) (fun x hx => (hbd x hx).1)) (by rw [lays_len]; exact hlen) keep
  have hm' : Mix X.h.area D.S ((D.lays (X.cpS b hb)).crash keep).S (partL X.h X.cpH.number X.cpH.place true b) := by
   rw [ha]
   rw [hcs] at hm ⊢
   exact hm
  exact ⟨X, _, h.law.crash_snap hl hr hm', by omega, ha, .inl rfl, by omega, by omega⟩

end Go.Proofs.YtbimkhdiplnbfaaGreat
end

section
namespace Go.Proofs.YtbimkhdiplnbfaaGreat
open Go.RowKit

structure Dk.Armed (D : Dk) (N : Nat) : Prop where
 dead : D.dead = false
 fail : D.fail = -1
 len : D.arr.length = N

def Dk.Same (D D' : Dk) : Prop := D'.arr = D.arr ∧ D'.row = D.row
theorem Dk.Same.S {D D' : Dk} (h : D.Same D') : D'.S = D.S := by
 funext i
 unfold Dk.S Dk.shows Dk.vers
 rw [h.1, h.2]
theorem Dk.Same.refl (D : Dk) : D.Same D := ⟨rfl, rfl⟩
theorem Dk.Same.trans {A B C : Dk} (h : A.Same B) (k : B.Same C) : A.Same C := ⟨k.1.trans h.1, k.2.trans h.2⟩

theorem Dk.Armed.callR {D : Dk} {N : Nat} (h : D.Armed N) {i : Int} (hi : 0 ≤ i ∧ i < N) : D.callE i false = 0 ∧ (D.callD i false).Armed N ∧ D.reads i = D.S i ∧ D.Same (D.callD i false) := by
 obtain ⟨h1, h3, h4⟩ := h
 have n1 : ¬ (i < 0 ∨ (D.arr.length : Int) ≤ i) := by omega
 have e : D.callD i false = { D with fail := max (D.fail - 1) (-1), ops := D.ops + 1 } := by
  simp [Dk.callD, h1, h3, n1]
 have hr : D.callR i false = true := by simp [Dk.callR, h1, h3]; omega
 refine ⟨by simp [Dk.callE, h1, h3, n1], ?_, by unfold Dk.reads Dk.S; rw [if_pos hr], ?_⟩
 ·rw [e]
  exact ⟨h1, by show max (D.fail - 1) (-1) = -1; omega, h4⟩
 ·rw [e]; exact ⟨rfl, rfl⟩

theorem goD_armed {h : Hd} {number place turn : Int} {snap : Bool} {N : Nat} (ha : 1 ≤ h.area) (hN : 2 + 2 * h.area ≤ N) : ∀ (m k : Nat) (b : List Int) (D : Dk), D.Armed N → ∃ D', goD h number place turn snap m k b D = (goS D.S h number place turn snap m k b, 0, D') ∧ D'.Armed N ∧ D.Same D'
 | 0, _, _, D, hg => ⟨D, rfl, hg, Dk.Same.refl D⟩
 |m + 1, k, b, D, hg => by
  have hb := atF_bound (area := h.area) (place := place + k) ha
  obtain ⟨h1, h2, h3, h4⟩ := hg.callR (i := atF h.area (place + k)) (by omega)
  unfold goD goS
  rw [if_pos h1, h3]
  split
  ·obtain ⟨D', e1, e2, e3⟩ := goD_armed ha hN m (k + 1) (overF b (48 * k - 4) ((D.S (atF h.area (place + k))).drop 16)) _ h2
   rw [h4.S] at e1
   exact ⟨D', e1, e2, h4.trans e3⟩
  ·exact ⟨_, rfl, h2, h4⟩

theorem wholeD_armed {h : Hd} {number place left : Int} {snap : Bool} {N : Nat} {D : Dk} (ha : 1 ≤ h.area) (hN : 2 + 2 * h.area ≤ N) (hg : D.Armed N) : ∃ D', wholeD h number place snap left D = (wholeS D.S h number place snap left, 0, D') ∧ D'.Armed N ∧ D.Same D' := by
 have hb := atF_bound (area := h.area) (place := place) ha
 obtain ⟨h1, h2, h3, h4⟩ := hg.callR (i := atF h.area place) (by omega)
 unfold wholeD wholeS
 by_cases hl0 : left = 0
 ·rw [if_pos hl0, if_pos hl0]; exact ⟨D, rfl, hg, Dk.Same.refl D⟩
 ·rw [if_neg hl0, if_neg hl0, if_pos h1, h3]
  by_cases hs : Starts h left (D.S (atF h.area place))
  ·rw [if_pos hs]
   by_cases hc : cutF (startT (D.S (atF h.area place))) number snap (startB (D.S (atF h.area place))) 0 = D.S (atF h.area place)
   ·rw [if_pos hc, if_pos ⟨hs, hc⟩]
    obtain ⟨D', e1, e2, e3⟩ := goD_armed (number := number) (place := place) (turn := startT (D.S (atF h.area place))) (snap := snap) ha hN (secsN (startN (D.S (atF h.area place))).toNat - 1) 1 (startB (D.S (atF h.area place))) _ h2
    rw [h4.S] at e1
    exact ⟨D', e1, e2, h4.trans e3⟩
   ·rw [if_neg hc, if_neg (fun q => hc q.2)]
    exact ⟨_, rfl, h2, h4⟩
  ·rw [if_neg hs, if_neg (fun q => hs q.1)]
   exact ⟨_, rfl, h2, h4⟩

theorem foundD_armed {h : Hd} {N : Nat} (ha : 1 ≤ h.area) (hN : 2 + 2 * h.area ≤ N) : ∀ (f : Nat) (ps : List (List Int)) (u : Int) (D : Dk), D.Armed N → ∃ D', foundD h f ps u D = (foundS D.S h f ps u, 0, D') ∧ D'.Armed N ∧ D.Same D'
 | 0, ps, u, D, hg => ⟨D, rfl, hg, Dk.Same.refl D⟩
 |f + 1, ps, u, D, hg => by
  obtain ⟨D', e1, e2, e3⟩ := wholeD_armed (number := h.number + ps.length) (place := h.place + u) (left := h.area - u) (snap := decide (ps = [])) ha hN hg
  unfold foundD foundS
  rw [e1]
  rcases wholeS D.S h (h.number + ps.length) (h.place + u) (decide (ps = [])) (h.area - u) with _ | b
  ·exact ⟨D', rfl, e2, e3⟩
  ·obtain ⟨D2, g1, g2, g3⟩ := foundD_armed ha hN f (ps ++ [b]) (u + secsN b.length) D' e2
   rw [e3.S] at g1
   exact ⟨D2, g1, g2, e3.trans g3⟩

theorem Dk.Armed.callW {D : Dk} {N : Nat} (h : D.Armed N) {i : Int} (hi : 0 ≤ i ∧ i < N) : (D.callE i true = 0 ∧ (D.callD i true).Armed N) ∨ D.callE i true = 9 := by
 obtain ⟨h1, h3, h4⟩ := h
 have n1 : ¬ (i < 0 ∨ (D.arr.length : Int) ≤ i) := by omega
 by_cases ha : D.arm = 0
 ·right
  simp [Dk.callE, h1, n1, ha]
 ·left
  have e : D.callD i true = { D with fail := max (D.fail - 1) (-1), ops := D.ops + 1, arm := max (D.arm - 1) (-1) } := by
   simp [Dk.callD, h1, h3, n1, ha]
  refine ⟨by simp [Dk.callE, h1, h3, n1, ha], ?_⟩
  rw [e]
  exact ⟨h1, by show max (D.fail - 1) (-1) = -1; omega, h4⟩

theorem Dk.Armed.lays {N : Nat} (hN : 0 < N) : ∀ (l : List (Int × List Int)) (D : Dk), D.Armed N → (∀ x ∈ l, 0 ≤ x.1 ∧ x.1 < N) → (D.laysE l = 0 ∧ (D.lays l).Armed N) ∨ D.laysE l = 9
 | [], D, h, _ => by
  rcases h.callW (i := 0) (by omega) with ⟨e, g⟩ | e
  ·left
   refine ⟨e, ?_⟩
   show D.sync.Armed N
   unfold Dk.sync
   rw [if_pos e]
   exact ⟨g.dead, g.fail, by simp [Dk.arrive]; exact g.len⟩
  ·exact .inr e
 | (i, b) :: l, D, h, hl => by
  have hi := hl (i, b) (List.mem_cons_self ..)
  rcases h.callW hi with ⟨e, g⟩ | e
  ·have hw : (D.write i b).Armed N := by
    unfold Dk.write
    split
    ·exact ⟨g.dead, g.fail, g.len⟩
    ·exact g
   have ih := Dk.Armed.lays hN l (D.write i b) hw (fun x hx => hl x (List.mem_cons_of_mem _ hx))
   unfold Dk.laysE Dk.lays
   rw [if_pos e, if_pos e]
   exact ih
  ·right
   unfold Dk.laysE
   rw [if_neg (by rw [e]; decide), e]

theorem openD_armed {X : Lg} {τ : Int} {D : Dk} {N K : Nat} (h : LawD X τ D.S) (hg : D.Armed N) (hok : D.Ok K) (hN : 2 + 2 * X.h.area ≤ N) (ht : X.h.turn < 1073741824) (hτ : τ ≤ X.h.turn + 1) :
  ∃ D2, D2.Armed N ∧ D.Same D2 ∧ ((D2.laysE (raw [headSc X.on.h]) = 0 ∧ openD D = (some X.on, 0, D2.lays (raw [headSc X.on.h])) ∧ (D2.lays (raw [headSc X.on.h])).Armed N) ∨ (D2.laysE (raw [headSc X.on.h]) = 9 ∧ openD D = (none, 9, D2.lays (raw [headSc X.on.h])))) := by
 have ha := h.says.area
 obtain ⟨e0, g0, r0, s0⟩ := hg.callR (i := 0) (by omega)
 obtain ⟨e1, g1, r1, s1⟩ := g0.callR (i := 1) (by omega)
 have hc := h.counts
 have s01 := s0.trans s1
 obtain ⟨D2, f1, f2, f3⟩ := foundD_armed (h := X.h) (N := N) (by omega) hN 1001 [] 0 ((D.callD 0 false).callD 1 false) g1
 have hlen : (X.parts.length : Int) ≤ X.used := by rw [h.sum]; exact len_le_used _
 have hfit := h.fits
 rw [s01.S, h.found (startN_nonneg hok) (by omega)] at f1
 have hb := headSc_bound (h := X.on.h) (N := N) (by omega)
 have hop : openD D = openL X.on.h X.parts D2 := by
  unfold openD
  rw [if_pos e0, if_pos e1, r0, r1, s0.S, hc]
  unfold openH
  rw [if_neg (by have := g1.len; simp; omega)]
  show openP X.h (foundD X.h 1001 [] 0 _) = _
  rw [f1]
  unfold openP
  rw [if_pos rfl, if_neg (by have := h.one; simp; exact ⟨this, by omega⟩)]
  rfl
 refine ⟨D2, f2, s01.trans f3, ?_⟩
 rcases Dk.Armed.lays (by omega) (raw [headSc X.on.h]) D2 f2 hb with ⟨l1, l2⟩ | l1
 ·refine .inl ⟨l1, ?_, l2⟩
  rw [hop]
  unfold openL
  rw [if_pos (by exact l1)]
  unfold Lg.on
  rw [h.sum]
  rfl
 ·refine .inr ⟨l1, ?_⟩
  rw [hop]
  unfold openL
  rw [if_neg (by rw [show D2.laysE [X.on.h.laid] = 9 from l1]; decide)]
  rw [show D2.laysE [X.on.h.laid] = 9 from l1]
  rfl

theorem LawD.crash_open {X : Lg} {τ : Int} {S S' : Int → List Int} (h : LawD X τ S) (ht : X.h.turn < 1073741824) (hτ : τ ≤ X.h.turn + 1) (hm : Mix X.h.area S S' [X.on.h.laid]) : LawD X τ S' ∨ LawD X.on (X.h.turn + 1) S' := by
 have ha := h.says.area
 by_cases hx : S' X.on.h.laid.1 = X.on.h.laid.2
 ·right
  refine (h.opened ht hτ).congr (fun i g1 g2 => ?_)
  have g2' : i < 2 + 2 * X.h.area := g2
  by_cases hi : i = X.on.h.laid.1
  ·rw [hi, hx]
   exact (layS_mem _ _ (List.pairwise_singleton ..) (List.mem_singleton.2 rfl)).symm
  ·rw [layS_other _ _ (by intro x hx; simp at hx; subst hx; exact fun e => hi e.symm)]
   rcases hm i g1 g2' with e | e
   ·exact e
   ·simp only [List.mem_singleton] at e
    exact absurd (congrArg Prod.fst e) hi
 ·left
  refine h.congr (fun i g1 g2 => ?_)
  rcases hm i g1 g2 with e | e
  ·exact e
  ·simp only [List.mem_singleton] at e
   have e1 := congrArg Prod.fst e; have e2 := congrArg Prod.snd e
   simp only at e1 e2
   rw [e1] at e2
   exact absurd e2 hx
end Go.Proofs.YtbimkhdiplnbfaaGreat
end

