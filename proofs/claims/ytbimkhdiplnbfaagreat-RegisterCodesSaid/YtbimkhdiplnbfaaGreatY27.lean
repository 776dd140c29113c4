/- Walks: Open. -/
import Derived.Test.YtbimkhdiplnbfaaGreatY19
import Derived.Test.YtbimkhdiplnbfaaGreatY20
import Derived.Test.YtbimkhdiplnbfaaGreatY24
import Derived.Sort.LoopGhostIn
import Derived.Sort.CutIn
import Derived.Maps.AppendAt
set_option linter.unusedVariables false
set_option linter.unusedSimpArgs false

section
namespace Go.Proofs.YtbimkhdiplnbfaaGreat
set_option maxRecDepth 100000
open Go.RowKit Go.Shelf

def openL (hd : Hd) (ps : List (List Int)) (D : Dk) : Option Lg × Int × Dk :=
  if D.laysE [hd.laid] = 0 then (some ⟨hd, ps, usedOf ps, false⟩, 0, D.lays [hd.laid]) else (none, D.laysE [hd.laid], D.lays [hd.laid])
def openP (hd : Hd) (R : List (List Int) × Int × Dk) : Option Lg × Int × Dk :=
  if R.2.1 = 0 then (if R.1 = [] ∨ hd.turn = 1073741824 then (none, 140, R.2.2) else openL { hd with turn := hd.turn + 1 } R.1 R.2.2) else (none, R.2.1, R.2.2)
noncomputable def openH (c : Hd × Bool) (D : Dk) : Option Lg × Int × Dk :=
  if c.2 = false ∨ (D.arr.length : Int) < 2 + 2 * c.1.area then (none, 140, D) else openP c.1 (foundD c.1 1001 [] 0 D)
/-- What Open gives; an error; the disk. -/
noncomputable def openD (D : Dk) : Option Lg × Int × Dk :=
  if D.callE 0 false = 0 then
    if (D.callD 0 false).callE 1 false = 0 then openH (countsF (D.reads 0) ((D.callD 0 false).reads 1)) ((D.callD 0 false).callD 1 false)
    else (none, (D.callD 0 false).callE 1 false, (D.callD 0 false).callD 1 false)
  else (none, D.callE 0 false, D.callD 0 false)

/-- What comes of Open. -/
def OpenAns (w : World) (p : Nat) (F : Nat → Prop) (R : Option Lg × Int × Dk) (N : Nat) (e : Ending) (w' : World) : Prop :=
  ∃ F', Dsk w' p R.2.2 F' ∧ (∀ k, F' k → F k ∨ w.heap.size ≤ k) ∧ Upd F w w' ∧ R.2.2.Ok (N + 1002000) ∧ match R.1 with
  | none => e = .returned (.tuple #[.pointer none, .int .i64 R.2.1])
  | some X => ∃ q G', e = .returned (.tuple #[.pointer (some ⟨q, 0, none⟩), .int .i64 0]) ∧ Log w' q p X G' ∧ (∀ k, G' k → w.heap.size ≤ k) ∧ (∀ k, G' k → ¬ F' k) ∧ X.Ok

theorem heap_setCells_at {w : World} {b o : Nat} {t : TypeId} {old vs : List Value} (h : w.heap[b]? = some (.cells old.toArray t (0, 0))) (hs : o + vs.length ≤ old.length) :
    (w.setCells b o vs).heap[b]? = some (.cells (old.take o ++ vs ++ old.drop (o + vs.length)).toArray t (0, 0)) := by
  rw [heap_setCells b t vs o w old.toArray h]
  have := splice_fold vs 0 o old.toArray (by simpa using hs)
  congr 2
  apply Array.toList_inj.1
  rw [this]
  simp

theorem there_sub {w : World} {b o m : Nat} {cs : Array Value} {t : TypeId} (h : w.heap[b]? = some (.cells cs t (0, 0))) (hs : o + m ≤ cs.size) : w.there b o m := fun j hj =>
  ⟨by rw [cell_of_heap h]; simp; omega, frozen_of_heap h⟩

theorem rangeAt_sub {w : World} {b o : Nat} {cs ds : List Value} {t : TypeId} (h : w.heap[b]? = some (.cells cs.toArray t (0, 0))) (hs : (cs.drop o).take ds.length = ds) : w.rangeAt b o ds := fun j v hj => by
  rw [cell_of_heap h, List.getElem?_toArray]
  have hjl := (List.getElem?_eq_some_iff.1 hj).1
  rw [← hs, List.getElem?_take_of_lt hjl, List.getElem?_drop] at hj
  exact hj

/-- Where the reading of the heads stands. -/
structure HdsAt (w : World) (p : Nat) (F : Nat → Prop) (a b : List Int) (D : Dk) (W : World) : Prop where
  dsk : Dsk W p D F
  upd : Upd F w W
  two : W.heap[w.heap.size]? = some (.cells (bcells a ++ bcells b).toArray 209 (0, 0))
  la : okBlk a
  lb : okBlk b

theorem HdsAt.kept {w W W' : World} {p : Nat} {F G : Nat → Prop} {a b : List Int} {D : Dk} (h : HdsAt w p F a b D W) (hu : Upd G W W') (hG : ∀ k, G k → w.heap.size < k) (hF : ∀ k, F k → k < w.heap.size) : HdsAt w p F a b D W' :=
  ⟨h.dsk.kept hu (fun k h1 h2 => by have := hG k h2; have := hF k h1; omega), h.upd.step hu (fun k h1 h2 => by have := hG k h2; omega), (hu.block _ (lt_of_heap h.two) (fun e => by have := hG _ e; omega)).trans h.two, h.la, h.lb⟩
theorem HdsAt.read {w W W' : World} {p : Nat} {F : Nat → Prop} {a b : List Int} {D D' : Dk} (h : HdsAt w p F a b D W) (hd' : Dsk W' p D' F) (hu : Upd F W W') (hF : ∀ k, F k → k < w.heap.size) : HdsAt w p F a b D' W' :=
  ⟨hd', h.upd.step hu (fun k _ h2 => h2), (hu.block _ (lt_of_heap h.two) (fun e => by have := hF _ e; omega)).trans h.two, h.la, h.lb⟩

/-- The heads that are read, at the k-th round. -/
def hdA (D : Dk) (k : Nat) : List Int := if k = 0 then zblk else D.reads 0
def hdB (D : Dk) (k : Nat) : List Int := if k ≤ 1 then zblk else (D.callD 0 false).reads 1
def hdD (D : Dk) (k : Nat) : Dk := if k = 0 then D else if k = 1 then D.callD 0 false else (D.callD 0 false).callD 1 false

theorem HdsAt.store {w W : World} {p : Nat} {F : Nat → Prop} {D : Dk} {k : Nat} {s : List Int} (h : HdsAt w p F (hdA D k) (hdB D k) (hdD D (k + 1)) W) (hk : k < 2) (hs : s = (hdD D k).reads (k : Int)) (hl : okBlk s) (hF : ∀ k, F k → k < w.heap.size) :
    HdsAt w p F (hdA D (k + 1)) (hdB D (k + 1)) (hdD D (k + 1)) (W.setCells w.heap.size (k * 64) (bcells s)) := by
  have hu : Upd (fun j => j = w.heap.size) W (W.setCells w.heap.size (k * 64) (bcells s)) := Upd.setCells (F := fun j => j = w.heap.size) rfl _ _ (Upd.refl _ W)
  have la := h.la.1; have lb := h.lb.1
  have hsl := hl.1
  have h2 := heap_setCells_at (o := k * 64) (vs := bcells s) h.two (by simp [bcells, la, lb, hsl]; omega)
  have hd := h.dsk.kept hu (fun j h1 h2 => by have := hF j h1; omega)
  have hup : Upd F w (W.setCells w.heap.size (k * 64) (bcells s)) := h.upd.step hu (fun j h1 h2 => by omega)
  have hk2 : k = 0 ∨ k = 1 := by omega
  rcases hk2 with rfl | rfl
  · refine ⟨hd, hup, ?_, by subst hs; exact hl, h.lb⟩
    rw [h2]
    have e1 : (bcells (hdA D 0) ++ bcells (hdB D 0)).drop (0 * 64 + (bcells s).length) = bcells (hdB D 0) := by
      rw [Nat.zero_mul, Nat.zero_add]
      exact List.drop_left' (by rw [bcells_length, bcells_length, la, hsl])
    rw [e1, hs]
    simp [hdA, hdB, hdD]
  · refine ⟨hd, hup, ?_, h.la, by subst hs; exact hl⟩
    rw [h2]
    have e1 : (bcells (hdA D 1) ++ bcells (hdB D 1)).drop (1 * 64 + (bcells s).length) = [] := by
      apply List.drop_eq_nil_of_le
      simp [bcells, la, lb, hsl]
    have e2 : (bcells (hdA D 1) ++ bcells (hdB D 1)).take (1 * 64) = bcells (hdA D 1) := List.take_left' (by rw [bcells_length, la])
    rw [e1, e2, hs]
    simp [hdA, hdB, hdD]

theorem hdD_ok {D : Dk} {N : Nat} (h : D.Ok N) (k : Nat) : (hdD D k).Ok (N + 2) := by
  unfold hdD
  split
  · exact Dk.Ok.mono h (by omega)
  · split
    · exact Dk.Ok.mono (h.callD _ _) (by omega)
    · exact Dk.Ok.mono ((h.callD _ _).callD _ _) (by omega)
theorem hdD_next {D : Dk} {k : Nat} (hk : k < 2) : (hdD D k).callD (k : Int) false = hdD D (k + 1) := by
  have hk2 : k = 0 ∨ k = 1 := by omega
  rcases hk2 with rfl | rfl <;> rfl
theorem openD_fails {D : Dk} {k : Nat} (hk : k < 2) (h0 : k = 1 → D.callE 0 false = 0) (he : (hdD D k).callE (k : Int) false ≠ 0) : openD D = (none, (hdD D k).callE (k : Int) false, hdD D (k + 1)) := by
  have hk2 : k = 0 ∨ k = 1 := by omega
  rcases hk2 with rfl | rfl
  · unfold openD
    rw [if_neg (by exact he)]
    rfl
  · unfold openD
    rw [if_pos (h0 rfl), if_neg (by exact he)]
    rfl

theorem Log.begin {w : World} {q p : Nat} {hd : Hd} (hq : w.heap[q]? = some (.cells #[.int .i64 hd.turn, .int .i64 hd.area, .int .i64 hd.place, .int .i64 hd.number, .pointer (some ⟨p, 0, none⟩), .slice none 0 0, .int .i64 0, .bool false] 193 (0, 0))) : Log w q p ⟨hd, [], 0, false⟩ (fun k => k = q) := by
  refine ⟨.slice none 0 0, [], ⟨hq, World.ownsRow_nil _ _ _ _, fun i v b hv => by simp at hv, fun k hk => by simp [Value.ownBlock] at hk, fun v k hv => by simp at hv⟩, fun k => ?_⟩
  simp [Gp, Value.ownBlock]

theorem Log.turned {w : World} {q p : Nat} {X : Lg} {G : Nat → Prop} (h : Log w q p X G) (t : Int) : Log (w.setCell ⟨q, 0, none⟩ (.int .i64 t)) q p { X with h := { X.h with turn := t } } G := by
  obtain ⟨PV, vs, h1, h2⟩ := h
  have hu := upd_own w q 0 (.int .i64 t)
  refine ⟨PV, vs, ⟨?_, ownsRow_any h1.row hu (fun k hk e => h1.nq k hk e), fun i v b hv hb => (h1.parts i v b hv hb).keptF hu (fun k hk e => (h1.nv v k (List.mem_of_getElem? hv) hk).1 e), h1.nq, h1.nv⟩, h2⟩
  have := blk_set (i := 0) (v := .int .i64 t) h1.main
  simpa [Lg.cells] using this

theorem countsF_says {a b : List Int} (ha : Bytes a) (hb : Bytes b) (h : (countsF a b).2 = true) : (countsF a b).1.Says ∧ 0 ≤ (countsF a b).1.place := by
  have hp : ∀ s, Bytes s → 0 ≤ (readF s).place := fun s hs => be_nonneg (fun x hx => hs x (List.mem_of_mem_drop hx))
  unfold countsF at h ⊢
  split at h
  · rename_i h1
    rw [if_pos h1]
    exact ⟨((hOk_iff a).1 h1.1).1, hp a ha⟩
  · rename_i h1
    rw [if_neg h1]
    exact ⟨((hOk_iff b).1 h).1, hp b hb⟩

set_option maxRecDepth 100000 in
set_option maxHeartbeats 8000000 in
theorem open_any {p : Nat} {F : Nat → Prop} {D : Dk} {N : Nat} (w : World) (hD : Dsk w p D F) (hdok : D.Ok N) (hN : N ≤ 1099500000000) :
    Calls Tryz.prog 61 #[.pointer (some ⟨p, 0, none⟩)] w fun e w' => OpenAns w p F (openD D) N e w' := by
  have hFL := hD.lt
  obtain ⟨R, hR⟩ : ∃ R, R = openD D := ⟨_, rfl⟩
  rw [← hR]
  have hu1 : Upd (fun _ => False) w (w.alloc (.cells (bcells zblk ++ bcells zblk).toArray 209)) := (Upd.refl _ w).alloc _
  have hat : HdsAt w p F (hdA D 0) (hdB D 0) (hdD D 0) (w.alloc (.cells (bcells zblk ++ bcells zblk).toArray 209)) := ⟨hD.kept hu1 (fun _ _ e => e), hu1.mono (fun _ _ e => e.elim), alloc_at rfl, zblk_ok, zblk_ok⟩
  obtain ⟨w1, hw1⟩ : ∃ w1, w1 = w.alloc (.cells (bcells zblk ++ bcells zblk).toArray 209) := ⟨_, rfl⟩
  rw [← hw1] at hat
  have HAT := Lib.hid hat; have HOK := Lib.hid hdok; have HFL := Lib.hid hFL; have HR := Lib.hid hR
  clear hD hdok hFL hR hu1 hat
  go_enter Tryz.func61, Tryz.ntmps61
  go_upto_region 2 with fail
  refine (?_ : Code.wp _ _ _ _ (w.alloc (.cells (bcells zblk ++ bcells zblk).toArray 209)))
  rw [← hw1]
  clear hw1
  go_upto_region 3 with fail
  go_loopg [13] 2 (fun gk i wr => ∃ k : Nat, k ≤ 2 ∧ gk = 2 - k ∧ i = .int .i64 k ∧ (1 ≤ k → D.callE 0 false = 0) ∧ (2 ≤ k → (D.callD 0 false).callE 1 false = 0) ∧ HdsAt w p F (hdA D k) (hdB D k) (hdD D k) wr)
  case atStart => exact ⟨0, by omega, rfl, rfl, fun e => by omega, fun e => by omega, HAT.out⟩
  case round =>
    obtain ⟨k, hk, rfl, rfl, hE0, hE1, hat⟩ := hrel
    obtain ⟨wo, rfl⟩ : ∃ wo, wo = wr := ⟨_, rfl⟩
    have HA := Lib.hid hat; have HE0 := Lib.hid hE0; have HE1 := Lib.hid hE1
    clear hat hE0 hE1 HAT
    by_cases hk2 : k < 2
    · have hk2i : (k : Int) < 2 := by omega
      go_wp2_with (go_at_call 17; fail)
      refine (read_any (k : Int) wo HA.out.dsk (Dk.Ok.mono (hdD_ok HOK.out k) (by omega))).mono ?_
      rintro e w3 ⟨rfl, hd3, hu3⟩
      rw [hdD_next hk2] at hd3
      have hat3 := HA.out.read hd3 hu3 HFL.out
      have hsb := reads_blk (Dk.Ok.mono (hdD_ok HOK.out k) (show N + 2 ≤ 1099511627774 by omega)) (k : Int)
      have hfail := openD_fails (D := D) hk2 (fun e => HE0.out (by omega))
      obtain ⟨s, hs⟩ : ∃ s, s = (hdD D k).reads (k : Int) := ⟨_, rfl⟩
      obtain ⟨E, hE⟩ : ∃ E, E = (hdD D k).callE (k : Int) false := ⟨_, rfl⟩
      rw [← hs] at hsb ⊢
      rw [← hE] at hfail ⊢
      obtain ⟨f1, f2, f3⟩ := fresh56 w3 s hsb.1
      have HIS : RowKit.Hid ((Tryz.prog.info? 48).map (·.size) = some (bcells s).length) := Lib.hid (by rw [Tryz.info56p]; simp [bcells, hsb.1])
      have H1B := Lib.hid (all_oneCell_toArray (bcells_one s))
      have F1 := Lib.hid f1; have HSB := Lib.hid f2; have HSL := Lib.hid hsb; have HFAIL := Lib.hid hfail; have HE := Lib.hid hE; have HS := Lib.hid hs
      have HA4 := Lib.hid (hat3.kept f3 (fun _ e => e.elim) HFL.out)
      have HW3 : RowKit.Hid (w.heap.size < w3.heap.size) := Lib.hid (lt_of_heap hat3.two)
      clear f1 f2 f3 hsb hu3 hd3 hat3 hfail hE hs HA
      simp only []
      iterate 13 go_step
      refine (?_ : wpList _ _ _ _ _ (w3.alloc (.cells (bcells zblk).toArray 48)))
      refine wpList_store_mid rfl 48 (.tmp 6) (.tmp 20) rfl w3.heap.size 0 (bcells s).toArray rfl rfl F1.out (by rw [HIS.out]; simp) H1B.out ?_
      obtain ⟨w4, hw4⟩ : ∃ w4, w4 = (w3.alloc (.cells (bcells zblk).toArray 48)).setCells w3.heap.size 0 (bcells s) := ⟨_, rfl⟩
      rw [← hw4] at HA4 HSB
      rw [show (bcells s).toArray.toList = bcells s from rfl, ← hw4]
      clear hw4 F1
      obtain ⟨gs, hgs⟩ : ∃ gs, gs = w3.heap.size := ⟨_, rfl⟩
      rw [← hgs] at HSB HW3 ⊢
      clear hgs
      by_cases hE0 : E = 0
      rotate_left
      · have hEb : (E != 0) = true := by simpa using hE0
        have HRE := Lib.hid (HFAIL.out hE0)
        clear hE0
        go_wp2
        go_returns
        rw [HR.out, HRE.out]
        exact ⟨F, HA4.out.dsk, fun k hk => .inl hk, HA4.out.upd, Dk.Ok.mono (hdD_ok HOK.out (k + 1)) (by omega), rfl⟩
      · subst hE0
        go_upto_region 8 with fail
        have HNX := Lib.hid (HA4.out.store hk2 HS.out HSL.out HFL.out)
        have HTH := Lib.hid (there_sub (o := k * 64) (m := (bcells s).toArray.size) HA4.out.two (by have h1 := HA4.out.la.1; have h2 := HA4.out.lb.1; have h3 := HSL.out.1; simp [bcells, h1, h2, h3]; omega))
        have HE0' : RowKit.Hid (1 ≤ k + 1 → D.callE 0 false = 0) := Lib.hid (fun _ => by
          by_cases e : k = 0
          · have := HE.out; rw [e] at this; exact this.symm
          · exact HE0.out (by omega))
        have HE1' : RowKit.Hid (2 ≤ k + 1 → (D.callD 0 false).callE 1 false = 0) := Lib.hid (fun e2 => by
          have e : k = 1 := by omega
          have := HE.out; rw [e] at this; exact this.symm)
        have hcase : k = 0 ∨ k = 1 := by omega
        clear HE0 HE1 HE HS HFAIL
        rcases hcase with rfl | rfl
        · iterate 4 go_step
          refine wpList_load_mid rfl 48 (.tmp 6) rfl gs 0 rfl (bcells s) _ (rangeAt_block HSB.out) Tryz.underlying48 rfl HIS.out ?_
          iterate 3 go_step
          refine wpList_store_mid rfl 48 (.tmp 27) (.tmp 26) rfl w.heap.size 0 (bcells s).toArray rfl rfl HTH.out (by rw [HIS.out]; simp) H1B.out ?_
          obtain ⟨w5, hw5⟩ : ∃ w5, w5 = w4.setCells w.heap.size (0 * 64) (bcells s) := ⟨_, rfl⟩
          rw [← hw5] at HNX
          refine (?_ : wpList _ _ _ _ _ (w4.setCells w.heap.size (0 * 64) (bcells s)))
          rw [← hw5]
          clear hw5
          go_wp2
          go_roundg (2 - (0 + 1))
          case measure => omega
          case rel => exact ⟨0 + 1, by omega, rfl, rfl, HE0'.out, HE1'.out, HNX.out⟩
        · iterate 4 go_step
          refine wpList_load_mid rfl 48 (.tmp 6) rfl gs 0 rfl (bcells s) _ (rangeAt_block HSB.out) Tryz.underlying48 rfl HIS.out ?_
          iterate 3 go_step
          refine wpList_store_mid rfl 48 (.tmp 27) (.tmp 26) rfl w.heap.size 64 (bcells s).toArray rfl rfl HTH.out (by rw [HIS.out]; simp) H1B.out ?_
          obtain ⟨w5, hw5⟩ : ∃ w5, w5 = w4.setCells w.heap.size (1 * 64) (bcells s) := ⟨_, rfl⟩
          rw [← hw5] at HNX
          refine (?_ : wpList _ _ _ _ _ (w4.setCells w.heap.size (1 * 64) (bcells s)))
          rw [← hw5]
          clear hw5
          go_wp2
          go_roundg (2 - (1 + 1))
          case measure => omega
          case rel => exact ⟨1 + 1, by omega, rfl, rfl, HE0'.out, HE1'.out, HNX.out⟩
    · obtain rfl : k = 2 := by omega
      have hRH : R = openH (countsF (D.reads 0) ((D.callD 0 false).reads 1)) (hdD D 2) := by
        rw [HR.out]; unfold openD
        rw [if_pos (HE0.out (by omega)), if_pos (HE1.out (by omega))]
        rfl
      have hA2 : hdA D 2 = D.reads 0 := rfl
      have hB2 : hdB D 2 = (D.callD 0 false).reads 1 := rfl
      have hdk := hdD_ok HOK.out 2
      have hat := HA.out
      rw [hA2, hB2] at hat
      obtain ⟨a, ha⟩ : ∃ a, a = D.reads 0 := ⟨_, rfl⟩
      obtain ⟨b, hb⟩ : ∃ b, b = (D.callD 0 false).reads 1 := ⟨_, rfl⟩
      obtain ⟨D2, hD2⟩ : ∃ D2, D2 = hdD D 2 := ⟨_, rfl⟩
      rw [← ha, ← hb, ← hD2] at hRH
      rw [← ha, ← hb, ← hD2] at hat
      rw [← hD2] at hdk
      have hla := hat.la.1; have hlb := hat.lb.1
      have hra := rangeAt_sub (o := 0) (ds := bcells a) hat.two (by rw [List.drop_zero]; exact List.take_left' rfl)
      have hrb := rangeAt_sub (o := 64) (ds := bcells b) hat.two (by rw [List.drop_left' (by rw [bcells_length, hla])]; exact List.take_of_length_le (Nat.le_refl _))
      have HIA : RowKit.Hid ((Tryz.prog.info? 48).map (·.size) = some (bcells a).length) := Lib.hid (by rw [Tryz.info56p]; simp [bcells, hla])
      have HIB : RowKit.Hid ((Tryz.prog.info? 48).map (·.size) = some (bcells b).length) := Lib.hid (by rw [Tryz.info56p]; simp [bcells, hlb])
      have hcn := counts_any wo hla hlb hat.la.2 hat.lb.2
      have hsy := countsF_says hat.la.2 hat.lb.2
      obtain ⟨cf, hcf⟩ : ∃ cf, cf = countsF a b := ⟨_, rfl⟩
      rw [← hcf] at hcn hsy hRH
      obtain ⟨hh, cok⟩ := cf
      simp only at hcn hsy hRH
      have HRA := Lib.hid hra; have HRB := Lib.hid hrb; have HCN := Lib.hid hcn; have HSY := Lib.hid hsy; have HRH := Lib.hid hRH; have HDK := Lib.hid hdk; have HA2 := Lib.hid hat
      clear hRH hA2 hB2 hdk hat ha hb hD2 hla hlb hra hrb hcn hsy hcf HE0 HE1 HA HOK
      go_upto_region 10 with fail
      iterate 4 go_step
      refine wpList_load_mid rfl 48 (.tmp 30) rfl w.heap.size 0 rfl (bcells a) _ HRA.out Tryz.underlying48 rfl HIA.out ?_
      iterate 3 go_step
      refine wpList_load_mid rfl 48 (.tmp 32) rfl w.heap.size 64 rfl (bcells b) _ HRB.out Tryz.underlying48 rfl HIB.out ?_
      go_wp2_with (go_at_call 130; fail)
      refine HCN.out.mono ?_
      rintro e w6 ⟨rfl, hu6⟩
      have HA6 := Lib.hid (HA2.out.kept hu6 (fun _ e => e.elim) HFL.out)
      clear hu6 HCN HRA HRB HIA HIB HA2
      simp only [Hd.val]
      go_upto_region 11 with fail
      obtain ⟨bh, hbh⟩ : ∃ bh, bh = w6.heap.size := ⟨_, rfl⟩
      obtain ⟨w7, hw7⟩ : ∃ w7, w7 = w6.alloc (.cells #[.int .i64 hh.turn, .int .i64 hh.area, .int .i64 hh.place, .int .i64 hh.number] 184) := ⟨_, rfl⟩
      have HBH : RowKit.Hid (w7.heap[bh]? = some (.cells #[.int .i64 hh.turn, .int .i64 hh.area, .int .i64 hh.place, .int .i64 hh.number] 184 (0, 0))) := Lib.hid (by rw [hw7, hbh]; exact alloc_at rfl)
      have HBG : RowKit.Hid (w.heap.size < bh) := Lib.hid (by rw [hbh]; exact lt_of_heap HA6.out.two)
      have HA7 : RowKit.Hid (HdsAt w p F a b D2 w7) := Lib.hid (by rw [hw7]; exact HA6.out.kept ((Upd.refl (fun _ => False) w6).alloc _) (fun _ e => e.elim) HFL.out)
      rw [← hbh, ← hw7]
      have HD7 := Lib.hid HA7.out.dsk
      clear hbh hw7 HA6
      cases cok with
      | false =>
        have HRE : RowKit.Hid (R = (none, 140, D2)) := Lib.hid (by rw [HRH.out]; unfold openH; rw [if_pos (.inl rfl)])
        go_quiet (fail)
        go_wp2
        go_returns
        rw [HRE.out]
        have hun : ∀ n, Upd (fun _ => False) w7 (w7.drewN n) := fun n => ⟨rfl, rfl, rfl, Nat.le_refl _, fun _ _ _ => rfl⟩
        exact ⟨F, HA7.out.dsk.kept (hun _) (fun _ _ e => e), fun k hk => .inl hk, HA7.out.upd.trans ((hun _).mono (fun _ _ e => e.elim)), Dk.Ok.mono HDK.out (by omega), rfl⟩
      | true =>
        obtain ⟨hsays, hpl⟩ := HSY.out rfl
        have har := hsays.area; have hnum := hsays.number; have htu := hsays.turn; have hpl2 := hsays.place
        have hA : Upd (fun _ => False) w7 w7.drew := (Upd.refl _ w7).drew
        have hv1 : IntKind.i64.wrap (2 * hh.area) = 2 * hh.area := by rw [IntKind.wrap_i64]; omega
        have hv2 : IntKind.i64.wrap (2 + 2 * hh.area) = 2 + 2 * hh.area := by rw [IntKind.wrap_i64]; omega
        have HSAYS := Lib.hid hsays
        clear hsays HSY
        refine wp_region_G 10 (fun W => Upd (fun _ => False) w7 W) [false, false, false, false, false, false, false, false, false, false, false] rfl (by kernel_rfl) ?_
        refine wpG_takeT (i := 0) (v := .bool true) rfl (fun L hc h => (hc.waits (n := 10) (i := 2) (by kernel_rfl) (hc.waits (n := 2) (i := 1) (by kernel_rfl) (hc.waits (n := 1) (i := 0) (by kernel_rfl) h)))) (by kernel_rfl) (fun _ _ _ h => h) hA (.inl ⟨rfl, fun w5 q1 => ?_⟩) ?_
        · go_simp
        simp only [Act.put, List.setIfInBounds_toArray, List.set]
        refine wpG_takeT (i := 1) (v := .bool false) rfl (fun L hc h => (hc.waits (n := 10) (i := 2) (by kernel_rfl) (hc.waits (n := 2) (i := 1) (by kernel_rfl) h))) (by kernel_rfl) (fun _ _ _ h => h) hA (.inl ⟨rfl, fun w5 q1 => ?_⟩) ?_
        · go_simp
        simp only [Act.put, List.setIfInBounds_toArray, List.set]
        refine wpG_takeT (i := 2) (v := .bool false) rfl (fun L hc h => (hc.waits (n := 10) (i := 2) (by kernel_rfl) h)) (by kernel_rfl) (fun _ _ _ h => h) hA (.inl ⟨rfl, fun w5 q1 => ?_⟩) ?_
        · go_simp
        simp only [Act.put, List.setIfInBounds_toArray, List.set]
        refine wpG_takeT (i := 3) (v := .pointer (some ⟨p, 0, none⟩)) rfl (fun L hc h => (hc.waits (n := 10) (i := 9) (by kernel_rfl) (hc.waits (n := 9) (i := 4) (by kernel_rfl) (hc.waits (n := 4) (i := 3) (by kernel_rfl) h)))) (by kernel_rfl) (fun _ _ _ h => h) hA (.inl ⟨rfl, fun w5 q1 => ?_⟩) ?_
        · go_simp
        simp only [Act.put, List.setIfInBounds_toArray, List.set]
        refine wpG_takeT (i := 5) (v := .pointer (some ⟨bh, 1, none⟩)) rfl (fun L hc h => (hc.waits (n := 10) (i := 9) (by kernel_rfl) (hc.waits (n := 9) (i := 8) (by kernel_rfl) (hc.waits (n := 8) (i := 7) (by kernel_rfl) (hc.waits (n := 7) (i := 6) (by kernel_rfl) (hc.waits (n := 6) (i := 5) (by kernel_rfl) h)))))) (by kernel_rfl) (fun _ _ _ h => h) hA (.inl ⟨rfl, fun w5 q1 => ?_⟩) ?_
        · go_simp
        simp only [Act.put, List.setIfInBounds_toArray, List.set]
        refine wpG_takeT (i := 6) (v := .int .i64 hh.area) rfl (fun L hc h => (hc.waits (n := 10) (i := 9) (by kernel_rfl) (hc.waits (n := 9) (i := 8) (by kernel_rfl) (hc.waits (n := 8) (i := 7) (by kernel_rfl) (hc.waits (n := 7) (i := 6) (by kernel_rfl) h))))) (by kernel_rfl) (fun _ _ _ h => h) hA (.inl ⟨rfl, fun w5 q1 => ?_⟩) ?_
        · have cc : w5.cell? ⟨bh, 1, none⟩ = some (.int .i64 hh.area) := by simp [World.cell?, (q1.block _ (lt_of_heap HBH.out) (fun e => e)).trans HBH.out]
          go_simp
        simp only [Act.put, List.setIfInBounds_toArray, List.set]
        refine wpG_takeT (i := 7) (v := .int .i64 (2 * hh.area)) rfl (fun L hc h => (hc.waits (n := 10) (i := 9) (by kernel_rfl) (hc.waits (n := 9) (i := 8) (by kernel_rfl) (hc.waits (n := 8) (i := 7) (by kernel_rfl) h)))) (by kernel_rfl) (fun _ _ _ h => h) hA (.inl ⟨rfl, fun w5 q1 => ?_⟩) ?_
        · go_simp
        simp only [Act.put, List.setIfInBounds_toArray, List.set]
        refine wpG_takeT (i := 8) (v := .int .i64 (2 + 2 * hh.area)) rfl (fun L hc h => (hc.waits (n := 10) (i := 9) (by kernel_rfl) (hc.waits (n := 9) (i := 8) (by kernel_rfl) h))) (by kernel_rfl) (fun _ _ _ h => h) hA (.inl ⟨rfl, fun w5 q1 => ?_⟩) ?_
        · go_simp
        simp only [Act.put, List.setIfInBounds_toArray, List.set]
        refine wpG_doIf (i := 4) rfl (by kernel_rfl) rfl (fun K hK => ?_)
        have HKK := Lib.hid hK
        clear hK
        go_step
        refine (len_any _ (HD7.out.kept hA (fun _ _ e => e))).mono ?_
        rintro e w8 ⟨rfl, rfl⟩
        simp only []
        refine HKK.out _ _ hA ?_
        clear HKK
        simp only [List.setIfInBounds_toArray, List.set]
        refine wpG_takeT (i := 9) (v := .bool (decide ((D2.arr.length : Int) < 2 + 2 * hh.area))) rfl (fun L hc h => (hc.waits (n := 10) (i := 9) (by kernel_rfl) h)) (by kernel_rfl) (fun _ _ _ h => h) hA (.inl ⟨rfl, fun w5 q1 => ?_⟩) ?_
        · go_simp
        simp only [Act.put, List.setIfInBounds_toArray, List.set]
        refine wpG_tail_lit (k := 10) rfl rfl (by kernel_rfl) ?_
        simp only [List.drop]
        clear hv1 hv2
        have HA8 := Lib.hid (HA7.out.kept hA (fun _ e => e.elim) HFL.out)
        have HBH8 := Lib.hid ((hA.block _ (lt_of_heap HBH.out) (fun e => e)).trans HBH.out)
        clear hA HA7 HBH HD7
        obtain ⟨w8, hw8⟩ : ∃ w8, w8 = w7.drew := ⟨_, rfl⟩
        rw [← hw8] at HA8 HBH8 ⊢
        clear hw8
        by_cases hln : (D2.arr.length : Int) < 2 + 2 * hh.area
        · have hq : decide ((D2.arr.length : Int) < 2 + 2 * hh.area) = true := by simpa using hln
          have HRE : RowKit.Hid (R = (none, 140, D2)) := Lib.hid (by rw [HRH.out]; unfold openH; rw [if_pos (.inr hln)])
          go_wp2
          go_returns
          rw [HRE.out]
          exact ⟨F, HA8.out.dsk, fun k hk => .inl hk, HA8.out.upd, Dk.Ok.mono HDK.out (by omega), rfl⟩
        · have hq : decide ((D2.arr.length : Int) < 2 + 2 * hh.area) = false := by simpa using hln
          have HRE : RowKit.Hid (R = openP hh (foundD hh 1001 [] 0 D2)) := Lib.hid (by rw [HRH.out]; unfold openH; rw [if_neg (by simp; omega)])
          have c0 : w8.cell? ⟨bh, 0, none⟩ = some (.int .i64 hh.turn) := by simp [World.cell?, HBH8.out]
          have c1 : w8.cell? ⟨bh, 1, none⟩ = some (.int .i64 hh.area) := by simp [World.cell?, HBH8.out]
          have c2 : w8.cell? ⟨bh, 2, none⟩ = some (.int .i64 hh.place) := by simp [World.cell?, HBH8.out]
          have c3 : w8.cell? ⟨bh, 3, none⟩ = some (.int .i64 hh.number) := by simp [World.cell?, HBH8.out]
          go_wp2_with (go_at_call 131; fail)
          have hcf := found_any (q := w8.heap.size) (X := ⟨hh, [], 0, false⟩) (G := fun k => k = w8.heap.size) (F := F) (D := D2) (N := N + 2) (p := p) (w8.alloc (.cells #[.int .i64 hh.turn, .int .i64 hh.area, .int .i64 hh.place, .int .i64 hh.number, .pointer (some ⟨p, 0, none⟩), .slice none 0 0, .int .i64 0, .bool false] 193))
            (Log.begin (alloc_at rfl)) ⟨by show 0 ≤ hh.turn ∧ hh.turn ≤ _; omega, har, by show 0 ≤ hh.place ∧ hh.place ≤ _; omega, by show 0 ≤ hh.number ∧ hh.number ≤ _; omega, by show (0 : Int) ≤ 0 ∧ (0 : Int) ≤ 1000; omega, by simp, fun b hb => by simp at hb⟩ rfl (by show (0 : Int) ≤ hh.area; omega) (by simp)
            (HA8.out.dsk.kept ((Upd.refl (fun _ => False) w8).alloc _) (fun _ _ e => e)) HDK.out (by omega) (fun k hk e => by have := HFL.out k e; have := lt_of_heap HA8.out.two; omega)
          have hu9 : Upd (fun _ => False) w8 (w8.alloc (.cells #[.int .i64 hh.turn, .int .i64 hh.area, .int .i64 hh.place, .int .i64 hh.number, .pointer (some ⟨p, 0, none⟩), .slice none 0 0, .int .i64 0, .bool false] 193)) := (Upd.refl _ w8).alloc _
          obtain ⟨w9, hw9⟩ : ∃ w9, w9 = w8.alloc (.cells #[.int .i64 hh.turn, .int .i64 hh.area, .int .i64 hh.place, .int .i64 hh.number, .pointer (some ⟨p, 0, none⟩), .slice none 0 0, .int .i64 0, .bool false] 193) := ⟨_, rfl⟩
          refine (?_ : Calls _ _ _ (w8.alloc (.cells #[.int .i64 hh.turn, .int .i64 hh.area, .int .i64 hh.place, .int .i64 hh.number, .pointer (some ⟨p, 0, none⟩), .slice none 0 0, .int .i64 0, .bool false] 193)) _)
          have hs9 : w9.heap.size = w8.heap.size + 1 := by rw [hw9]; simp
          rw [← hw9] at hcf hu9 ⊢
          clear hw9
          obtain ⟨q, hq0⟩ : ∃ q, q = w8.heap.size := ⟨_, rfl⟩
          have hqw : w.heap.size < q := by rw [hq0]; exact lt_of_heap HA8.out.two
          have hup9 : Upd F w w9 := HA8.out.upd.trans (hu9.mono (fun _ _ e => e.elim))
          have hqF : ¬ F q := fun e => by have := HFL.out q e; omega
          rw [← hq0] at hcf hs9 ⊢
          obtain ⟨RF, hRF⟩ : ∃ RF, RF = foundD hh 1001 [] 0 D2 := ⟨_, rfl⟩
          simp only at hcf
          rw [← hRF] at hcf HRE
          have HUP := Lib.hid hup9; have HQF := Lib.hid hqF; have HS9 := Lib.hid hs9
          clear hq0 hu9 hup9 hqF hs9 hRF HA8 HBH8 c0 c1 c2 c3 HRH HDK hq
          refine hcf.mono ?_
          clear hcf
          rintro e w10 ⟨Y, G', D', rfl, y1, y2, y3, y4, y5, y6, rfl, y8, y9, y10, y11, y12⟩
          have HUPA : RowKit.Hid (Upd F w w10) := Lib.hid (HUP.out.step y12 (fun k hk e => e.elim (fun e => by omega) id))
          have HGW : RowKit.Hid (∀ k, G' k → w.heap.size ≤ k) := Lib.hid (fun k hk => (y9 k hk).elim (fun e => by omega) (fun e => by have := HS9.out; omega))
          have HGF : RowKit.Hid (∀ k, G' k → ¬ F k) := Lib.hid (fun k hk e => by have := HGW.out k hk; have := HFL.out k e; omega)
          have hyh : Y.h = hh := y1
          have y8' := y8
          obtain ⟨PV, vs, hl1, hl2⟩ := y8
          obtain ⟨pa, pc, rfl⟩ := rowV hl1.row
          have HM := Lib.hid hl1.main; have HLG := Lib.hid y8'; have HD10 := Lib.hid y10; have HK10 := Lib.hid y11; have HYP := Lib.hid y3; have HYO := Lib.hid y6; have HYH := Lib.hid hyh; have HYU := Lib.hid y4; have HYB := Lib.hid y2
          clear y1 y2 y3 y4 y5 y6 y8' y9 y10 y11 y12 hl1 hl2 hyh HUP HS9
          simp only []
          by_cases hE : RF.2.1 = 0
          rotate_left
          · have hEb : (RF.2.1 != 0) = true := by simpa using hE
            have HRE2 : RowKit.Hid (R = (none, RF.2.1, RF.2.2)) := Lib.hid (by rw [HRE.out]; unfold openP; rw [if_neg hE])
            clear hE
            go_wp2
            go_returns
            rw [HRE2.out]
            exact ⟨F, HD10.out, fun k hk => .inl hk, HUPA.out, Dk.Ok.mono HK10.out (by omega), rfl⟩
          · have hEb : (RF.2.1 != 0) = false := by simpa using hE
            have HRE2 : RowKit.Hid (R = if RF.1 = [] ∨ hh.turn = 1073741824 then (none, 140, RF.2.2) else openL { hh with turn := hh.turn + 1 } RF.1 RF.2.2) := Lib.hid (by rw [HRE.out]; unfold openP; rw [if_pos hE])
            have c0 : w10.cell? ⟨q, 0, none⟩ = some (.int .i64 hh.turn) := by rw [← HYH.out]; simp [World.cell?, HM.out, Lg.cells]
            have c5 : w10.cell? ⟨q, 5, none⟩ = some (.slice pa Y.parts.length pc) := by simp [World.cell?, HM.out, Lg.cells]
            clear hE
            go_upto_region 17 with fail
            by_cases hp0 : Y.parts = []
            · have hz : ((Y.parts.length : Int) == 0) = true := by rw [hp0]; rfl
              have HRE3 : RowKit.Hid (R = (none, 140, RF.2.2)) := Lib.hid (by rw [HRE2.out, if_pos (.inl (by rw [← HYP.out, hp0]))])
              clear hp0
              go_wp2
              go_returns
              rw [HRE3.out]
              exact ⟨F, HD10.out, fun k hk => .inl hk, HUPA.out, Dk.Ok.mono HK10.out (by omega), rfl⟩
            · have hz : ((Y.parts.length : Int) == 0) = false := by
                have : Y.parts.length ≠ 0 := fun e => hp0 (List.length_eq_zero_iff.1 e)
                simp; omega
              by_cases htm : hh.turn = 1073741824
              · have htb : (hh.turn == 1073741824) = true := by simpa using htm
                have HRE3 : RowKit.Hid (R = (none, 140, RF.2.2)) := Lib.hid (by rw [HRE2.out, if_pos (.inr htm)])
                clear hp0 htm
                go_wp2
                go_returns
                rw [HRE3.out]
                exact ⟨F, HD10.out, fun k hk => .inl hk, HUPA.out, Dk.Ok.mono HK10.out (by omega), rfl⟩
              · have htb : (hh.turn == 1073741824) = false := by simpa using htm
                have HRE3 : RowKit.Hid (R = openL { hh with turn := hh.turn + 1 } RF.1 RF.2.2) := Lib.hid (by rw [HRE2.out, if_neg (fun e => e.elim (fun e => hp0 (by rw [HYP.out, e])) htm)])
                have hv1 : IntKind.i64.wrap (hh.turn + 1) = hh.turn + 1 := by rw [IntKind.wrap_i64]; omega
                have hf0 : w10.frozen? ⟨q, 0, none⟩ = false := frozen_of_heap HM.out
                clear hp0 htm HRE2
                go_upto_region 20 with fail
                have hu11 : Upd (fun k => k = q) w10 (w10.setCell ⟨q, 0, none⟩ (.int .i64 (hh.turn + 1))) := upd_own w10 q 0 _
                have hlg11 := HLG.out.turned (hh.turn + 1)
                have hye : ({ Y with h := { Y.h with turn := hh.turn + 1 } } : Lg) = ⟨{ hh with turn := hh.turn + 1 }, RF.1, usedOf RF.1, false⟩ := by
                  have h1 := HYH.out; have h2 := HYP.out; have h3 := HYU.out; have h4 := HYB.out
                  rcases Y with ⟨ya, yb, yc, yd⟩
                  simp only at h1 h2 h3 h4
                  subst h1 h4
                  rw [h3, h2]
                rw [hye] at hlg11
                have hok11 : (⟨{ hh with turn := hh.turn + 1 }, RF.1, usedOf RF.1, false⟩ : Lg).Ok := by
                  rw [← hye]
                  have h := HYO.out
                  exact ⟨by show 0 ≤ hh.turn + 1 ∧ hh.turn + 1 ≤ 1073741824; have : hh.turn ≠ 1073741824 := by simpa using htb
                            omega, h.area, h.place, h.number, h.used, h.len, h.bytes⟩
                obtain ⟨w11, hw11⟩ : ∃ w11, w11 = w10.setCell ⟨q, 0, none⟩ (.int .i64 (hh.turn + 1)) := ⟨_, rfl⟩
                rw [← hw11] at hu11 hlg11 ⊢
                obtain ⟨PV2, vs2, hm1, hm2⟩ := hlg11
                have hm := hm1.main
                have d0 : w11.cell? ⟨q, 0, none⟩ = some (.int .i64 (hh.turn + 1)) := by simp [World.cell?, hm, Lg.cells]
                have d1 : w11.cell? ⟨q, 1, none⟩ = some (.int .i64 hh.area) := by simp [World.cell?, hm, Lg.cells]
                have d2 : w11.cell? ⟨q, 2, none⟩ = some (.int .i64 hh.place) := by simp [World.cell?, hm, Lg.cells]
                have d3 : w11.cell? ⟨q, 3, none⟩ = some (.int .i64 hh.number) := by simp [World.cell?, hm, Lg.cells]
                have HLG11 : RowKit.Hid (Log w11 q p ⟨{ hh with turn := hh.turn + 1 }, RF.1, usedOf RF.1, false⟩ G') := Lib.hid ⟨PV2, vs2, hm1, hm2⟩
                have HOK11 := Lib.hid hok11
                have HU11 : RowKit.Hid (Upd F w w11) := Lib.hid (HUPA.out.step hu11 (fun k hk e => by omega))
                have HD11 := Lib.hid (HD10.out.kept hu11 (fun k hk e => HQF.out (by rw [← e]; exact hk)))
                have hun : ({ hh with turn := hh.turn + 1 } : Hd).U32 := ⟨by show 0 ≤ hh.turn + 1 ∧ hh.turn + 1 ≤ 4294967295; omega, by show 0 ≤ hh.area ∧ hh.area ≤ 4294967295; omega, by show 0 ≤ hh.place ∧ hh.place ≤ 4294967295; omega, by show 0 ≤ hh.number ∧ hh.number ≤ 4294967295; omega⟩
                have HLD := Lib.hid (laid_any w11 HD11.out HK10.out (by omega) hun)
                have hdl := Dk.lays_ok [headSc ({ hh with turn := hh.turn + 1 } : Hd)] HK10.out
                have HDL := Lib.hid hdl
                clear hu11 hye hok11 hw11 hm1 hm2 hm hun hdl c0 c5 hf0 hv1 HM HLG HUPA HYO HYH HYP HYU HYB
                go_wp2_with (go_at_call 112; fail)
                refine HLD.out.mono ?_
                rintro e w12 ⟨rfl, F', hd12, hF', hu12⟩
                rw [show raw [headSc ({ hh with turn := hh.turn + 1 } : Hd)] = [({ hh with turn := hh.turn + 1 } : Hd).laid] from rfl] at hd12 ⊢
                rw [show raw [headSc ({ hh with turn := hh.turn + 1 } : Hd)] = [({ hh with turn := hh.turn + 1 } : Hd).laid] from rfl] at HDL
                have HD12 := Lib.hid hd12; have HF' := Lib.hid hF'; have HU12 := Lib.hid hu12
                clear hd12 hF' hu12 HLD
                obtain ⟨E, hE⟩ : ∃ E, E = RF.2.2.laysE [({ hh with turn := hh.turn + 1 } : Hd).laid] := ⟨_, rfl⟩
                have HE := Lib.hid hE
                rw [← hE]
                clear hE
                have HUF : RowKit.Hid (Upd F w w12) := Lib.hid (HU11.out.step HU12.out (fun k _ e => e))
                have HFF : RowKit.Hid (∀ k, F' k → F k ∨ w.heap.size ≤ k) := Lib.hid (fun k hk => (HF'.out k hk).imp id (fun e => by have := HU11.out.size; omega))
                simp only []
                by_cases hE0 : E = 0
                · have hEb : (E != 0) = false := by simpa using hE0
                  have HR4 : RowKit.Hid (R = (some ⟨{ hh with turn := hh.turn + 1 }, RF.1, usedOf RF.1, false⟩, 0, RF.2.2.lays [({ hh with turn := hh.turn + 1 } : Hd).laid])) := Lib.hid (by
                    rw [HRE3.out]; unfold openL; rw [if_pos (by rw [← HE.out]; exact hE0)])
                  clear hE0
                  go_wp2
                  go_returns
                  rw [HR4.out]
                  exact ⟨F', HD12.out, HFF.out, HUF.out, Dk.Ok.mono HDL.out (by simp), q, G', rfl, HLG11.out.kept HU12.out HGF.out, HGW.out, fun k hk e => (HF'.out k e).elim (fun e => HGF.out k hk e) (fun e => by have := HLG11.out.lt k hk; omega), HOK11.out⟩
                · have hEb : (E != 0) = true := by simpa using hE0
                  have HR4 : RowKit.Hid (R = (none, E, RF.2.2.lays [({ hh with turn := hh.turn + 1 } : Hd).laid])) := Lib.hid (by
                    rw [HRE3.out]; unfold openL; rw [if_neg (by rw [← HE.out]; exact hE0), HE.out])
                  clear hE0
                  go_wp2
                  go_returns
                  rw [HR4.out]
                  exact ⟨F', HD12.out, HFF.out, HUF.out, Dk.Ok.mono HDL.out (by simp), rfl⟩

end Go.Proofs.YtbimkhdiplnbfaaGreat
end

section
namespace Go.Proofs.YtbimkhdiplnbfaaGreat
set_option maxRecDepth 100000
open Go.RowKit Go.Shelf

attribute [local go_sem] Oper.semAt_some

theorem ownsRow_heap {w w' : World} {B : Nat} {e : TypeId} {s : Nat} {v : Value} {n : Nat} {xs : List Value} (h : w.ownsRow B e s v n xs) (hk : ∀ g, v.ownBlock = some g → w'.heap[g]? = w.heap[g]?) : w'.ownsRow B e s v n xs := by
  refine ⟨h.1, ?_⟩
  rcases h.2 with h | ⟨g, cap, cur, rfl, h2, h3, h4⟩
  · exact .inl h
  · exact .inr ⟨g, cap, cur, rfl, h2, (hk g rfl).trans h3, h4⟩

theorem Log.keep {w w' : World} {q p : Nat} {X : Lg} {G : Nat → Prop} (h : Log w q p X G) (hk : ∀ k, G k → w'.heap[k]? = w.heap[k]?) : Log w' q p X G := by
  obtain ⟨PV, vs, h1, h2⟩ := h
  refine ⟨PV, vs, ⟨(hk q ((h2 q).2 (.inl rfl))).trans h1.main, ownsRow_heap h1.row (fun g hg => hk g ((h2 g).2 (.inr (.inl hg)))), fun i v b hv hb => ownsRow_heap (h1.parts i v b hv hb) (fun g hg => hk g ((h2 g).2 (.inr (.inr ⟨v, List.mem_of_getElem? hv, hg⟩)))), h1.nq, h1.nv⟩, h2⟩

set_option maxRecDepth 100000 in
set_option maxHeartbeats 8000000 in
theorem walk_any (n : Nat) (hn : 1 ≤ n) (l : Nat) {q p bp : Nat} {X : Lg} {G : Nat → Prop} (hok : X.Ok) (hne : X.parts ≠ []) (J : List (Nat × Value) → World → Prop) (W : World) (hlog : Log W q p X G) (hbp : W.heap[bp]? = some (.cells #[.pointer (some ⟨q, 0, none⟩)] 38 (0, 0)))
    (hY : ∀ pre x W0 W1 b, J pre W0 → Upd (fun _ => False) W0 W1 → x.1 = pre.length → X.parts[pre.length + 1]? = some b → OwnB W1 W0.heap.size x.2 b → YieldAt Fence.wide (n - 1) Tryz.prog l #[.int .i64 x.1, x.2] W1 fun e W' =>
      e = .returned (.bool true) ∧ J (pre ++ [x]) W' ∧ ∀ k, G k ∨ k = bp → W'.heap[k]? = W1.heap[k]?) (h0 : J [] W) (hJA : ∀ pre W W', J pre W → Upd (fun _ => False) W W' → J pre W') :
    CallsIn Fence.wide n Tryz.prog 165 #[.func (.yield l) #[] #[], .pointer (some ⟨bp, 0, none⟩)] W fun e W' => (∃ v, e = .returned v) ∧ ∃ xs, xs.length + 1 = X.parts.length ∧ J xs W' := by
  have HLG := Lib.hid hlog; have HBP := Lib.hid hbp; have HY := Lib.hid hY; have HOK := Lib.hid hok; have HJA := Lib.hid hJA
  have hc := cells1_of hbp
  have hpl : 1 ≤ X.parts.length := by
    rcases hX : X.parts with _ | ⟨a, b⟩
    · exact absurd hX hne
    · simp
  have hpl2 := hok.len
  have H0 := Lib.hid h0
  clear hlog hbp hY hok hne h0 hJA
  refine callsIn_of_wp Tryz.func165 rfl trivial ?_ rfl
  simp only [Tryz.ntmps165, List.size_toArray, List.length_cons, List.length_nil, Nat.reduceAdd, Nat.reduceSub, Array.replicate_succ, Array.replicate_zero, List.push_toArray, List.append_toArray, List.nil_append, List.cons_append]
  gi_wp2_with (refine ⟨trivial, ?_⟩; gi_at_call 55; fail)
  refine ⟨trivial, ?_⟩
  refine (callsIn_wide.2 (loglen_any W HLG.out HOK.out)).mono ?_
  rintro e w1 ⟨rfl, hu1⟩
  have HU1 := Lib.hid hu1
  clear hu1 hc
  simp only []
  gi_upto_region 1 with fail
  obtain ⟨N, hN⟩ : ∃ N : Nat, N + 1 = X.parts.length := ⟨X.parts.length - 1, by omega⟩
  rw [show ((X.parts.length : Int) - 1) = (N : Int) by omega]
  gi_loopg [6] N (fun gi i wr => ∃ (k : Nat) (pre : List (Nat × Value)) (W0 : World), k ≤ N ∧ gi = N - k ∧ i = .int .i64 k ∧ pre.length = k ∧ J pre W0 ∧ Upd (fun _ => False) W0 wr ∧ Log W0 q p X G ∧ W0.heap[bp]? = some (.cells #[.pointer (some ⟨q, 0, none⟩)] 38 (0, 0)))
  case atStart => exact ⟨0, [], W, by omega, rfl, rfl, rfl, H0.out, HU1.out, HLG.out, HBP.out⟩
  case round =>
    obtain ⟨k, pre, W0, hk, rfl, rfl, hpre, hJ, hu, hlg, hbp⟩ := hrel
    obtain ⟨wo, rfl⟩ : ∃ wo, wo = wr := ⟨_, rfl⟩
    by_cases hkN : k < N
    · have hlgo := hlg.kept hu (fun _ _ e => e)
      have hbpo := (hu.block _ (lt_of_heap hbp) (fun e => e)).trans hbp
      have hcc := cells1_of hbpo
      have hkN2 : (k : Int) < N := by omega
      obtain ⟨PV, vs, h1, h2⟩ := hlgo
      have hvl := h1.vslen
      obtain ⟨b, hb⟩ : ∃ b, X.parts[k + 1]? = some b := ⟨_, List.getElem?_eq_getElem (by omega)⟩
      obtain ⟨v, hv⟩ : ∃ v, vs[k + 1]? = some v := ⟨_, List.getElem?_eq_getElem (by omega)⟩
      have hown := h1.parts _ _ _ hv hb
      have hbl := (HOK.out.bytes b (List.mem_of_getElem? hb)).2
      obtain ⟨g, cap, hPV⟩ : ∃ g cap, PV = .slice (some ⟨g, 0, none⟩) X.parts.length cap := by
        rcases h1.row.2 with ⟨_, h⟩ | ⟨g, cap, cur, h, _⟩
        · omega
        · exact ⟨g, cap, h⟩
      subst hPV
      have c5 : wo.cell? ⟨q, 5, none⟩ = some (.slice (some ⟨g, 0, none⟩) X.parts.length cap) := by simp [World.cell?, h1.main, Lg.cells]
      have cv : wo.cell? ⟨g, k + 1, none⟩ = some v := by
        have := h1.row.cells (g := g) rfl (k + 1) v hv
        rwa [Addr.add_mid, Nat.zero_add] at this
      have HOWN := Lib.hid hown; have HB := Lib.hid hb; have HJ := Lib.hid hJ; have HU := Lib.hid hu; have HLG0 := Lib.hid hlg; have HBP0 := Lib.hid hbp; have HPRE := Lib.hid hpre
      have hlN : (k : Int) + 1 < X.parts.length := by omega
      clear h1 h2 hown hb hJ hu hlg hbp hbpo hvl hv hpre HLG HBP HU1 H0
      gi_wp2_with (refine ⟨trivial, ?_⟩; gi_at_call 99; fail)
      refine ⟨trivial, ?_⟩
      refine (callsIn_wide.2 (clone_any wo (by omega) HOWN.out.bytesIn)).mono ?_
      rintro e w3 ⟨u, rfl, hou, _, hu3⟩
      have hu03 : Upd (fun _ => False) W0 w3 := HU.out.trans hu3
      have hJy := HY.out pre (k, u) W0 w3 b HJ.out hu03 HPRE.out.symm (by rw [HPRE.out]; exact HB.out) (hou.mono HU.out.size)
      obtain ⟨fn, tmps, assign, body, hy, hR⟩ := hJy
      dsimp only at hy
      have HRR := Lib.hid hR; have HU03 := Lib.hid hu03
      clear hou hu3 hR hu03 HOWN HB HJ HU HY cv c5 hcc
      simp only []
      iterate 3 gi_step
      refine HRR.out.mono ?_
      rintro e w4 ⟨rfl, hJ4, hk4⟩
      have HJ4 := Lib.hid hJ4
      have HL4 := Lib.hid ((HLG0.out.kept HU03.out (fun _ _ e => e)).keep (fun j hj => hk4 j (.inl hj)))
      have HB4 := Lib.hid ((hk4 bp (.inr rfl)).trans ((HU03.out.block _ (lt_of_heap HBP0.out) (fun e => e)).trans HBP0.out))
      clear hJ4 hk4 hy HRR HU03 HLG0 HBP0
      simp only []
      gi_wp2
      gi_roundg (N - (k + 1))
      case measure => omega
      case rel => exact ⟨k + 1, pre ++ [(k, u)], w4, by omega, rfl, congrArg _ (by omega), by simp [HPRE.out], HJ4.out, Upd.refl _ _, HL4.out, HB4.out⟩
    · obtain rfl : k = N := by omega
      have hkN2 : ¬ (k : Int) < k := by omega
      have HFIN : RowKit.Hid (∃ xs : List (Nat × Value), xs.length + 1 = X.parts.length ∧ J xs wo) := Lib.hid ⟨pre, by omega, HJA.out _ _ _ hJ hu⟩
      clear hJ hu hlg hbp hpre
      gi_wp2
      refine bodyPost_end (results_none rfl _ _ _) rfl ?_
      exact ⟨⟨_, rfl⟩, HFIN.out⟩

theorem walAll_any (q : Nat) (w : World) : Calls Tryz.prog 120 #[.pointer (some ⟨q, 0, none⟩)] w fun e w' => e = .returned (.func (.func 165) #[] #[.pointer (some ⟨w.heap.size, 0, none⟩)]) ∧ w' = w.alloc (.cells #[.pointer (some ⟨q, 0, none⟩)] 38) := by
  go_enter Tryz.func120, Tryz.ntmps120
  go_wp2
  go_ret
  exact ⟨rfl, rfl⟩

end Go.Proofs.YtbimkhdiplnbfaaGreat
end

section
namespace Go.Proofs.YtbimkhdiplnbfaaGreat
set_option maxRecDepth 100000
open Go.RowKit Go.Shelf

attribute [local go_sem] Oper.semAt_some

/-- A row of slices and a row of bytes are two blocks. -/
theorem types_apart {W : World} {B B' n k : Nat} {v u : Value} {xs : List Value} {b : List Int} (h : W.ownsRow B 39 1 v n xs) (h2 : OwnB W B' u b) (hv : v.ownBlock = some k) : u.ownBlock ≠ some k := by
  intro hu
  rcases h.2 with ⟨rfl, _⟩ | ⟨g, cap, cur, rfl, _, hg, _⟩
  · simp [Value.ownBlock] at hv
  · rcases h2.2 with ⟨rfl, _⟩ | ⟨g2, cap2, cur2, rfl, _, hg2, _⟩
    · simp [Value.ownBlock] at hu
    · simp only [Value.ownBlock, Option.some.injEq] at hv hu
      subst hv
      subst hu
      rw [hg] at hg2
      injection hg2 with hg2
      injection hg2 with _ hg2
      cases hg2

structure TellAt (w : World) (X : Lg) (pre : List (Nat × Value)) (W : World) : Prop where
  upd : Upd (fun _ => False) w W
  size : w.heap.size + 4 ≤ W.heap.size
  c0 : W.heap[w.heap.size]? = some (.cells #[.slice none 0 0] 32 (0, 0))
  c1 : W.heap[w.heap.size + 1]? = some (.cells #[.bool false] 4 (0, 0))
  out : ∃ v, W.heap[w.heap.size + 1 + 1]? = some (.cells #[v] 32 (0, 0)) ∧ W.ownsRow (w.heap.size + 4) 39 1 v pre.length (pre.map (·.2))
  each : ∀ i x b, pre[i]? = some x → X.parts[i + 1]? = some b → OwnB W (w.heap.size + 4) x.2 b

theorem TellAt.kept {w W W' : World} {X : Lg} {pre : List (Nat × Value)} (h : TellAt w X pre W) (hk : ∀ (k : Nat) (o : Obj), W.heap[k]? = some o → o.isCells = true → W'.heap[k]? = some o) (hs : W.heap.size ≤ W'.heap.size) (hu : Upd (fun _ => False) w W') : TellAt w X pre W' := by
  have hrow : ∀ {B e s v n xs}, W.ownsRow B e s v n xs → W'.ownsRow B e s v n xs := fun {B e s v n xs} h => by
    refine ⟨h.1, ?_⟩
    rcases h.2 with h | ⟨g, cap, cur, rfl, h2, h3, h4⟩
    · exact .inl h
    · exact .inr ⟨g, cap, cur, rfl, h2, hk g _ h3 rfl, h4⟩
  obtain ⟨v, h1, h2⟩ := h.out
  exact ⟨hu, Nat.le_trans h.size hs, hk _ _ h.c0 rfl, hk _ _ h.c1 rfl, ⟨v, hk _ _ h1 rfl, hrow h2⟩, fun i x b hx hb => hrow (h.each i x b hx hb)⟩

theorem TellAt.upd0 {w W W' : World} {X : Lg} {pre : List (Nat × Value)} (h : TellAt w X pre W) (hu : Upd (fun _ => False) W W') : TellAt w X pre W' :=
  h.kept (fun k _o ho _ => (hu.block k (lt_of_heap ho) (fun e => e)).trans ho) hu.size (h.upd.trans hu)

theorem upd_put {W : World} {l : Nat} (o : Obj) : Upd (fun k => k = l) W (W.putObj l o) := Upd.of_grown (grownBy_putObj' W l o) (fun k hk => by injection hk with hk; exact hk.symm)

theorem TellAt.put {w W : World} {X : Lg} {pre : List (Nat × Value)} {l : Nat} {o : Obj} (o' : Obj) (h : TellAt w X pre W) (hl : w.heap.size ≤ l) (ho : W.heap[l]? = some o) (hc : o.isCells = false) : TellAt w X pre (W.putObj l o') :=
  h.kept (fun k p hp hpc => by
    by_cases e : k = l
    · subst e; rw [ho] at hp; injection hp with hp; subst hp; rw [hc] at hpc; cases hpc
    · exact (World.putObj_heap_other e).trans hp) (upd_put o').size (h.upd.step (upd_put o') (fun k hk e => by omega))

theorem TellAt.more {w W W' : World} {X : Lg} {pre : List (Nat × Value)} {x : Nat × Value} {v v' : Value} (h : TellAt w X pre W) (hbox : W.heap[w.heap.size + 1 + 1]? = some (.cells #[v] 32 (0, 0))) (hrow : W.ownsRow (w.heap.size + 4) 39 1 v pre.length (pre.map (·.2)))
    (hx : ∀ b, X.parts[pre.length + 1]? = some b → OwnB W (w.heap.size + 4) x.2 b) (hg : W.grownBy W' v.ownBlock) (hrow' : W'.ownsRow (w.heap.size + 4) 39 1 v' (pre.length + 1) (pre.map (·.2) ++ [x.2])) :
    TellAt w X (pre ++ [x]) (W'.setCell ⟨w.heap.size + 1 + 1, 0, none⟩ v') := by
  have hvb : ∀ k, v.ownBlock = some k → w.heap.size + 4 ≤ k := fun k hk => (World.ownsRow.lt hrow k hk).1
  have hvb' : ∀ k, v'.ownBlock = some k → w.heap.size + 4 ≤ k := fun k hk => (World.ownsRow.lt hrow' k hk).1
  have hkeep : ∀ k, k < W.heap.size → v.ownBlock ≠ some k → W'.heap[k]? = W.heap[k]? := fun k hk hn => hg.block k hk (fun e => hn e.symm)
  have hu1 : Upd (fun k => v.ownBlock = some k) W W' := Upd.of_grown hg (fun k hk => hk)
  have hu2 : Upd (fun k => k = w.heap.size + 1 + 1) W' (W'.setCell ⟨w.heap.size + 1 + 1, 0, none⟩ v') := upd_own W' (w.heap.size + 1 + 1) 0 v'
  have hs := h.size
  have hn : ∀ k, k < w.heap.size + 4 → v.ownBlock ≠ some k := fun k hk e => by have := hvb k e; omega
  have c0 := (hkeep _ (by omega) (hn _ (by omega))).trans h.c0
  have c1 := (hkeep _ (by omega) (hn _ (by omega))).trans h.c1
  have cb := (hkeep _ (by omega) (hn _ (by omega))).trans hbox
  refine ⟨(h.upd.step hu1 (fun k hk e => by have := hvb k e; omega)).step hu2 (fun k hk e => by omega), by have := hu2.size; have := hu1.size; omega,
    (hu2.block _ (lt_of_heap c0) (by omega)).trans c0, (hu2.block _ (lt_of_heap c1) (by omega)).trans c1, ⟨v', ?_, ?_⟩, ?_⟩
  · have := blk_set (i := 0) (v := v') cb
    simpa using this
  · rw [List.length_append, List.map_append]
    exact ownsRow_heap hrow' (fun k hk => hu2.block k (World.ownsRow.lt hrow' k hk).2 (fun e => by have := hvb' k hk; omega))
  · intro i y b hy hb
    have hold : OwnB W (w.heap.size + 4) y.2 b := by
      by_cases hi : i < pre.length
      · rw [List.getElem?_append_left hi] at hy
        exact h.each i y b hy hb
      · rw [List.getElem?_append_right (by omega)] at hy
        have hi2 : i - pre.length = 0 := by
          have := (List.getElem?_eq_some_iff.1 hy).1
          simp at this
          omega
        rw [hi2] at hy
        simp at hy
        subst hy
        rw [show i = pre.length by omega] at hb
        exact hx b hb
    refine ownsRow_heap hold (fun k hk => ?_)
    have hkl := World.ownsRow.lt hold k hk
    rw [hu2.block k (Nat.lt_of_lt_of_le hkl.2 hu1.size) (fun e => by omega)]
    exact hkeep k hkl.2 (fun e => types_apart hrow hold e hk)

end Go.Proofs.YtbimkhdiplnbfaaGreat
end

section
namespace Go.Proofs.YtbimkhdiplnbfaaGreat
set_option maxRecDepth 100000
open Go.RowKit Go.Shelf

/-- Bytes that lie somewhere, one behind the other. -/
def RowsIn (w : World) (v : Value) (txs : List (List Int)) : Prop := ∃ vs, w.ownsRow 0 39 1 v txs.length vs ∧ ∀ (i : Nat) u b, vs[i]? = some u → txs[i]? = some b → BytesIn w u b

theorem RowsIn.kept {w w' : World} {v : Value} {txs : List (List Int)} (h : RowsIn w v txs) (hu : Upd (fun _ => False) w w') : RowsIn w' v txs := by
  obtain ⟨vs, h1, h2⟩ := h
  exact ⟨vs, ownsRow_any h1 hu (fun _ _ e => e), fun i u b hu' hb => (h2 i u b hu' hb).kept hu⟩

theorem len_le_used (l : List (List Int)) : (l.length : Int) ≤ usedOf l := by
  induction l with
  | nil => simp [usedOf]
  | cons b l ih =>
    have := secsN_pos b.length
    rw [usedOf_cons]
    simp
    omega

end Go.Proofs.YtbimkhdiplnbfaaGreat
end

section
namespace Go.Proofs.YtbimkhdiplnbfaaGreat
set_option maxRecDepth 100000
open Go.RowKit

theorem law_fmt {D : Dk} {N area : Nat} (hg : D.Good N) (ha : 4 ≤ area ∧ area ≤ 1000) (hN : 2 + 2 * area ≤ N) : LawD (fmtX area) 1 (fmtD D area 3).S := by
  have b1 := zl_bound (area := area) (N := N) hN
  have b2 : ∀ x ∈ raw (partSc (fmtH area) 1 0 true [] bytes_nil), 0 ≤ x.1 ∧ x.1 < N := partSc_bound bytes_nil (by show (1 : Int) ≤ area; omega) (by show (2 : Int) + 2 * area ≤ N; omega)
  have b3 : ∀ x ∈ raw [headSc (fmtH area)], 0 ≤ x.1 ∧ x.1 < N := headSc_bound (by omega)
  obtain ⟨_, g1⟩ := hg.lays _ (by omega) b1
  obtain ⟨_, g2⟩ := g1.lays _ (by omega) b2
  have hz : ∀ i : Int, 0 ≤ i → i < 2 + 2 * area → (D.lays (fmt1 area)).S i = zblk := fun i h1 h2 => by
    show (D.lays (raw (zl area))).S i = zblk
    rw [hg.S_lays _ b1 i h1 (by omega)]
    exact layS_zl h1 h2
  refine (LawD.fmt ha hz).congr (fun i h1 h2 => ?_)
  have h2' : i < 2 + 2 * (area : Int) := h2
  show (((D.lays (raw (zl area))).lays (raw (partSc (fmtH area) 1 0 true [] bytes_nil))).lays (raw [headSc (fmtH area)])).S i = _
  rw [Dk.Good.S_lays _ g2 b3 i h1 (by omega)]
  refine layS_congr (N := N) _ _ _ (fun j h3 h4 => ?_) i h1 (by omega)
  rw [Dk.Good.S_lays _ g1 b2 j h3 h4, partL_raw]
  rfl

theorem law_app {X : Lg} {τ : Int} {D : Dk} {N : Nat} (h : LawD X τ D.S) (hg : D.Good N) (hN : 2 + 2 * X.h.area ≤ N) {b : List Int} (hb : Bytes b) (hl : b.length ≤ 40000) (hr : X.used + secsN b.length ≤ X.h.area) (hn : X.h.number + X.parts.length + 1 ≤ 2000000000) : LawD (X.add b) 1 (D.lays (X.apS b hb)).S := by
  have ha := h.says.area
  refine (h.add (τ' := 1) hl hr hn (by omega)).congr (fun i h1 h2 => ?_)
  have h2' : i < 2 + 2 * X.h.area := h2
  unfold Lg.apS
  rw [hg.S_lays _ (partSc_bound hb (by omega) hN) i h1 (by omega), partL_raw]

theorem shows_far {D : Dk} {K : Nat} (h : D.Ok K) {i : Nat} (hi : D.arr.length ≤ i) : D.shows i = [] := by
  have e : D.row.filter (fun x => x.1 == i) = [] := by
    rw [List.filter_eq_nil_iff]
    intro x hx
    have := (h.rblks x hx).2.1
    simp; omega
  unfold Dk.shows Dk.vers
  rw [e, List.getD_eq_getElem?_getD, List.getElem?_eq_none hi]
  rfl

theorem startN_nonneg {D : Dk} {K : Nat} (h : D.Ok K) (i : Int) : 0 ≤ startN (D.S i) := by
  unfold startN Dk.S
  by_cases hi : i.toNat < D.arr.length
  · exact be_nonneg (fun x hx => (shows_blk h hi).2 x (List.mem_of_mem_drop hx))
  · rw [shows_far h (by omega)]
    show (0 : Int) ≤ 0
    omega

/-- What Open does on a disk of a log that does not fail. -/
theorem openD_law {X : Lg} {τ : Int} {D : Dk} {N K : Nat} (h : LawD X τ D.S) (hg : D.Good N) (hok : D.Ok K) (hN : 2 + 2 * X.h.area ≤ N) (ht : X.h.turn < 1073741824) (hτ : τ ≤ X.h.turn + 1) :
    ∃ D', openD D = (some X.on, 0, D') ∧ D'.Good N ∧ LawD X.on (X.h.turn + 1) D'.S := by
  have ha := h.says.area
  obtain ⟨e0, g0, r0, s0⟩ := hg.callR (i := 0) (by omega)
  obtain ⟨e1, g1, r1, s1⟩ := g0.callR (i := 1) (by omega)
  have hc := h.counts
  obtain ⟨D2, f1, f2, f3, f4⟩ := foundD_good (h := X.h) (N := N) (by omega) hN 1001 [] 0 ((D.callD 0 false).callD 1 false) (by omega) g1
  have hlen : (X.parts.length : Int) ≤ X.used := by rw [h.sum]; exact len_le_used _
  have hfit := h.fits
  rw [s1, s0, h.found (startN_nonneg hok) (by omega)] at f1
  rw [s1, s0] at f3
  have hb := headSc_bound (h := X.on.h) (N := N) (by omega)
  obtain ⟨l1, l2⟩ := f2.lays (raw [headSc X.on.h]) (by omega) hb
  have hlaw := h.opened ht hτ
  refine ⟨D2.lays (raw [headSc X.on.h]), ?_, l2, hlaw.congr (fun i h1 h2 => ?_)⟩
  · unfold openD
    rw [if_pos e0, if_pos e1, r0, r1, s0, hc]
    unfold openH
    rw [if_neg (by have := g1.len; simp; omega)]
    show openP X.h (foundD X.h 1001 [] 0 _) = _
    rw [f1]
    unfold openP
    rw [if_pos rfl, if_neg (by have := h.one; simp; exact ⟨this, by omega⟩)]
    unfold openL
    rw [if_pos (by exact l1)]
    unfold Lg.on
    rw [h.sum]
    rfl
  · have h2' : i < 2 + 2 * X.h.area := h2
    rw [Dk.Good.S_lays _ f2 hb i h1 (by omega), f3]
    rfl

/-- Open, on a disk of a log that does not fail. -/
theorem open_good {p N K : Nat} {X : Lg} {τ : Int} {D : Dk} {F : Nat → Prop} (w : World) (hD : Dsk w p D F) (h : LawD X τ D.S) (hg : D.Good N) (hok : D.Ok K) (hK : K ≤ 1000000000) (hN : 2 + 2 * X.h.area ≤ N) (ht : X.h.turn < 1073741824) (hτ : τ ≤ X.h.turn + 1) :
    Calls Tryz.prog 61 #[.pointer (some ⟨p, 0, none⟩)] w fun e w' => ∃ q D' G' F', e = .returned (.tuple #[.pointer (some ⟨q, 0, none⟩), .int .i64 0]) ∧ WalG w' q p X.on D' G' F' N (K + 1002000) ∧ LawD X.on (X.h.turn + 1) D'.S ∧ (∀ k, G' k → w.heap.size ≤ k) ∧ (∀ k, F' k → F k ∨ w.heap.size ≤ k) ∧ Upd F w w' := by
  obtain ⟨D', e1, e2, e3⟩ := openD_law h hg hok hN ht hτ
  refine (open_any w hD hok (by omega)).mono ?_
  rintro e w' hx
  rw [e1] at hx
  obtain ⟨F', h1, h2, h3, h4, q, G', rfl, h5, h6, h7, h8⟩ := hx
  exact ⟨q, D', G', F', rfl, ⟨⟨h5, h1, h7⟩, h8, rfl, e2, h4, hN⟩, e3, h6, h2, h3⟩

end Go.Proofs.YtbimkhdiplnbfaaGreat
end

section
namespace Go.Proofs.YtbimkhdiplnbfaaGreat
set_option maxRecDepth 100000
open Go.RowKit Go.Shelf

theorem wp_appB2 {o : Oper} {a : Act} {K : Act → World → Prop} {Q : Exit → Act → World → Prop} {w : World} (s x : Operand) (ho : o.op = .call { callee := .builtin .append, args := #[s, x], argTypes := #[39, 39] })
    {base : Nat} {v vx : Value} {bs cs : List Int} (hs : a.eval s = v) (hown : OwnB w base v bs) (hx : a.eval x = vx) (hxx : BytesIn w vx cs) (hm : bs.length + cs.length ≤ 140737488351232) (hbase : base ≤ w.heap.size)
    (h : ∀ v' w', OwnB w' base v' (bs ++ cs) → Upd (fun k => v.ownBlock = some k) w w' → (v'.ownBlock = v.ownBlock ∨ v'.ownBlock = some w.heap.size) → K (a.put o.dst v') w') : o.wp Tryz.prog a w K Q := by
  have hrun : ∃ v' w', (Builtin.append_ #[39, 39] o.type #[v, vx]).run Tryz.prog w = .ok v' w' ∧ OwnB w' base v' (bs ++ cs) ∧ Upd (fun k => v.ownBlock = some k) w w' ∧ (v'.ownBlock = v.ownBlock ∨ v'.ownBlock = some w.heap.size) := by
    obtain ⟨i, hi, hz, hsz, hb⟩ := info_parts Tryz.info5p
    rcases hxx with ⟨rfl, rfl⟩ | ⟨ad, c, rfl, h1, h2, h3⟩
    · have hr := run_append_owned_none (P := Tryz.prog) (w := w) base 39 o.type 5 i 1 Tryz.underlying39 hi v bs.length (bcells bs) hown
      exact ⟨_, _, hr, by simpa using hown, Upd.refl _ _, .inl rfl⟩
    · obtain ⟨v', w', hr, g1, g2, _, g3⟩ := run_append_own_at (P := Tryz.prog) w base 39 o.type 5 i (.int .u8 0) 1 1 Tryz.underlying39 hi hz hsz hb rfl (by omega) v bs.length (bcells bs) hown ad cs.length c (bcells cs) (by simp [bcells]) h3 (bcells_one cs) (by unfold maxLen; omega) (by omega) hbase
      refine ⟨v', w', hr, ?_, Upd.of_grown g2 (fun k hk => hk), g3⟩
      unfold OwnB
      rw [bcells_append, List.length_append]
      exact g1
  obtain ⟨v', w', hr, g1, g2, g3⟩ := hrun
  exact Lib.wp_append_run w s x 39 39 ho v vx hs hx v' w' hr (h v' w' g1 g2 g3)

theorem own_nil {B : Nat} (W : World) (hb : B ≤ W.heap.size) : OwnB (W.alloc (.cells #[] 5)) B (.slice (some ⟨W.heap.size, 0, none⟩) 0 0) [] :=
  ⟨rfl, .inr ⟨W.heap.size, 0, _, rfl, hb, alloc_at rfl, Nat.le_refl _, by unfold maxLen; omega, rfl, rfl⟩⟩

theorem SetRow.low {w : World} {B B' : Nat} {C : Nat → Prop} {sv : Value} {l : List SetV} (h : SetRow w B C sv l) (hb : B' ≤ B) : SetRow w B' C sv l := by
  obtain ⟨L, h0, ⟨h1, h2⟩, h3, h4⟩ := h
  refine ⟨L, h0, ⟨h1, ?_⟩, h3, h4⟩
  rcases h2 with h2 | ⟨g, cap, cur, e, hg, r⟩
  · exact .inl h2
  · exact .inr ⟨g, cap, cur, e, Nat.le_trans hb hg, r⟩

/-- What holds between the rounds of the copying. -/
structure CpAt (w : World) (ev : Int) (fl : Bool) (l : List SetV) (W : World) : Prop where
  out : ∃ (C : Nat → Prop) (a : Option Addr) (c : Nat), W.heap[w.heap.size + 2]? = some (.cells #[.int .u64 ev, .bool fl, .slice a l.length c] 56 (0, 0)) ∧ SetRow W (w.heap.size + 2 + 1) C (.slice a l.length c) l ∧ RowC W C ∧ ∀ k, C k → w.heap.size + 2 < k
  res : W.heap[w.heap.size + 1]? = some (.cells #[.int .u64 0, .bool false, .slice none 0 0] 56 (0, 0))
  upd : Upd (fun _ => False) w W

/-- A batch of one's own. -/
def CopyAns (w : World) (B : BatchV) (e : Ending) (w' : World) : Prop :=
  ∃ a c, e = .returned (batchV B a c) ∧ (∃ C, SetRow w' w.heap.size C (.slice a B.sets.length c) B.sets ∧ RowC w' C ∧ ∀ k, C k → w.heap.size ≤ k) ∧ B.sets.length ≤ c ∧ Upd (fun _ => False) w w'

set_option maxHeartbeats 8000000 in
theorem copied_any {c : Nat} {a : Option Addr} {B : BatchV} (w : World) (hs : SetsIn w a B.sets) (hb : ∀ x ∈ B.sets, Bytes x.old ∧ Bytes x.new) (hl : B.sets.length ≤ 1000000) :
    Calls Tryz.prog 20 #[batchV B a c] w (CopyAns w B) := by
  obtain ⟨w1, hw1⟩ : ∃ w1, w1 = (w.alloc (.cells #[.int .u64 B.epoch, .bool B.large, .slice a B.sets.length c] 56)).alloc (.cells #[.int .u64 0, .bool false, .slice none 0 0] 56) := ⟨_, rfl⟩
  have hx1 : w1.heap[w.heap.size]? = some (.cells #[.int .u64 B.epoch, .bool B.large, .slice a B.sets.length c] 56 (0, 0)) := by rw [hw1, alloc_lt (by simp)]; exact alloc_at rfl
  have hr1 : w1.heap[w.heap.size + 1]? = some (.cells #[.int .u64 0, .bool false, .slice none 0 0] 56 (0, 0)) := by rw [hw1]; exact alloc_at (by simp)
  have hz1 : w1.heap.size = w.heap.size + 2 := by rw [hw1]; simp
  have hu1 : Upd (fun _ => False) w w1 := by rw [hw1]; exact ((Upd.refl _ w).alloc _).alloc _
  obtain ⟨z0, z1, z2⟩ := cells3_of hx1
  have HW1 := Lib.hid hw1; have HS := Lib.hid hs; have HBB := Lib.hid hb; have HX1 := Lib.hid hx1; have HR1 := Lib.hid hr1; have HZ1 := Lib.hid hz1; have HU1 := Lib.hid hu1
  clear hw1 hs hb hx1 hr1 hz1 hu1
  unfold batchV
  go_enter Tryz.func20, Tryz.ntmps20
  go_upto_region 1 with fail
  rw [← HW1.out]
  go_upto_region 2 with fail
  rw [HZ1.out]
  obtain ⟨w2, hw2⟩ : ∃ w2, w2 = w1.alloc (.cells #[.int .u64 B.epoch, .bool B.large, .slice none 0 0] 56) := ⟨_, rfl⟩
  rw [← hw2]
  have hu2 : Upd (fun _ => False) w1 w2 := by rw [hw2]; exact (Upd.refl _ w1).alloc _
  have ho2 : w2.heap[w.heap.size + 2]? = some (.cells #[.int .u64 B.epoch, .bool B.large, .slice none 0 0] 56 (0, 0)) := by rw [hw2]; exact alloc_at HZ1.out.symm
  have hx2 := (hu2.block _ (lt_of_heap HX1.out) (fun e => e)).trans HX1.out
  obtain ⟨z0, z1, z2⟩ := cells3_of hx2
  have hd : CpAt w B.epoch B.large [] w2 := ⟨⟨fun _ => False, none, 0, ho2, SetRow.nil _ _ _, fun k hk => hk.elim, fun k hk => hk.elim⟩, (hu2.block _ (lt_of_heap HR1.out) (fun e => e)).trans HR1.out, HU1.out.trans hu2⟩
  have HD := Lib.hid hd
  clear hw2 hu2 ho2 hx2 hd HW1 HX1 HR1 HZ1 HU1
  go_upto_block 0 with fail
  go_upto_region 3 with fail
  go_loopg [14] B.sets.length (fun gk i wr => ∃ k : Nat, k ≤ B.sets.length ∧ gk = B.sets.length - k ∧ i = .int .i64 k ∧ CpAt w B.epoch B.large (B.sets.take k) wr)
  case atStart => exact ⟨0, Nat.zero_le _, rfl, rfl, HD.out⟩
  case round =>
    obtain ⟨k, hk, rfl, rfl, hd⟩ := hrel
    have HD := Lib.hid hd
    clear hd
    by_cases hkn : k < B.sets.length
    · have hkni : (k : Int) < B.sets.length := by omega
      obtain ⟨x, hx⟩ : ∃ x, B.sets[k]? = some x := ⟨_, List.getElem?_eq_getElem hkn⟩
      obtain ⟨g1, g2, g3, b, o, ea, oa, oc, na, nc, h0, h1, h2, h3, h4, h5, h6, _⟩ := HS.out k x hx
      subst ea
      have kc : ∀ {o : Nat} {v : Value}, w.cell? ⟨b, o, none⟩ = some v → wr.cell? ⟨b, o, none⟩ = some v := fun h => cell_keptF HD.out.upd (fun e => e) h
      have q0 := kc h0; have q1 := kc h1; have q2 := kc h2; have q3 := kc h3; have q4 := kc h4
      have hxx : B.sets[k] = x := by rw [List.getElem?_eq_getElem hkn] at hx; injection hx
      have hnext : B.sets.take (k + 1) = B.sets.take k ++ [x] := by rw [List.take_succ_eq_append_getElem hkn, hxx]
      have hxf : x.fine := by
        have := HBB.out x (List.mem_of_getElem? hx)
        exact ⟨g1, g2, g3, this.1, this.2⟩
      have hll : (B.sets.take k).length = k := by simp; omega
      have HNEXT := Lib.hid hnext; have HXF := Lib.hid hxf; have HLL := Lib.hid hll
      have H5 := Lib.hid (h5.kept HD.out.upd); have H6 := Lib.hid (h6.kept HD.out.upd)
      clear h0 h1 h2 h3 h4 h5 h6 kc hx hxx hnext hxf hll
      go_upto_region 5 with fail
      obtain ⟨b5, hb5⟩ : ∃ b5, b5 = wr.heap.size := ⟨_, rfl⟩
      obtain ⟨w3, hw3⟩ : ∃ w3, w3 = wr.alloc (.cells #[.string x.name, .bool x.was, .bool x.is, .slice oa x.old.length oc, .slice na x.new.length nc] 73) := ⟨_, rfl⟩
      rw [← hw3, ← hb5]
      have hu3 : Upd (fun _ => False) wr w3 := by rw [hw3]; exact (Upd.refl _ wr).alloc _
      have hx3 : w3.heap[b5]? = some (.cells #[.string x.name, .bool x.was, .bool x.is, .slice oa x.old.length oc, .slice na x.new.length nc] 73 (0, 0)) := by rw [hw3]; exact alloc_at hb5
      have hA : w3.drew.heap[b5]? = some (.cells #[.string x.name, .bool x.was, .bool x.is, .slice oa x.old.length oc, .slice na x.new.length nc] 73 (0, 0)) := hx3
      have HU := Lib.hid (hu3.drew); have HB5 := Lib.hid hb5
      clear hw3 hu3 hx3 q0 q1 q2 q3 q4 hb5
      go_cut [14] from 18 to 28 (fun i wx => i = .int .i64 k ∧ ∃ p1a p1m p1c p2a p2m p2c, wx.heap[b5]? = some (.cells #[.string x.name, .bool x.was, .bool x.is, .slice p1a p1m p1c, .slice p2a p2m p2c] 73 (0, 0)) ∧ OwnB wx wr.heap.size (.slice p1a p1m p1c) ([] ++ x.old) ∧ OwnB wx wr.heap.size (.slice p2a p2m p2c) ([] ++ x.new) ∧ Upd (fun _ => False) wr wx)
      case first =>
        refine wp_region_G 9 (fun W => W.heap[b5]? = some (.cells #[.string x.name, .bool x.was, .bool x.is, .slice oa x.old.length oc, .slice na x.new.length nc] 73 (0, 0))) [false, false, false, false, false, false, false, false, false, false, false, false] rfl (by kernel_rfl) ?_
        generalize w3.drew = wd at hA HU ⊢
        refine wpG_takeT (i := 1) (v := .pointer (some ⟨b5, 3, none⟩)) rfl (fun L hc h => (hc.waits (n := 9) (i := 1) (by kernel_rfl) h)) (by kernel_rfl) (fun _ _ _ h => h) hA (.inl ⟨rfl, fun w5 q1 => ?_⟩) ?_
        · go_simp
        simp only [Act.put, List.setIfInBounds_toArray, List.set]
        refine wpG_takeT (i := 2) (v := .slice oa x.old.length oc) rfl (fun L hc h => (hc.waits (n := 9) (i := 2) (by kernel_rfl) h)) (by kernel_rfl) (fun _ _ _ h => h) hA (.inl ⟨rfl, fun w5 q1 => ?_⟩) ?_
        · obtain ⟨x0, x1, x2, x3, x4⟩ := cells5_of q1
          go_simp
        simp only [Act.put, List.setIfInBounds_toArray, List.set]
        refine wpG_takeT (i := 5) (v := .pointer (some ⟨b5, 4, none⟩)) rfl (fun L hc h => (hc.waits (n := 9) (i := 5) (by kernel_rfl) h)) (by kernel_rfl) (fun _ _ _ h => h) hA (.inl ⟨rfl, fun w5 q1 => ?_⟩) ?_
        · go_simp
        simp only [Act.put, List.setIfInBounds_toArray, List.set]
        refine wpG_takeT (i := 6) (v := .slice na x.new.length nc) rfl (fun L hc h => (hc.waits (n := 9) (i := 6) (by kernel_rfl) h)) (by kernel_rfl) (fun _ _ _ h => h) hA (.inl ⟨rfl, fun w5 q1 => ?_⟩) ?_
        · obtain ⟨x0, x1, x2, x3, x4⟩ := cells5_of q1
          go_simp
        simp only [Act.put, List.setIfInBounds_toArray, List.set]
        refine wpG_do2 (i := 0) (j := 4) rfl rfl (by kernel_rfl) rfl rfl (fun K hK => ?_) (fun K hK => ?_)
        · have HKK := Lib.hid hK
          clear hK
          go_step
          have ua : Upd (fun _ => False) wd (wd.alloc (.cells #[] 5)) := (Upd.refl _ _).alloc _
          have HO1 := Lib.hid (own_nil wd HU.out.size)
          have hA := (ua.block _ (lt_of_heap hA) (fun e => e)).trans hA
          have HU := Lib.hid (HU.out.trans ua)
          refine HKK.out _ _ hA ?_
          clear HKK ua
          simp only [Act.put, List.setIfInBounds_toArray, List.set]
          generalize wd.alloc (.cells #[] 5) = wd1 at HO1 hA HU ⊢
          refine wpG_do2 (i := 3) (j := 4) rfl rfl (by kernel_rfl) rfl rfl (fun K hK => ?_) (fun K hK => ?_)
          · have HKK := Lib.hid hK
            clear hK
            refine wp_appB2 (.tmp 18) (.tmp 20) rfl rfl HO1.out rfl (H5.out.kept HU.out) (by simp only [List.length_nil]; omega) HU.out.size ?_
            intro v1 wd1a g1 g2 g3
            obtain ⟨p1a, p1m, p1c, rfl⟩ := g1.bytesAt.1.slice'
            have hA := (g2.block _ (lt_of_heap hA) (fun e => own_apart HO1.out hA (by decide) _ e rfl)).trans hA
            have HU := Lib.hid (HU.out.step g2 (fun j hj e => by have := (HO1.out.lt j e).1; omega))
            have HO1 := Lib.hid g1
            refine HKK.out _ _ hA ?_
            clear HKK g1 g2 g3
            simp only [Act.put, List.setIfInBounds_toArray, List.set]
            refine wpG_takeT (i := 8) (v := .pointer (some ⟨b5, 3, none⟩)) rfl (fun L hc h => (hc.waits (n := 9) (i := 8) (by kernel_rfl) h)) (by kernel_rfl) (fun _ _ _ h => h) hA (.inl ⟨rfl, fun w5 q1 => ?_⟩) ?_
            · go_simp
            simp only [Act.put, List.setIfInBounds_toArray, List.set]
            refine wpG_do (i := 4) rfl (by kernel_rfl) rfl (fun K hK => ?_)
            have HKK := Lib.hid hK
            clear hK
            go_step
            have ua : Upd (fun _ => False) wd1a (wd1a.alloc (.cells #[] 5)) := (Upd.refl _ _).alloc _
            have HO2 := Lib.hid (own_nil wd1a HU.out.size)
            have hA := (ua.block _ (lt_of_heap hA) (fun e => e)).trans hA
            have HNE : RowKit.Hid (∀ k, (Value.slice p1a p1m p1c).ownBlock = some k → ¬ (Value.slice (some ⟨wd1a.heap.size, 0, none⟩) 0 0).ownBlock = some k) := Lib.hid (fun k h1 h2 => by have := (HO1.out.lt k h1).2; simp [Value.ownBlock] at h2; omega)
            have HO1 := Lib.hid (OwnB.keptF HO1.out ua (fun _ _ e => e))
            have HU := Lib.hid (HU.out.trans ua)
            refine HKK.out _ _ hA ?_
            clear HKK ua
            simp only [Act.put, List.setIfInBounds_toArray, List.set]
            generalize wd1a.alloc (.cells #[] 5) = wd1a2 at HO2 hA HU HO1 ⊢
            refine wpG_do (i := 7) rfl (by kernel_rfl) rfl (fun K hK => ?_)
            have HKK := Lib.hid hK
            clear hK
            refine wp_appB2 (.tmp 22) (.tmp 24) rfl rfl HO2.out rfl (H6.out.kept HU.out) (by simp only [List.length_nil]; omega) HU.out.size ?_
            intro v2 wd1a2a g1 g2 g3
            obtain ⟨p2a, p2m, p2c, rfl⟩ := g1.bytesAt.1.slice'
            have hA := (g2.block _ (lt_of_heap hA) (fun e => own_apart HO2.out hA (by decide) _ e rfl)).trans hA
            have HNE2 : RowKit.Hid (∀ k, (Value.slice p1a p1m p1c).ownBlock = some k → ¬ (Value.slice p2a p2m p2c).ownBlock = some k) := Lib.hid (fun k h1 h2 => by
              rcases g3 with g3 | g3
              · exact HNE.out k h1 (g3 ▸ h2)
              · have := (HO1.out.lt k h1).2; rw [g3] at h2; injection h2; omega)
            have HO1 := Lib.hid (OwnB.keptF HO1.out g2 (fun k hk e => HNE.out k hk e))
            have HNE := HNE2
            clear HNE2
            have HU := Lib.hid (HU.out.step g2 (fun j hj e => by have := (HO2.out.lt j e).1; omega))
            have HO2 := Lib.hid g1
            refine HKK.out _ _ hA ?_
            clear HKK g1 g2 g3
            simp only [Act.put, List.setIfInBounds_toArray, List.set]
            refine wpG_tail_lit (k := 9) rfl rfl (by kernel_rfl) ?_
            simp only [List.drop]
            obtain ⟨x0, x1, x2, x3, x4⟩ := cells5_of hA
            have f3 : wd1a2a.frozen? ⟨b5, 3, none⟩ = false := frozen_of_heap hA
            have f4 : wd1a2a.frozen? ⟨b5, 4, none⟩ = false := frozen_of_heap hA
            have HX := Lib.hid hA
            clear hA
            go_wp2
            go_meet
            case rel =>
              obtain ⟨w9, hw9⟩ : ∃ w9, w9 = (wd1a2a.setCell ⟨b5, 3, none⟩ (.slice p1a p1m p1c)).setCell ⟨b5, 4, none⟩ (.slice p2a p2m p2c) := ⟨_, rfl⟩
              rw [← hw9]
              have hu9 : Upd (fun k => k = b5) wd1a2a w9 := by rw [hw9]; exact (upd_own wd1a2a b5 3 _).trans (upd_own _ b5 4 _)
              have hx9 : w9.heap[b5]? = some (.cells #[.string x.name, .bool x.was, .bool x.is, .slice p1a p1m p1c, .slice p2a p2m p2c] 73 (0, 0)) := by
                rw [hw9]
                have := blk_set (i := 4) (v := .slice p2a p2m p2c) (blk_set (i := 3) (v := .slice p1a p1m p1c) HX.out)
                simpa using this
              exact ⟨rfl, p1a, p1m, p1c, p2a, p2m, p2c, hx9, OwnB.keptF HO1.out hu9 (fun k hk => own_apart HO1.out HX.out (by decide) k hk), OwnB.keptF HO2.out hu9 (fun k hk => own_apart HO2.out HX.out (by decide) k hk), HU.out.step hu9 (fun k hk e => by have := HB5.out; omega)⟩
          · have HKK := Lib.hid hK
            clear hK
            go_step
            have ua : Upd (fun _ => False) wd1 (wd1.alloc (.cells #[] 5)) := (Upd.refl _ _).alloc _
            have HO2 := Lib.hid (own_nil wd1 HU.out.size)
            have hA := (ua.block _ (lt_of_heap hA) (fun e => e)).trans hA
            have HNE : RowKit.Hid (∀ k, (Value.slice (some ⟨wd.heap.size, 0, none⟩) 0 0).ownBlock = some k → ¬ (Value.slice (some ⟨wd1.heap.size, 0, none⟩) 0 0).ownBlock = some k) := Lib.hid (fun k h1 h2 => by have := (HO1.out.lt k h1).2; simp [Value.ownBlock] at h2; omega)
            have HO1 := Lib.hid (OwnB.keptF HO1.out ua (fun _ _ e => e))
            have HU := Lib.hid (HU.out.trans ua)
            refine HKK.out _ _ hA ?_
            clear HKK ua
            simp only [Act.put, List.setIfInBounds_toArray, List.set]
            generalize wd1.alloc (.cells #[] 5) = wd12 at HO2 hA HU HO1 ⊢
            refine wpG_do (i := 3) rfl (by kernel_rfl) rfl (fun K hK => ?_)
            have HKK := Lib.hid hK
            clear hK
            refine wp_appB2 (.tmp 18) (.tmp 20) rfl rfl HO1.out rfl (H5.out.kept HU.out) (by simp only [List.length_nil]; omega) HU.out.size ?_
            intro v1 wd12a g1 g2 g3
            obtain ⟨p1a, p1m, p1c, rfl⟩ := g1.bytesAt.1.slice'
            have hA := (g2.block _ (lt_of_heap hA) (fun e => own_apart HO1.out hA (by decide) _ e rfl)).trans hA
            have HNE2 : RowKit.Hid (∀ k, (Value.slice p1a p1m p1c).ownBlock = some k → ¬ (Value.slice (some ⟨wd1.heap.size, 0, none⟩) 0 0).ownBlock = some k) := Lib.hid (fun k h1 h2 => by
              rcases g3 with g3 | g3
              · exact HNE.out k (g3 ▸ h1) h2
              · have := (HO2.out.lt k h2).2; rw [g3] at h1; injection h1; omega)
            have HO2 := Lib.hid (OwnB.keptF HO2.out g2 (fun k hk e => HNE.out k e hk))
            have HNE := HNE2
            clear HNE2
            have HU := Lib.hid (HU.out.step g2 (fun j hj e => by have := (HO1.out.lt j e).1; omega))
            have HO1 := Lib.hid g1
            refine HKK.out _ _ hA ?_
            clear HKK g1 g2 g3
            simp only [Act.put, List.setIfInBounds_toArray, List.set]
            refine wpG_takeT (i := 8) (v := .pointer (some ⟨b5, 3, none⟩)) rfl (fun L hc h => (hc.waits (n := 9) (i := 8) (by kernel_rfl) h)) (by kernel_rfl) (fun _ _ _ h => h) hA (.inl ⟨rfl, fun w5 q1 => ?_⟩) ?_
            · go_simp
            simp only [Act.put, List.setIfInBounds_toArray, List.set]
            refine wpG_do (i := 7) rfl (by kernel_rfl) rfl (fun K hK => ?_)
            have HKK := Lib.hid hK
            clear hK
            refine wp_appB2 (.tmp 22) (.tmp 24) rfl rfl HO2.out rfl (H6.out.kept HU.out) (by simp only [List.length_nil]; omega) HU.out.size ?_
            intro v2 wd12aa g1 g2 g3
            obtain ⟨p2a, p2m, p2c, rfl⟩ := g1.bytesAt.1.slice'
            have hA := (g2.block _ (lt_of_heap hA) (fun e => own_apart HO2.out hA (by decide) _ e rfl)).trans hA
            have HNE2 : RowKit.Hid (∀ k, (Value.slice p1a p1m p1c).ownBlock = some k → ¬ (Value.slice p2a p2m p2c).ownBlock = some k) := Lib.hid (fun k h1 h2 => by
              rcases g3 with g3 | g3
              · exact HNE.out k h1 (g3 ▸ h2)
              · have := (HO1.out.lt k h1).2; rw [g3] at h2; injection h2; omega)
            have HO1 := Lib.hid (OwnB.keptF HO1.out g2 (fun k hk e => HNE.out k hk e))
            have HNE := HNE2
            clear HNE2
            have HU := Lib.hid (HU.out.step g2 (fun j hj e => by have := (HO2.out.lt j e).1; omega))
            have HO2 := Lib.hid g1
            refine HKK.out _ _ hA ?_
            clear HKK g1 g2 g3
            simp only [Act.put, List.setIfInBounds_toArray, List.set]
            refine wpG_tail_lit (k := 9) rfl rfl (by kernel_rfl) ?_
            simp only [List.drop]
            obtain ⟨x0, x1, x2, x3, x4⟩ := cells5_of hA
            have f3 : wd12aa.frozen? ⟨b5, 3, none⟩ = false := frozen_of_heap hA
            have f4 : wd12aa.frozen? ⟨b5, 4, none⟩ = false := frozen_of_heap hA
            have HX := Lib.hid hA
            clear hA
            go_wp2
            go_meet
            case rel =>
              obtain ⟨w9, hw9⟩ : ∃ w9, w9 = (wd12aa.setCell ⟨b5, 3, none⟩ (.slice p1a p1m p1c)).setCell ⟨b5, 4, none⟩ (.slice p2a p2m p2c) := ⟨_, rfl⟩
              rw [← hw9]
              have hu9 : Upd (fun k => k = b5) wd12aa w9 := by rw [hw9]; exact (upd_own wd12aa b5 3 _).trans (upd_own _ b5 4 _)
              have hx9 : w9.heap[b5]? = some (.cells #[.string x.name, .bool x.was, .bool x.is, .slice p1a p1m p1c, .slice p2a p2m p2c] 73 (0, 0)) := by
                rw [hw9]
                have := blk_set (i := 4) (v := .slice p2a p2m p2c) (blk_set (i := 3) (v := .slice p1a p1m p1c) HX.out)
                simpa using this
              exact ⟨rfl, p1a, p1m, p1c, p2a, p2m, p2c, hx9, OwnB.keptF HO1.out hu9 (fun k hk => own_apart HO1.out HX.out (by decide) k hk), OwnB.keptF HO2.out hu9 (fun k hk => own_apart HO2.out HX.out (by decide) k hk), HU.out.step hu9 (fun k hk e => by have := HB5.out; omega)⟩
        · have HKK := Lib.hid hK
          clear hK
          go_step
          have ua : Upd (fun _ => False) wd (wd.alloc (.cells #[] 5)) := (Upd.refl _ _).alloc _
          have HO2 := Lib.hid (own_nil wd HU.out.size)
          have hA := (ua.block _ (lt_of_heap hA) (fun e => e)).trans hA
          have HU := Lib.hid (HU.out.trans ua)
          refine HKK.out _ _ hA ?_
          clear HKK ua
          simp only [Act.put, List.setIfInBounds_toArray, List.set]
          generalize wd.alloc (.cells #[] 5) = wd2 at HO2 hA HU ⊢
          refine wpG_do (i := 0) rfl (by kernel_rfl) rfl (fun K hK => ?_)
          have HKK := Lib.hid hK
          clear hK
          go_step
          have ua : Upd (fun _ => False) wd2 (wd2.alloc (.cells #[] 5)) := (Upd.refl _ _).alloc _
          have HO1 := Lib.hid (own_nil wd2 HU.out.size)
          have hA := (ua.block _ (lt_of_heap hA) (fun e => e)).trans hA
          have HNE : RowKit.Hid (∀ k, (Value.slice (some ⟨wd2.heap.size, 0, none⟩) 0 0).ownBlock = some k → ¬ (Value.slice (some ⟨wd.heap.size, 0, none⟩) 0 0).ownBlock = some k) := Lib.hid (fun k h1 h2 => by have := (HO2.out.lt k h2).2; simp [Value.ownBlock] at h1; omega)
          have HO2 := Lib.hid (OwnB.keptF HO2.out ua (fun _ _ e => e))
          have HU := Lib.hid (HU.out.trans ua)
          refine HKK.out _ _ hA ?_
          clear HKK ua
          simp only [Act.put, List.setIfInBounds_toArray, List.set]
          generalize wd2.alloc (.cells #[] 5) = wd21 at HO1 hA HU HO2 ⊢
          refine wpG_do (i := 3) rfl (by kernel_rfl) rfl (fun K hK => ?_)
          have HKK := Lib.hid hK
          clear hK
          refine wp_appB2 (.tmp 18) (.tmp 20) rfl rfl HO1.out rfl (H5.out.kept HU.out) (by simp only [List.length_nil]; omega) HU.out.size ?_
          intro v1 wd21a g1 g2 g3
          obtain ⟨p1a, p1m, p1c, rfl⟩ := g1.bytesAt.1.slice'
          have hA := (g2.block _ (lt_of_heap hA) (fun e => own_apart HO1.out hA (by decide) _ e rfl)).trans hA
          have HNE2 : RowKit.Hid (∀ k, (Value.slice p1a p1m p1c).ownBlock = some k → ¬ (Value.slice (some ⟨wd.heap.size, 0, none⟩) 0 0).ownBlock = some k) := Lib.hid (fun k h1 h2 => by
            rcases g3 with g3 | g3
            · exact HNE.out k (g3 ▸ h1) h2
            · have := (HO2.out.lt k h2).2; rw [g3] at h1; injection h1; omega)
          have HO2 := Lib.hid (OwnB.keptF HO2.out g2 (fun k hk e => HNE.out k e hk))
          have HNE := HNE2
          clear HNE2
          have HU := Lib.hid (HU.out.step g2 (fun j hj e => by have := (HO1.out.lt j e).1; omega))
          have HO1 := Lib.hid g1
          refine HKK.out _ _ hA ?_
          clear HKK g1 g2 g3
          simp only [Act.put, List.setIfInBounds_toArray, List.set]
          refine wpG_takeT (i := 8) (v := .pointer (some ⟨b5, 3, none⟩)) rfl (fun L hc h => (hc.waits (n := 9) (i := 8) (by kernel_rfl) h)) (by kernel_rfl) (fun _ _ _ h => h) hA (.inl ⟨rfl, fun w5 q1 => ?_⟩) ?_
          · go_simp
          simp only [Act.put, List.setIfInBounds_toArray, List.set]
          refine wpG_do (i := 7) rfl (by kernel_rfl) rfl (fun K hK => ?_)
          have HKK := Lib.hid hK
          clear hK
          refine wp_appB2 (.tmp 22) (.tmp 24) rfl rfl HO2.out rfl (H6.out.kept HU.out) (by simp only [List.length_nil]; omega) HU.out.size ?_
          intro v2 wd21aa g1 g2 g3
          obtain ⟨p2a, p2m, p2c, rfl⟩ := g1.bytesAt.1.slice'
          have hA := (g2.block _ (lt_of_heap hA) (fun e => own_apart HO2.out hA (by decide) _ e rfl)).trans hA
          have HNE2 : RowKit.Hid (∀ k, (Value.slice p1a p1m p1c).ownBlock = some k → ¬ (Value.slice p2a p2m p2c).ownBlock = some k) := Lib.hid (fun k h1 h2 => by
            rcases g3 with g3 | g3
            · exact HNE.out k h1 (g3 ▸ h2)
            · have := (HO1.out.lt k h1).2; rw [g3] at h2; injection h2; omega)
          have HO1 := Lib.hid (OwnB.keptF HO1.out g2 (fun k hk e => HNE.out k hk e))
          have HNE := HNE2
          clear HNE2
          have HU := Lib.hid (HU.out.step g2 (fun j hj e => by have := (HO2.out.lt j e).1; omega))
          have HO2 := Lib.hid g1
          refine HKK.out _ _ hA ?_
          clear HKK g1 g2 g3
          simp only [Act.put, List.setIfInBounds_toArray, List.set]
          refine wpG_tail_lit (k := 9) rfl rfl (by kernel_rfl) ?_
          simp only [List.drop]
          obtain ⟨x0, x1, x2, x3, x4⟩ := cells5_of hA
          have f3 : wd21aa.frozen? ⟨b5, 3, none⟩ = false := frozen_of_heap hA
          have f4 : wd21aa.frozen? ⟨b5, 4, none⟩ = false := frozen_of_heap hA
          have HX := Lib.hid hA
          clear hA
          go_wp2
          go_meet
          case rel =>
            obtain ⟨w9, hw9⟩ : ∃ w9, w9 = (wd21aa.setCell ⟨b5, 3, none⟩ (.slice p1a p1m p1c)).setCell ⟨b5, 4, none⟩ (.slice p2a p2m p2c) := ⟨_, rfl⟩
            rw [← hw9]
            have hu9 : Upd (fun k => k = b5) wd21aa w9 := by rw [hw9]; exact (upd_own wd21aa b5 3 _).trans (upd_own _ b5 4 _)
            have hx9 : w9.heap[b5]? = some (.cells #[.string x.name, .bool x.was, .bool x.is, .slice p1a p1m p1c, .slice p2a p2m p2c] 73 (0, 0)) := by
              rw [hw9]
              have := blk_set (i := 4) (v := .slice p2a p2m p2c) (blk_set (i := 3) (v := .slice p1a p1m p1c) HX.out)
              simpa using this
            exact ⟨rfl, p1a, p1m, p1c, p2a, p2m, p2c, hx9, OwnB.keptF HO1.out hu9 (fun k hk => own_apart HO1.out HX.out (by decide) k hk), OwnB.keptF HO2.out hu9 (fun k hk => own_apart HO2.out HX.out (by decide) k hk), HU.out.step hu9 (fun k hk e => by have := HB5.out; omega)⟩
      case rest =>
        obtain ⟨rfl, ua, um, uc, oa4, om4, oc4, hx15, hm1, hm2, hu⟩ := hcut
        simp only [List.nil_append] at hm1 hm2
        obtain ⟨m1, rc1, lb1⟩ := hm1.bytesAt
        obtain ⟨m2, rc2, lb2⟩ := hm2.bytesAt
        have M1 := Lib.hid m1; have RC1 := Lib.hid rc1; have LB1 := Lib.hid lb1
        have M2 := Lib.hid m2; have RC2 := Lib.hid rc2; have LB2 := Lib.hid lb2
        obtain ⟨ob, hob⟩ : ∃ ob, ob = w.heap.size + 2 := ⟨_, rfl⟩
        obtain ⟨C, la, lc, ho1, ho2, ho3, ho4⟩ := HD.out.out
        rw [HLL.out] at ho1 ho2
        rw [← hob] at ho1 ho2 ho4
        rw [← hob]
        have hobr : ob < wr.heap.size := lt_of_heap ho1
        have hob9 := (hu.block _ (lt_of_heap ho1) (fun e => e)).trans ho1
        have hrow9 := ho2.kept hu (fun k hk e => e) (fun k hk e => e)
        have hrc9 := ho3.kept hu (fun k hk e => e)
        obtain ⟨x0, x1, x2, x3, x4⟩ := cells5_of hx15
        have y2 := (cells3_of hob9).2.2
        have HOB := Lib.hid hob9; have HROW := Lib.hid hrow9; have HRC := Lib.hid hrc9; have HC4 := Lib.hid ho4
        have HU := Lib.hid hu; have HX := Lib.hid hx15; have HOBE := Lib.hid hob
        clear m1 m2 rc1 rc2 lb1 lb2 hm1 hm2 hx15 hu ho1 ho2 ho3 ho4 hob9 hrow9 hrc9 hob H5 H6
        iterate 14 go_step
        obtain ⟨L, hLm, hLo, hLb, hLf⟩ := HROW.out
        rw [HLL.out] at hLo
        have hLl := hLo.lt
        have hz9 : ob < wc.heap.size := lt_of_heap HOB.out
        have hel : elC (x, .slice ua um uc, .slice oa4 om4 oc4) = [.string x.name, .bool x.was, .bool x.is, .slice ua um uc, .slice oa4 om4 oc4] := rfl
        obtain ⟨i0, hi0, hz0, hz1, hz2⟩ := info_parts Tryz.info73p
        refine wpList_append_lies _ rfl (.tmp 29) (.tmp 31) 54 rfl (ob + 1) 73 i0 _ 5 72 Tryz.underlying54 hi0 hz0 hz1 hz2 rfl (by omega) (.slice la k lc) _ _ rfl (hLo.alloc _) ⟨wc.heap.size, 0, none⟩ 1 1 (elC (x, .slice ua um uc, .slice oa4 om4 oc4)) rfl
          rfl (World.news_of_block (cs := (elC (x, .slice ua um uc, .slice oa4 om4 oc4)).toArray) (t := 73) (fr := (0, 0)) (by rw [hel]; exact heap_alloc_new _ _)) (by rw [hel]; simp [Value.oneCell']) (by omega) (by unfold maxLen; omega) (by omega) (by simp; omega) (wc.heap.size + 1) (by simp) ?_
        intro g cap w16 hown hgrow hat hlt
        have hu16 : Upd (fun k' => (Value.slice la k lc).ownBlock = some k') wc w16 := ((Upd.refl _ wc).alloc _).trans (Upd.of_grown hgrow (fun k hk => hk))
        have hob10 := (hu16.block _ hz9 (fun e => by have := hLl ob e; omega)).trans HOB.out
        have hgob : ob < g := by
          rcases hat with e | e
          · have := hLl g e; omega
          · omega
        have y2 := (cells3_of hob10).2.2
        have g2 : w16.frozen? ⟨ob, 2, none⟩ = false := frozen_of_heap hob10
        have hcu := HROW.out.apart HRC.out
        have hcu1 := HROW.out.apart RC1.out
        have hcu2 := HROW.out.apart RC2.out
        obtain ⟨C', hC'⟩ : ∃ C' : Nat → Prop, C' = fun k => C k ∨ (Value.slice ua um uc).ownBlock = some k ∨ (Value.slice oa4 om4 oc4).ownBlock = some k := ⟨_, rfl⟩
        have hc1 : ∀ k, C k → C' k := fun k hk => by rw [hC']; exact .inl hk
        have hc2 : ∀ k, (Value.slice ua um uc).ownBlock = some k → C' k := fun k hk => by rw [hC']; exact .inr (.inl hk)
        have hc3 : ∀ k, (Value.slice oa4 om4 oc4).ownBlock = some k → C' k := fun k hk => by rw [hC']; exact .inr (.inr hk)
        have hrc : RowC wc C' := fun k hk => by
          rw [hC'] at hk
          rcases hk with hk | hk | hk
          · exact HRC.out k hk
          · exact RC1.out k hk
          · exact RC2.out k hk
        have hcob : ∀ k, C' k → ob < k := fun k hk => by
          rw [hC'] at hk
          rcases hk with hk | hk | hk
          · exact HC4.out k hk
          · have := LB1.out k hk; omega
          · have := LB2.out k hk; omega
        have hcu' := HROW.out.apart hrc
        have hnew : SetRow w16 (ob + 1) C' (.slice (some ⟨g, 0, none⟩) (k + 1) cap) (B.sets.take k ++ [x]) := by
          refine ⟨L ++ [(x, .slice ua um uc, .slice oa4 om4 oc4)], by rw [List.map_append, hLm]; rfl, ?_, fun y hy => ?_, fun y hy => ?_⟩
          · rw [List.flatMap_append, List.length_append, HLL.out]
            simpa using hown
          · rw [List.mem_append] at hy
            rcases hy with hy | hy
            · exact ⟨((hLb y hy).1.kept hu16 hcu).mono hc1, ((hLb y hy).2.kept hu16 hcu).mono hc1⟩
            · simp only [List.mem_singleton] at hy
              subst hy
              exact ⟨(M1.out.kept hu16 hcu1).mono hc2, (M2.out.kept hu16 hcu2).mono hc3⟩
          · rw [List.mem_append] at hy
            rcases hy with hy | hy
            · exact hLf y hy
            · simp only [List.mem_singleton] at hy
              subst hy
              exact HXF.out
        have hrc16 : RowC w16 C' := hrc.kept hu16 hcu'
        have HNEW := Lib.hid hnew; have HOB10 := Lib.hid hob10; have HU16 := Lib.hid hu16; have HLLT := Lib.hid hLl; have HRC16 := Lib.hid hrc16; have HCOB := Lib.hid hcob
        clear hnew hob10 hu16 hcu hcu1 hcu2 hcu' hown hgrow hat hi0 hz0 hz1 hz2 hLm hLo hLb hLf hLl hel x0 x1 x2 x3 x4 hC' hc1 hc2 hc3 hrc hrc16 hcob
        have hcv2 : IntKind.i64.wrap ((k : Int) + 1) = (k : Int) + 1 := by rw [IntKind.wrap_i64]; omega
        go_wp2
        obtain ⟨w17, hw17⟩ : ∃ w17, w17 = w16.setCell ⟨ob, 2, none⟩ (.slice (some ⟨g, 0, none⟩) (k + 1) cap) := ⟨_, rfl⟩
        rw [← hw17]
        have hu17 : Upd (fun k => k = ob) w16 w17 := by rw [hw17]; exact upd_own w16 ob 2 _
        have hob17 : w17.heap[ob]? = some (.cells #[.int .u64 B.epoch, .bool B.large, .slice (some ⟨g, 0, none⟩) (k + 1) cap] 56 (0, 0)) := by
          rw [hw17]
          have := blk_set (i := 2) (v := .slice (some ⟨g, 0, none⟩) (k + 1) cap) HOB10.out
          simpa using this
        have hll1 : (B.sets.take (k + 1)).length = k + 1 := by rw [HNEXT.out]; simp [HLL.out]
        have n1 : ∀ j, j ≤ ob → ¬ (Value.slice la k lc).ownBlock = some j := fun j hj e => by have := HLLT.out j e; omega
        have hobw : w.heap.size < ob := by have := HOBE.out; omega
        have hdc : CpAt w B.epoch B.large (B.sets.take (k + 1)) w17 := by
          have hout : ∃ (C : Nat → Prop) (a : Option Addr) (c : Nat), w17.heap[ob]? = some (.cells #[.int .u64 B.epoch, .bool B.large, .slice a (B.sets.take (k + 1)).length c] 56 (0, 0)) ∧ SetRow w17 (ob + 1) C (.slice a (B.sets.take (k + 1)).length c) (B.sets.take (k + 1)) ∧ RowC w17 C ∧ ∀ k, C k → ob < k := by
            rw [hll1, HNEXT.out]
            exact ⟨C', _, _, hob17, HNEW.out.kept hu17 (fun j hj e => by simp [Value.ownBlock] at hj; omega) (fun j hj e => by have := HCOB.out j hj; omega), HRC16.out.kept hu17 (fun j hj e => by have := HCOB.out j hj; omega), HCOB.out⟩
          rw [HOBE.out] at hout
          refine ⟨hout, ?_, ?_⟩
          · have r1 := (HU.out.block _ (lt_of_heap HD.out.res) (fun e => e)).trans HD.out.res
            have r2 := (HU16.out.block _ (lt_of_heap r1) (n1 _ (by have := HOBE.out; omega))).trans r1
            exact (hu17.block _ (lt_of_heap r2) (by have := HOBE.out; omega)).trans r2
          · exact (((HD.out.upd.trans HU.out).step HU16.out (fun j hj => n1 j (by omega)))).step hu17 (fun j hj e => by omega)
        rw [HOBE.out]
        go_roundg (B.sets.length - (k + 1))
        case measure => omega
        case rel => exact ⟨k + 1, by omega, rfl, congrArg _ (by omega), hdc⟩
    · obtain rfl : k = B.sets.length := by omega
      have hd := HD.out
      rw [List.take_length] at hd
      obtain ⟨⟨C, la, lc, ho1, ho2, ho3, ho4⟩, hr, hu⟩ := hd
      obtain ⟨y0, y1, y2⟩ := cells3_of ho1
      have hcap : B.sets.length ≤ lc := by
        obtain ⟨L, _, q, _⟩ := ho2
        rcases q.2 with ⟨e, _⟩ | ⟨g, cap, cur, e, _, _, m1, _⟩
        · injection e with _ e; omega
        · injection e with _ _ e; omega
      have HRES := Lib.hid hr; have HU := Lib.hid hu; have HROW := Lib.hid ho2; have HRC := Lib.hid ho3; have HC4 := Lib.hid ho4; have HCAP := Lib.hid hcap
      clear ho1 ho2 ho3 ho4 hr hu HD hcap
      go_upto_region 8 with fail
      iterate 4 go_step
      refine wpList_store_mid rfl 56 (.tmp 2) (.tmp 35) rfl (w.heap.size + 1) 0 #[.int .u64 B.epoch, .bool B.large, .slice la B.sets.length lc] rfl rfl (by have q := there_block HRES.out; exact q) size56 (by simp [Value.oneCell']) ?_
      have hb2 := heap_setCells_whole (vs := [.int .u64 B.epoch, .bool B.large, .slice la B.sets.length lc]) HRES.out rfl
      have hu2 := Upd.setCells (F := fun k => k = w.heap.size + 1) (b := w.heap.size + 1) rfl [.int .u64 B.epoch, .bool B.large, .slice la B.sets.length lc] 0 (Upd.refl _ wr)
      have hl3 := run_loadVar_mid (P := Tryz.prog) (wr.setCells (w.heap.size + 1) 0 [.int .u64 B.epoch, .bool B.large, .slice la B.sets.length lc]) (w.heap.size + 1) 0 56 [.int .u64 B.epoch, .bool B.large, .slice la B.sets.length lc] _ (rangeAt_block hb2) Tryz.underlying56 rfl size56
      have HL3 := Lib.hid hl3; have HU2 := Lib.hid hu2
      clear hb2 hu2 hl3
      go_wp2
      refine bodyPost_ret (results_cell1 Tryz.results20 rfl HL3.out) rfl ?_
      have hrow := HROW.out.kept HU2.out (fun j hj e => by
        obtain ⟨L, _, q, _⟩ := HROW.out
        have := (q.lt j hj).1
        omega) (fun j hj e => by have := HC4.out j hj; omega)
      have hcr := HRC.out.kept HU2.out (fun j hj e => by have := HC4.out j hj; omega)
      refine ⟨la, lc, rfl, ⟨C, hrow.low (by omega), hcr, fun j hj => by have := HC4.out j hj; omega⟩, HCAP.out, HU.out.step HU2.out (fun j hj e => by omega)⟩
end Go.Proofs.YtbimkhdiplnbfaaGreat
end

section
namespace Go.Proofs.YtbimkhdiplnbfaaGreat
set_option maxRecDepth 100000
open Go.RowKit Go.Shelf

/-- What comes of comparing two batches. -/
def SameAns (w : World) (A B : BatchV) (e : Ending) (w' : World) : Prop := ∃ r, e = .returned (.bool r) ∧ (r = true ↔ A = B) ∧ Upd (fun _ => False) w w'

theorem same_no {w w' : World} {A B : BatchV} (h : A ≠ B) (hu : Upd (fun _ => False) w w') : SameAns w A B (.returned (.bool false)) w' := ⟨false, rfl, by simp [h], hu⟩
theorem ne_at {A B : BatchV} {k : Nat} {x y : SetV} (hx : A.sets[k]? = some x) (hy : B.sets[k]? = some y) (h : x ≠ y) : A ≠ B := by
  rintro rfl
  rw [hx] at hy
  injection hy with hy
  exact h hy

set_option maxHeartbeats 8000000 in
theorem same_any {c d : Nat} {a b : Option Addr} {A B : BatchV} (w : World) (ha : SetsIn w a A.sets) (hb : SetsIn w b B.sets) (ka : ∀ x ∈ A.sets, Bytes x.old ∧ Bytes x.new) (kb : ∀ x ∈ B.sets, Bytes x.old ∧ Bytes x.new) (hl : A.sets.length ≤ 1000000) :
    Calls Tryz.prog 23 #[batchV A a c, batchV B b d] w (SameAns w A B) := by
  obtain ⟨w1, hw1⟩ : ∃ w1, w1 = (w.alloc (.cells #[.int .u64 A.epoch, .bool A.large, .slice a A.sets.length c] 56)).alloc (.cells #[.int .u64 B.epoch, .bool B.large, .slice b B.sets.length d] 56) := ⟨_, rfl⟩
  have hxa : w1.heap[w.heap.size]? = some (.cells #[.int .u64 A.epoch, .bool A.large, .slice a A.sets.length c] 56 (0, 0)) := by rw [hw1, alloc_lt (by simp)]; exact alloc_at rfl
  have hxb : w1.heap[w.heap.size + 1]? = some (.cells #[.int .u64 B.epoch, .bool B.large, .slice b B.sets.length d] 56 (0, 0)) := by rw [hw1]; exact alloc_at (by simp)
  have hu1 : Upd (fun _ => False) w w1 := by rw [hw1]; exact ((Upd.refl _ w).alloc _).alloc _
  obtain ⟨z0, z1, z2⟩ := cells3_of hxa
  obtain ⟨y0, y1, y2⟩ := cells3_of hxb
  have HW1 := Lib.hid hw1; have HA := Lib.hid ha; have HB := Lib.hid hb; have KA := Lib.hid ka; have KB := Lib.hid kb; have HX1 := Lib.hid hxa; have HY1 := Lib.hid hxb; have HU1 := Lib.hid hu1
  clear hw1 ha hb ka kb hxa hxb hu1
  unfold batchV
  go_enter Tryz.func23, Tryz.ntmps23
  go_upto_region 1 with fail
  rw [← HW1.out]
  clear HW1
  by_cases e1 : A.epoch = B.epoch
  rotate_left
  · have HH := Lib.hid (show A ≠ B from fun e => e1 (by rw [e]))
    have e1' : (A.epoch == B.epoch) = false := by simpa using e1
    have e1'' : (A.epoch != B.epoch) = true := by simpa using e1
    clear e1
    go_wp2
    go_ret
    exact same_no HH.out HU1.out
  have e1' : (A.epoch == B.epoch) = true := by simpa using e1
  have e1'' : (A.epoch != B.epoch) = false := by simpa using e1
  have E1 := Lib.hid e1
  by_cases e2 : A.large = B.large
  rotate_left
  · have HH := Lib.hid (show A ≠ B from fun e => e2 (by rw [e]))
    have e2' : (A.large == B.large) = false := by simpa using e2
    clear e1 e2
    go_wp2
    go_ret
    exact same_no HH.out HU1.out
  have e2' : (A.large == B.large) = true := by simpa using e2
  have E2 := Lib.hid e2
  by_cases e3 : A.sets.length = B.sets.length
  rotate_left
  · have HH := Lib.hid (show A ≠ B from fun e => e3 (by rw [e]))
    have e3' : ((A.sets.length : Int) == B.sets.length) = false := by rw [beq_eq_false_iff_ne]; omega
    have e3'' : ((A.sets.length : Int) != B.sets.length) = true := by rw [bne, e3']; rfl
    clear e1 e2 e3
    go_wp2
    go_ret
    exact same_no HH.out HU1.out
  have e3' : ((A.sets.length : Int) == B.sets.length) = true := by rw [beq_iff_eq]; omega
  have e3'' : ((A.sets.length : Int) != B.sets.length) = false := by rw [bne, e3']; rfl
  have E3 := Lib.hid e3
  clear e1 e2 e3
  go_upto_region 4 with fail
  clear e1' e1'' e2' e3' e3'' z0 z1 z2 y0 y1 y2
  go_loopg [32] A.sets.length (fun gk i wr => ∃ k : Nat, k ≤ A.sets.length ∧ gk = A.sets.length - k ∧ i = .int .i64 k ∧ A.sets.take k = B.sets.take k ∧ Upd (fun _ => False) w1 wr)
  case atStart => exact ⟨0, Nat.zero_le _, rfl, rfl, rfl, Upd.refl _ _⟩
  case round =>
    obtain ⟨k, hk, rfl, rfl, htk, hu⟩ := hrel
    have HTK := Lib.hid htk; have HU := Lib.hid hu
    clear htk hu
    by_cases hkn : k < A.sets.length
    · have hkni : (k : Int) < A.sets.length := by omega
      have hkm : k < B.sets.length := by have := E3.out; omega
      have hkmi : (k : Int) < B.sets.length := by omega
      obtain ⟨x, hx⟩ : ∃ x, A.sets[k]? = some x := ⟨_, List.getElem?_eq_getElem hkn⟩
      obtain ⟨y, hy⟩ : ∃ y, B.sets[k]? = some y := ⟨_, List.getElem?_eq_getElem hkm⟩
      obtain ⟨_, _, _, ab, ao, ea, oa, oc, na, nc, h0, h1, h2, h3, h4, h5, h6, _⟩ := HA.out k x hx
      obtain ⟨_, _, _, bb, bo, eb, oa', oc', na', nc', j0, j1, j2, j3, j4, j5, j6, _⟩ := HB.out k y hy
      subst ea eb
      have kc : ∀ W, Upd (fun _ => False) wr W → ∀ {b o : Nat} {v : Value}, w.cell? ⟨b, o, none⟩ = some v → W.cell? ⟨b, o, none⟩ = some v := fun W hW _ _ _ h => cell_keptF ((HU1.out.trans HU.out).trans hW) (fun e => e) h
      have HXA : RowKit.Hid (∀ W, Upd (fun _ => False) wr W → W.cell? ⟨ab, ao + k * 5, none⟩ = some (.string x.name) ∧ W.cell? ⟨ab, ao + k * 5 + 1, none⟩ = some (.bool x.was) ∧ W.cell? ⟨ab, ao + k * 5 + 2, none⟩ = some (.bool x.is) ∧ W.cell? ⟨ab, ao + k * 5 + 3, none⟩ = some (.slice oa x.old.length oc) ∧ W.cell? ⟨ab, ao + k * 5 + 4, none⟩ = some (.slice na x.new.length nc)) := Lib.hid (fun W hW => ⟨kc W hW h0, kc W hW h1, kc W hW h2, kc W hW h3, kc W hW h4⟩)
      have HXB : RowKit.Hid (∀ W, Upd (fun _ => False) wr W → W.cell? ⟨bb, bo + k * 5, none⟩ = some (.string y.name) ∧ W.cell? ⟨bb, bo + k * 5 + 1, none⟩ = some (.bool y.was) ∧ W.cell? ⟨bb, bo + k * 5 + 2, none⟩ = some (.bool y.is) ∧ W.cell? ⟨bb, bo + k * 5 + 3, none⟩ = some (.slice oa' y.old.length oc') ∧ W.cell? ⟨bb, bo + k * 5 + 4, none⟩ = some (.slice na' y.new.length nc')) := Lib.hid (fun W hW => ⟨kc W hW j0, kc W hW j1, kc W hW j2, kc W hW j3, kc W hW j4⟩)
      have hu' := HU1.out.trans HU.out
      have H5 := Lib.hid (h5.kept hu'); have H6 := Lib.hid (h6.kept hu'); have J5 := Lib.hid (j5.kept hu'); have J6 := Lib.hid (j6.kept hu')
      have HNE := Lib.hid (ne_at hx hy)
      have hka := KA.out x (List.mem_of_getElem? hx); have hkb := KB.out y (List.mem_of_getElem? hy)
      have HK1 := Lib.hid (And.intro hka hkb)
      have HNX : RowKit.Hid (x = y → A.sets.take (k + 1) = B.sets.take (k + 1)) := Lib.hid (fun e => by
        rw [List.take_add_one, List.take_add_one, hx, hy, HTK.out, e])
      clear h0 h1 h2 h3 h4 h5 h6 j0 j1 j2 j3 j4 j5 j6 kc hx hy hu' hka hkb
      have hA : wr.drew.heap[w.heap.size]? = some (.cells #[.int .u64 A.epoch, .bool A.large, .slice (some ⟨ab, ao, none⟩) A.sets.length c] 56 (0, 0)) ∧ wr.drew.heap[w.heap.size + 1]? = some (.cells #[.int .u64 B.epoch, .bool B.large, .slice (some ⟨bb, bo, none⟩) B.sets.length d] 56 (0, 0)) ∧ Upd (fun _ => False) wr wr.drew := ⟨(HU.out.block _ (lt_of_heap HX1.out) (fun e => e)).trans HX1.out, (HU.out.block _ (lt_of_heap HY1.out) (fun e => e)).trans HY1.out, (Upd.refl _ wr).drew⟩
      have HWR : RowKit.Hid (w.heap.size + 1 < wr.heap.size) := Lib.hid (by have := lt_of_heap HY1.out; have := HU.out.size; omega)
      go_upto_region 6 with fail
      go_cut [6, 7, 32] from 35 to 45 (fun p6 p7 i wx => i = .int .i64 k ∧ ∃ b6 b7, p6 = .pointer (some ⟨b6, 0, none⟩) ∧ p7 = .pointer (some ⟨b7, 0, none⟩) ∧ wx.heap[b6]? = some (.cells #[.string x.name, .bool x.was, .bool x.is, .slice oa x.old.length oc, .slice na x.new.length nc] 73 (0, 0)) ∧ wx.heap[b7]? = some (.cells #[.string y.name, .bool y.was, .bool y.is, .slice oa' y.old.length oc', .slice na' y.new.length nc'] 73 (0, 0)) ∧ Upd (fun _ => False) wr wx)
      case first =>
        refine wp_region_G 13 (fun W => W.heap[w.heap.size]? = some (.cells #[.int .u64 A.epoch, .bool A.large, .slice (some ⟨ab, ao, none⟩) A.sets.length c] 56 (0, 0)) ∧ W.heap[w.heap.size + 1]? = some (.cells #[.int .u64 B.epoch, .bool B.large, .slice (some ⟨bb, bo, none⟩) B.sets.length d] 56 (0, 0)) ∧ Upd (fun _ => False) wr W) [false, false, false, false, false, false, false, false, false, false, false, false, false, false] rfl (by kernel_rfl) ?_
        generalize wr.drew = wd at hA ⊢
        refine wpG_takeT (i := 0) (v := .pointer (some ⟨w.heap.size, 2, none⟩)) rfl (fun L hc h => (hc.waits (n := 13) (i := 0) (by kernel_rfl) h)) (by kernel_rfl) (fun _ _ _ h => h) hA (.inl ⟨rfl, fun w5 q1 => ?_⟩) ?_
        · go_simp
        simp only [Act.put, List.setIfInBounds_toArray, List.set]
        refine wpG_takeT (i := 1) (v := .slice (some ⟨ab, ao, none⟩) A.sets.length c) rfl (fun L hc h => (hc.waits (n := 13) (i := 1) (by kernel_rfl) h)) (by kernel_rfl) (fun _ _ _ h => h) hA (.inl ⟨rfl, fun w5 q1 => ?_⟩) ?_
        · obtain ⟨c0, c1, c2⟩ := cells3_of q1.1
          go_simp
        simp only [Act.put, List.setIfInBounds_toArray, List.set]
        refine wpG_takeT (i := 2) (v := .int .i64 k) rfl (fun L hc h => (hc.waits (n := 13) (i := 2) (by kernel_rfl) h)) (by kernel_rfl) (fun _ _ _ h => h) hA (.inl ⟨rfl, fun w5 q1 => ?_⟩) ?_
        · go_simp
        simp only [Act.put, List.setIfInBounds_toArray, List.set]
        refine wpG_takeT (i := 3) (v := .pointer (some ⟨ab, ao + k * 5, none⟩)) rfl (fun L hc h => (hc.waits (n := 13) (i := 3) (by kernel_rfl) h)) (by kernel_rfl) (fun _ _ _ h => h) hA (.inl ⟨rfl, fun w5 q1 => ?_⟩) ?_
        · go_simp
        simp only [Act.put, List.setIfInBounds_toArray, List.set]
        refine wpG_takeT (i := 4) (v := .agg #[.string x.name, .bool x.was, .bool x.is, .slice oa x.old.length oc, .slice na x.new.length nc]) rfl (fun L hc h => (hc.waits (n := 13) (i := 4) (by kernel_rfl) h)) (by kernel_rfl) (fun _ _ _ h => h) hA (.inl ⟨rfl, fun w5 q1 => ?_⟩) ?_
        · obtain ⟨q0, q2, q3, q4, q5⟩ := HXA.out w5 q1.2.2
          go_simp
        simp only [Act.put, List.setIfInBounds_toArray, List.set]
        refine wpG_takeT (i := 5) (v := .pointer (some ⟨w.heap.size + 1, 2, none⟩)) rfl (fun L hc h => (hc.waits (n := 13) (i := 5) (by kernel_rfl) h)) (by kernel_rfl) (fun _ _ _ h => h) hA (.inl ⟨rfl, fun w5 q1 => ?_⟩) ?_
        · go_simp
        simp only [Act.put, List.setIfInBounds_toArray, List.set]
        refine wpG_takeT (i := 6) (v := .slice (some ⟨bb, bo, none⟩) B.sets.length d) rfl (fun L hc h => (hc.waits (n := 13) (i := 6) (by kernel_rfl) h)) (by kernel_rfl) (fun _ _ _ h => h) hA (.inl ⟨rfl, fun w5 q1 => ?_⟩) ?_
        · obtain ⟨c0, c1, c2⟩ := cells3_of q1.2.1
          go_simp
        simp only [Act.put, List.setIfInBounds_toArray, List.set]
        refine wpG_takeT (i := 7) (v := .int .i64 k) rfl (fun L hc h => (hc.waits (n := 13) (i := 7) (by kernel_rfl) h)) (by kernel_rfl) (fun _ _ _ h => h) hA (.inl ⟨rfl, fun w5 q1 => ?_⟩) ?_
        · go_simp
        simp only [Act.put, List.setIfInBounds_toArray, List.set]
        refine wpG_takeT (i := 8) (v := .pointer (some ⟨bb, bo + k * 5, none⟩)) rfl (fun L hc h => (hc.waits (n := 13) (i := 8) (by kernel_rfl) h)) (by kernel_rfl) (fun _ _ _ h => h) hA (.inl ⟨rfl, fun w5 q1 => ?_⟩) ?_
        · go_simp
        simp only [Act.put, List.setIfInBounds_toArray, List.set]
        refine wpG_takeT (i := 9) (v := .agg #[.string y.name, .bool y.was, .bool y.is, .slice oa' y.old.length oc', .slice na' y.new.length nc']) rfl (fun L hc h => (hc.waits (n := 13) (i := 9) (by kernel_rfl) h)) (by kernel_rfl) (fun _ _ _ h => h) hA (.inl ⟨rfl, fun w5 q1 => ?_⟩) ?_
        · obtain ⟨q0, q2, q3, q4, q5⟩ := HXB.out w5 q1.2.2
          go_simp
        simp only [Act.put, List.setIfInBounds_toArray, List.set]
        refine wpG_do2 (i := 10) (j := 11) rfl rfl (by kernel_rfl) rfl rfl (fun K hK => ?_) (fun K hK => ?_)
        · have HKK := Lib.hid hK
          clear hK
          have HZ0 := Lib.hid hA.2.2.size
          go_step
          have ua : Upd (fun _ => False) wd (wd.alloc (.cells #[.string ⟨#[]⟩, .bool false, .bool false, .slice none 0 0, .slice none 0 0] 73)) := (Upd.refl _ _).alloc _
          have H6 := Lib.hid (alloc_at (w := wd) (o := .cells #[.string ⟨#[]⟩, .bool false, .bool false, .slice none 0 0, .slice none 0 0] 73) rfl)
          have hA := (And.intro ((ua.block _ (lt_of_heap hA.1) (fun e => e)).trans hA.1) (And.intro ((ua.block _ (lt_of_heap hA.2.1) (fun e => e)).trans hA.2.1) (hA.2.2.trans ua)))
          refine HKK.out _ _ hA ?_
          clear HKK ua
          simp only [Act.put, List.setIfInBounds_toArray, List.set]
          generalize wd.alloc (.cells #[.string ⟨#[]⟩, .bool false, .bool false, .slice none 0 0, .slice none 0 0] 73) = we at H6 hA ⊢
          refine wpG_do (i := 11) rfl (by kernel_rfl) rfl (fun K hK => ?_)
          have HKK := Lib.hid hK
          clear hK
          go_step
          have ua : Upd (fun _ => False) we (we.alloc (.cells #[.string ⟨#[]⟩, .bool false, .bool false, .slice none 0 0, .slice none 0 0] 73)) := (Upd.refl _ _).alloc _
          have H7 := Lib.hid (alloc_at (w := we) (o := .cells #[.string ⟨#[]⟩, .bool false, .bool false, .slice none 0 0, .slice none 0 0] 73) rfl)
          have hA := (And.intro ((ua.block _ (lt_of_heap hA.1) (fun e => e)).trans hA.1) (And.intro ((ua.block _ (lt_of_heap hA.2.1) (fun e => e)).trans hA.2.1) (hA.2.2.trans ua)))
          have HLT := Lib.hid (lt_of_heap H6.out)
          have H6 := Lib.hid ((ua.block _ (lt_of_heap H6.out) (fun e => e)).trans H6.out)
          refine HKK.out _ _ hA ?_
          clear HKK ua
          simp only [Act.put, List.setIfInBounds_toArray, List.set]
          generalize we.alloc (.cells #[.string ⟨#[]⟩, .bool false, .bool false, .slice none 0 0, .slice none 0 0] 73) = wf at H7 hA H6 ⊢
          refine wpG_do (i := 12) rfl (by kernel_rfl) rfl (fun K hK => ?_)
          have HKK := Lib.hid hK
          clear hK
          refine wp_store_mid 73 (.tmp 6) (.tmp 39) rfl (wd.heap.size) 0 #[.string x.name, .bool x.was, .bool x.is, .slice oa x.old.length oc, .slice na x.new.length nc] rfl rfl (by have q := there_block H6.out; exact q) (by kernel_rfl) (by simp [Value.oneCell']) ?_
          have k6 := heap_setCells_whole (vs := [.string x.name, .bool x.was, .bool x.is, .slice oa x.old.length oc, .slice na x.new.length nc]) H6.out rfl
          have v6 := Upd.setCells (F := fun k => k = wd.heap.size) (b := wd.heap.size) rfl [.string x.name, .bool x.was, .bool x.is, .slice oa x.old.length oc, .slice na x.new.length nc] 0 (Upd.refl _ wf)
          have k7 := (v6.block _ (lt_of_heap H7.out) (by have := HLT.out; omega)).trans H7.out
          have hA := And.intro ((v6.block _ (lt_of_heap hA.1) (by have := HLT.out; have := HZ0.out; have := HWR.out; omega)).trans hA.1) (And.intro ((v6.block _ (lt_of_heap hA.2.1) (by have := HLT.out; have := HZ0.out; have := HWR.out; omega)).trans hA.2.1) (hA.2.2.step v6 (fun j hj e => by have := HZ0.out; have := HLT.out; omega)))
          have K6 := Lib.hid k6; have K7 := Lib.hid k7
          clear k6 v6 k7
          refine HKK.out _ _ hA ?_
          clear HKK
          simp only [Act.put, List.setIfInBounds_toArray, List.set]
          generalize wf.setCells (wd.heap.size) 0 _ = wg at K6 K7 hA ⊢
          refine wpG_tail_lit (k := 13) rfl rfl (by kernel_rfl) ?_
          simp only [List.drop]
          refine wpList_store_mid rfl 73 (.tmp 7) (.tmp 44) rfl (we.heap.size) 0 #[.string y.name, .bool y.was, .bool y.is, .slice oa' y.old.length oc', .slice na' y.new.length nc'] rfl rfl (by have q := there_block K7.out; exact q) (by kernel_rfl) (by simp [Value.oneCell']) ?_
          have k7 := heap_setCells_whole (vs := [.string y.name, .bool y.was, .bool y.is, .slice oa' y.old.length oc', .slice na' y.new.length nc']) K7.out rfl
          have v7 := Upd.setCells (F := fun k => k = we.heap.size) (b := we.heap.size) rfl [.string y.name, .bool y.was, .bool y.is, .slice oa' y.old.length oc', .slice na' y.new.length nc'] 0 (Upd.refl _ wg)
          have k6 := (v7.block _ (lt_of_heap K6.out) (by have := HLT.out; omega)).trans K6.out
          have hu7 := hA.2.2.step v7 (fun j hj e => by have := HZ0.out; have := HLT.out; omega)
          have HU7 := Lib.hid hu7; have K6 := Lib.hid k6; have K7 := Lib.hid k7
          clear k6 v7 k7 hA hu7
          go_wp2
          go_meet
          case rel => exact ⟨rfl, _, _, rfl, rfl, K6.out, K7.out, HU7.out⟩
        · have HKK := Lib.hid hK
          clear hK
          have HZ0 := Lib.hid hA.2.2.size
          go_step
          have ua : Upd (fun _ => False) wd (wd.alloc (.cells #[.string ⟨#[]⟩, .bool false, .bool false, .slice none 0 0, .slice none 0 0] 73)) := (Upd.refl _ _).alloc _
          have H7 := Lib.hid (alloc_at (w := wd) (o := .cells #[.string ⟨#[]⟩, .bool false, .bool false, .slice none 0 0, .slice none 0 0] 73) rfl)
          have hA := (And.intro ((ua.block _ (lt_of_heap hA.1) (fun e => e)).trans hA.1) (And.intro ((ua.block _ (lt_of_heap hA.2.1) (fun e => e)).trans hA.2.1) (hA.2.2.trans ua)))
          refine HKK.out _ _ hA ?_
          clear HKK ua
          simp only [Act.put, List.setIfInBounds_toArray, List.set]
          generalize wd.alloc (.cells #[.string ⟨#[]⟩, .bool false, .bool false, .slice none 0 0, .slice none 0 0] 73) = we at H7 hA ⊢
          refine wpG_do (i := 10) rfl (by kernel_rfl) rfl (fun K hK => ?_)
          have HKK := Lib.hid hK
          clear hK
          go_step
          have ua : Upd (fun _ => False) we (we.alloc (.cells #[.string ⟨#[]⟩, .bool false, .bool false, .slice none 0 0, .slice none 0 0] 73)) := (Upd.refl _ _).alloc _
          have H6 := Lib.hid (alloc_at (w := we) (o := .cells #[.string ⟨#[]⟩, .bool false, .bool false, .slice none 0 0, .slice none 0 0] 73) rfl)
          have hA := (And.intro ((ua.block _ (lt_of_heap hA.1) (fun e => e)).trans hA.1) (And.intro ((ua.block _ (lt_of_heap hA.2.1) (fun e => e)).trans hA.2.1) (hA.2.2.trans ua)))
          have HLT := Lib.hid (lt_of_heap H7.out)
          have H7 := Lib.hid ((ua.block _ (lt_of_heap H7.out) (fun e => e)).trans H7.out)
          refine HKK.out _ _ hA ?_
          clear HKK ua
          simp only [Act.put, List.setIfInBounds_toArray, List.set]
          generalize we.alloc (.cells #[.string ⟨#[]⟩, .bool false, .bool false, .slice none 0 0, .slice none 0 0] 73) = wf at H6 hA H7 ⊢
          refine wpG_do (i := 12) rfl (by kernel_rfl) rfl (fun K hK => ?_)
          have HKK := Lib.hid hK
          clear hK
          refine wp_store_mid 73 (.tmp 6) (.tmp 39) rfl (we.heap.size) 0 #[.string x.name, .bool x.was, .bool x.is, .slice oa x.old.length oc, .slice na x.new.length nc] rfl rfl (by have q := there_block H6.out; exact q) (by kernel_rfl) (by simp [Value.oneCell']) ?_
          have k6 := heap_setCells_whole (vs := [.string x.name, .bool x.was, .bool x.is, .slice oa x.old.length oc, .slice na x.new.length nc]) H6.out rfl
          have v6 := Upd.setCells (F := fun k => k = we.heap.size) (b := we.heap.size) rfl [.string x.name, .bool x.was, .bool x.is, .slice oa x.old.length oc, .slice na x.new.length nc] 0 (Upd.refl _ wf)
          have k7 := (v6.block _ (lt_of_heap H7.out) (by have := HLT.out; omega)).trans H7.out
          have hA := And.intro ((v6.block _ (lt_of_heap hA.1) (by have := HLT.out; have := HZ0.out; have := HWR.out; omega)).trans hA.1) (And.intro ((v6.block _ (lt_of_heap hA.2.1) (by have := HLT.out; have := HZ0.out; have := HWR.out; omega)).trans hA.2.1) (hA.2.2.step v6 (fun j hj e => by have := HZ0.out; have := HLT.out; omega)))
          have K6 := Lib.hid k6; have K7 := Lib.hid k7
          clear k6 v6 k7
          refine HKK.out _ _ hA ?_
          clear HKK
          simp only [Act.put, List.setIfInBounds_toArray, List.set]
          generalize wf.setCells (we.heap.size) 0 _ = wg at K6 K7 hA ⊢
          refine wpG_tail_lit (k := 13) rfl rfl (by kernel_rfl) ?_
          simp only [List.drop]
          refine wpList_store_mid rfl 73 (.tmp 7) (.tmp 44) rfl (wd.heap.size) 0 #[.string y.name, .bool y.was, .bool y.is, .slice oa' y.old.length oc', .slice na' y.new.length nc'] rfl rfl (by have q := there_block K7.out; exact q) (by kernel_rfl) (by simp [Value.oneCell']) ?_
          have k7 := heap_setCells_whole (vs := [.string y.name, .bool y.was, .bool y.is, .slice oa' y.old.length oc', .slice na' y.new.length nc']) K7.out rfl
          have v7 := Upd.setCells (F := fun k => k = wd.heap.size) (b := wd.heap.size) rfl [.string y.name, .bool y.was, .bool y.is, .slice oa' y.old.length oc', .slice na' y.new.length nc'] 0 (Upd.refl _ wg)
          have k6 := (v7.block _ (lt_of_heap K6.out) (by have := HLT.out; omega)).trans K6.out
          have hu7 := hA.2.2.step v7 (fun j hj e => by have := HZ0.out; have := HLT.out; omega)
          have HU7 := Lib.hid hu7; have K6 := Lib.hid k6; have K7 := Lib.hid k7
          clear k6 v7 k7 hA hu7
          go_wp2
          go_meet
          case rel => exact ⟨rfl, _, _, rfl, rfl, K6.out, K7.out, HU7.out⟩
      case rest =>
        obtain ⟨rfl, b6, b7, rfl, rfl, hx6, hx7, hu6⟩ := hcut
        obtain ⟨x0, x1, x2, x3, x4⟩ := cells5_of hx6
        obtain ⟨y0, y1, y2, y3, y4⟩ := cells5_of hx7
        have HX6 := Lib.hid hx6; have HX7 := Lib.hid hx7; have HU6 := Lib.hid hu6
        have HUU := Lib.hid ((HU1.out.trans HU.out).trans hu6)
        clear hx6 hx7 hu6 HXA HXB hA HWR
        by_cases n1 : x.name = y.name
        rotate_left
        · have HH := Lib.hid (HNE.out (fun e => n1 (by rw [e])))
          have e1 : (x.name.toList == y.name.toList) = false := by rw [toList_eq]; exact decide_eq_false n1
          clear n1
          go_wp2
          go_ret
          exact same_no HH.out HUU.out
        have e1 : (x.name.toList == y.name.toList) = true := by rw [toList_eq]; exact decide_eq_true n1
        have N1 := Lib.hid n1
        clear n1
        by_cases n2 : x.was = y.was
        rotate_left
        · have HH := Lib.hid (HNE.out (fun e => n2 (by rw [e])))
          have e2 : (x.was == y.was) = false := by simpa using n2
          clear n2
          go_wp2
          go_ret
          exact same_no HH.out HUU.out
        have e2 : (x.was == y.was) = true := by simpa using n2
        have N2 := Lib.hid n2
        clear n2
        by_cases n3 : x.is = y.is
        rotate_left
        · have HH := Lib.hid (HNE.out (fun e => n3 (by rw [e])))
          have e3 : (x.is == y.is) = false := by simpa using n3
          clear n3
          go_wp2
          go_ret
          exact same_no HH.out HUU.out
        have e3 : (x.is == y.is) = true := by simpa using n3
        have N3 := Lib.hid n3
        clear n3
        go_wp2_with (go_at_call 24; fail)
        refine (equal_any _ (H5.out.kept HU6.out) (J5.out.kept HU6.out) HK1.out.1.1 HK1.out.2.1).mono ?_
        rintro e wq ⟨rfl, rfl⟩
        simp only []
        by_cases n4 : x.old = y.old
        rotate_left
        · have HH := Lib.hid (HNE.out (fun e => n4 (by rw [e])))
          have e4 : (x.old == y.old) = false := by simpa using n4
          clear n4
          go_wp2
          go_ret
          exact same_no HH.out HUU.out
        have e4 : (x.old == y.old) = true := by simpa using n4
        have N4 := Lib.hid n4
        clear n4
        go_wp2_with (go_at_call 24; fail)
        refine (equal_any _ (H6.out.kept HU6.out) (J6.out.kept HU6.out) HK1.out.1.2 HK1.out.2.2).mono ?_
        rintro e wq ⟨rfl, rfl⟩
        simp only []
        by_cases n5 : x.new = y.new
        rotate_left
        · have HH := Lib.hid (HNE.out (fun e => n5 (by rw [e])))
          have e5 : (x.new == y.new) = false := by simpa using n5
          clear n5
          go_wp2
          go_ret
          exact same_no HH.out HUU.out
        have e5 : (x.new == y.new) = true := by simpa using n5
        have N5 := Lib.hid n5
        clear n5
        have hxy : x = y := by
          obtain ⟨p1, p2, p3, p4, p5⟩ := x
          obtain ⟨q1, q2, q3, q4, q5⟩ := y
          have := N1.out; have := N2.out; have := N3.out; have := N4.out; have := N5.out
          simp only at *
          subst_vars
          rfl
        have HT2 := Lib.hid (HNX.out hxy)
        have HUQ := Lib.hid (HU.out.trans HU6.out)
        clear hxy
        have hcv2 : IntKind.i64.wrap ((k : Int) + 1) = (k : Int) + 1 := by rw [IntKind.wrap_i64]; omega
        go_wp2
        go_roundg (A.sets.length - (k + 1))
        case measure => omega
        case rel => exact ⟨k + 1, by omega, rfl, congrArg _ (by omega), HT2.out, HUQ.out⟩
    · obtain rfl : k = A.sets.length := by omega
      have heq : A = B := by
        have h := HTK.out
        rw [List.take_length, E3.out, List.take_length] at h
        obtain ⟨p1, p2, p3⟩ := A
        obtain ⟨q1, q2, q3⟩ := B
        have h1 := E1.out; have h2 := E2.out
        simp only at h h1 h2
        subst h h1 h2
        rfl
      have HEQ := Lib.hid heq
      clear heq
      go_wp2
      go_ret
      exact ⟨true, rfl, ⟨fun _ => HEQ.out, fun _ => rfl⟩, HU1.out.trans HU.out⟩
end Go.Proofs.YtbimkhdiplnbfaaGreat
end

