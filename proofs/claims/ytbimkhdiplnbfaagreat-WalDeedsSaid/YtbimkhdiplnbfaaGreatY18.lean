/- Walks: Checkpoint. -/
import Derived.Test.YtbimkhdiplnbfaaGreatY3
import Derived.Test.YtbimkhdiplnbfaaGreatY4
import Derived.Test.YtbimkhdiplnbfaaGreatY17
import Derived.Sort.LoopGhostIn
import Derived.Sort.CutIn
import Derived.StillTailTactics
set_option linter.unusedVariables false
set_option linter.unusedSimpArgs false
namespace Go.Proofs.YtbimkhdiplnbfaaGreat
set_option maxRecDepth 1000000
set_option maxHeartbeats 16000000
section
open Go.RowKit
theorem Dk.lays_ok : ∀ (l : List Sc) {D : Dk} {K : Nat}, D.Ok K → (D.lays (raw l)).Ok (K + 2 * l.length + 1)
 | [], _, _, h => h.sync
 |x :: l, D, K, h => by
  have h1 := h.write x.1.1 x.2
  obtain ⟨⟨i, b⟩, hx⟩ := x
  show (Dk.lays D ((i, b) :: raw l)).Ok _
  unfold Dk.lays
  split
  ·have := Dk.lays_ok l h1
   rw [List.length_cons, show K + 2 * (l.length + 1) + 1 = K + 2 + 2 * l.length + 1 by omega]
   exact this
  ·exact h1.mono (by simp; omega)
def Lg.cpH (X : Lg) : Hd := ⟨X.h.turn + 1, X.h.area, (X.h.place + X.used) % (2 * X.h.area), X.h.number + X.parts.length⟩
def Lg.cpS (X : Lg) (b : List Int) (hb : Bytes b) : List (Int × List Int) := raw (partSc X.h X.cpH.number X.cpH.place true b hb)
def Lg.cpE (X : Lg) (D : Dk) (b : List Int) (hb : Bytes b) : Int := if D.laysE (X.cpS b hb) = 0 then (D.lays (X.cpS b hb)).laysE (raw [headSc X.cpH]) else D.laysE (X.cpS b hb)
def Lg.cpD (X : Lg) (D : Dk) (b : List Int) (hb : Bytes b) : Dk := if D.laysE (X.cpS b hb) = 0 then (D.lays (X.cpS b hb)).lays (raw [headSc X.cpH]) else D.lays (X.cpS b hb)
def Lg.cp (X : Lg) (b : List Int) (E : Int) : Lg := if E = 0 then (⟨X.cpH, [], 0, false⟩ : Lg).add b else X.brk true
theorem over4 {W : World} {b : Nat} {t : TypeId} {old : Array Value} (cs : Array Value) (h : W.heap[b]? = some (.cells old t (0, 0))) (hl : old.size = cs.size) : W.there b 0 cs.size ∧ (W.setCells b 0 cs.toList).heap[b]? = some (.cells cs t (0, 0)) ∧ Upd (fun j => j = b) W (W.setCells b 0 cs.toList) := by
 refine ⟨?_, ?_, Upd.setCells (F := fun j => j = b) rfl cs.toList 0 (Upd.refl _ W)⟩
 ·have := there_block h
  rwa [hl] at this
 ·have := heap_setCells_whole (vs := cs.toList) h (by simpa using hl)
  simpa using this
theorem set4 {W : World} {b : Nat} {t : TypeId} {x0 x1 x2 x3 x4 x5 x6 x7 a0 a1 a2 a3 : Value} (h : W.heap[b]? = some (.cells #[x0, x1, x2, x3, x4, x5, x6, x7] t (0, 0))) : (W.setCells b 0 [a0, a1, a2, a3]).heap[b]? = some (.cells #[a0, a1, a2, a3, x4, x5, x6, x7] t (0, 0)) := by
 rw [heap_setCells b t _ 0 W _ h]
 rfl
theorem newLog {w : World} {q p : Nat} {h : Hd} (hm : w.heap[q]? = some (.cells ((⟨h, [], 0, false⟩ : Lg).cells p (.slice none 0 0)) 193 (0, 0))) : Log w q p ⟨h, [], 0, false⟩ (fun k => k = q) := by
 refine ⟨.slice none 0 0, [], ⟨hm, World.ownsRow_nil _ _ _ _, fun i v b hv => (by simp at hv), fun k hk => (by simp [Value.ownBlock] at hk), fun v k hv => (by simp at hv)⟩, fun k => ⟨fun hk => .inl hk, fun hk => ?_⟩⟩
 rcases hk with hk | hk | ⟨v, hv, _⟩
 ·exact hk
 ·simp [Value.ownBlock] at hk
 ·simp at hv
theorem zero_run (w : World) : Calls Tryz.prog 115 #[] w fun e w' => e = .returned (.int .i64 0) ∧ Upd (fun _ => False) w w' := by
 go_enter Tryz.func115, Tryz.ntmps115
 go_wp2
 go_ret
 exact ⟨rfl, Upd.refl _ _⟩
theorem cp_any {q p : Nat} {X : Lg} {D : Dk} {G F : Nat → Prop} {K : Nat} {v : Value} {b : List Int} (w : World) (hX : Wal w q p X D G F) (hok : X.Ok) (hDok : D.Ok K) (hK : K ≤ 1099511600000) (hb : Bytes b) (hbl : b.length ≤ 1099511627700) (hbi : BytesIn w v b)
  (hsv : b ≠ [] → ∀ a n c, v = .slice (some a) n c → ¬ F a.block ∧ a.block ≠ q) :
  Calls Tryz.prog 42 #[.pointer (some ⟨q, 0, none⟩), v] w fun e w' =>
   (X.refuses b.length 0 ≠ 0 ∧ e = .returned (.int .i64 (X.refuses b.length 0)) ∧ Upd (fun _ => False) w w') ∨
   (X.refuses b.length 0 = 0 ∧ X.h.turn = 1073741824 ∧ e = .returned (.int .i64 6) ∧ Upd (fun _ => False) w w') ∨
   (X.refuses b.length 0 = 0 ∧ X.h.turn ≠ 1073741824 ∧ e = .returned (.int .i64 (X.cpE D b hb)) ∧
    ∃ G' F', Wal w' q p (X.cp b (X.cpE D b hb)) (X.cpD D b hb) G' F' ∧
     (∀ k, G' k → G k ∨ w.heap.size ≤ k) ∧ (∀ k, F' k → F k ∨ w.heap.size ≤ k) ∧ Upd (fun k => G k ∨ F k) w w') := by
 obtain ⟨hLG, hD, hGF⟩ := hX
 obtain ⟨sa, sc, rfl⟩ := hbi.slice'
 have hGlt := hLG.lt; have hFlt := hD.lt; have hqG := hLG.mem
 have HLG := Lib.hid hLG; have HD := Lib.hid hD; have HGF := Lib.hid hGF; have HGL := Lib.hid hGlt; have HFL := Lib.hid hFlt; have HQG := Lib.hid hqG; have HBI := Lib.hid hbi; have HSV := Lib.hid hsv; have HDOK := Lib.hid hDok; have HB := Lib.hid hb
 obtain ⟨r, hr⟩ : ∃ r, r = X.refuses b.length 0 := ⟨_, rfl⟩
 have HR := Lib.hid hr
 rw [← hr]
 obtain ⟨CE, hCE⟩ : ∃ CE, CE = X.cpE D b hb := ⟨_, rfl⟩
 obtain ⟨CD, hCD⟩ : ∃ CD, CD = X.cpD D b hb := ⟨_, rfl⟩
 rw [← hCE, ← hCD]
 have HCE := Lib.hid hCE; have HCD := Lib.hid hCD
 clear hLG hD hGF hGlt hFlt hqG hbi hsv hDok hr hCE hCD
 go_enter Tryz.func42, Tryz.ntmps42
 go_wp2_with (go_at_call 114; fail)
 refine (refuses_any (fu := 115) (lb := #[]) (u := 0) w HLG.out hok (by omega) (enters_of Tryz.func115 (by kernel_rfl) rfl) (fun W' _ => zero_run W')).mono ?_
 rintro e w2 ⟨rfl, hu2⟩
 rw [← HR.out]
 have HU2 := Lib.hid hu2
 clear hu2
 simp only []
 by_cases hr0 : r ≠ 0
 ·have hrq : (r != 0) = true := by simpa using hr0
  go_wp2
  go_ret
  exact .inl ⟨hr0, rfl, HU2.out⟩
 ·have hr0 : r = 0 := Decidable.not_not.1 hr0
  subst hr0
  have hr1 := HR.out
  have hbr : X.broken = false := by
   cases hx : X.broken with
   |false => rfl
   |true => rw [Lg.refuses, hx, if_pos rfl] at hr1; omega
  rw [Lg.refuses, hbr, if_neg (by simp)] at hr1
  have hb4 : b.length ≤ 40000 := by
   rcases Nat.lt_or_ge 40000 b.length with q1 | q1
   ·rw [if_pos q1] at hr1; omega
   ·exact q1
  rw [if_neg (by omega)] at hr1
  have hroom : ¬ (X.h.area < 0 + secsN b.length ∨ 1073741824 < X.h.number + X.parts.length) := by
   intro hx
   rw [if_pos hx] at hr1
   omega
  have HBR := Lib.hid hbr
  clear hr1 hbr
  have t1 := hok.turn; have t2 := hok.area; have t3 := hok.place; have t4 := hok.number; have t5 := hok.used; have t6 := hok.len
  have hwn : IntKind.i64.wrap (X.h.place + X.used) = X.h.place + X.used := by rw [IntKind.wrap_i64]; omega
  have hwt : IntKind.i64.wrap (X.h.turn + 1) = X.h.turn + 1 := by rw [IntKind.wrap_i64]; omega
  have hwa : IntKind.i64.wrap (2 * X.h.area) = 2 * X.h.area := by rw [IntKind.wrap_i64]; omega
  obtain ⟨np, hnp⟩ : ∃ np, np = (X.h.place + X.used) % (2 * X.h.area) := ⟨_, rfl⟩
  have hrem : (X.h.place + X.used).tmod (2 * X.h.area) = np := by rw [hnp]; exact Int.tmod_eq_emod_of_nonneg (by omega)
  have hnp0 : 0 ≤ np := by rw [hnp]; exact Int.emod_nonneg _ (by omega)
  have hnp1 : np < 2 * X.h.area := by rw [hnp]; exact Int.emod_lt_of_pos _ (by omega)
  have ha0 : ¬ (2 * X.h.area = 0) := by omega
  have HNP := Lib.hid hnp
  clear hnp
  obtain ⟨PV, hm⟩ := HLG.out.main'
  have HM := Lib.hid ((HU2.out.block _ (lt_of_heap hm) (fun e => e)).trans hm)
  have c0 : w2.cell? ⟨q, 0, none⟩ = some (.int .i64 X.h.turn) := by simp [World.cell?, HM.out, Lg.cells]
  clear hm
  have hi107 : (Tryz.prog.info? 184).map (·.size) = some 4 := by kernel_rfl
  by_cases htm : X.h.turn = 1073741824
  ·have htq : (X.h.turn == 1073741824) = true := by simpa using htm
   go_wp2
   go_ret
   exact ⟨rfl, HU2.out⟩
  ·have htq : (X.h.turn == 1073741824) = false := by simpa using htm
   go_upto_region 6 with fail
   clear c0
   have hA : Upd (fun _ => False) w2 w2.drew := (Upd.refl _ w2).drew
   go_cut [6] from 8 to 97 (fun hp wr => ∃ bh, hp = .pointer (some ⟨bh, 0, none⟩) ∧ w2.heap.size ≤ bh ∧ wr.heap[bh]? = some (.cells #[.int .i64 (X.h.turn + 1), .int .i64 X.h.area, .int .i64 np, .int .i64 (X.h.number + X.parts.length)] 184 (0, 0)) ∧ Upd (fun _ => False) w2 wr)
   case first =>
    refine wp_region_G 32 (fun W => Upd (fun _ => False) w2 W) [false, false, false, false, false, false, false, false, false, false, false, false, false, false, false, false, false, false, false, false, false, false, false, false, false, false, false, false, false, false, false, false, false] rfl (by kernel_rfl) ?_
    refine wpG_takeT (i := 0) (v := .pointer (some ⟨q, 0, none⟩)) rfl (fun L hc h => (hc.waits (n := 32) (i := 30) (by kernel_rfl) (hc.waits (n := 30) (i := 5) (by kernel_rfl) (hc.waits (n := 5) (i := 4) (by kernel_rfl) (hc.waits (n := 4) (i := 3) (by kernel_rfl) (hc.waits (n := 3) (i := 2) (by kernel_rfl) (hc.waits (n := 2) (i := 1) (by kernel_rfl) (hc.waits (n := 1) (i := 0) (by kernel_rfl) h)))))))) (by kernel_rfl) (fun _ _ _ h => h) hA (.inl ⟨rfl, fun w5 q1 => ?_⟩) ?_
    ·go_simp
    simp only [Act.put, List.setIfInBounds_toArray, List.set]
    refine wpG_takeT (i := 6) (v := .pointer (some ⟨q, 0, none⟩)) rfl (fun L hc h => (hc.waits (n := 32) (i := 30) (by kernel_rfl) (hc.waits (n := 30) (i := 10) (by kernel_rfl) (hc.waits (n := 10) (i := 9) (by kernel_rfl) (hc.waits (n := 9) (i := 8) (by kernel_rfl) (hc.waits (n := 8) (i := 7) (by kernel_rfl) (hc.waits (n := 7) (i := 6) (by kernel_rfl) h))))))) (by kernel_rfl) (fun _ _ _ h => h) hA (.inl ⟨rfl, fun w5 q1 => ?_⟩) ?_
    ·go_simp
    simp only [Act.put, List.setIfInBounds_toArray, List.set]
    refine wpG_takeT (i := 11) (v := .pointer (some ⟨q, 0, none⟩)) rfl (fun L hc h => (hc.waits (n := 32) (i := 30) (by kernel_rfl) (hc.waits (n := 30) (i := 27) (by kernel_rfl) (hc.waits (n := 27) (i := 20) (by kernel_rfl) (hc.waits (n := 20) (i := 15) (by kernel_rfl) (hc.waits (n := 15) (i := 14) (by kernel_rfl) (hc.waits (n := 14) (i := 13) (by kernel_rfl) (hc.waits (n := 13) (i := 12) (by kernel_rfl) (hc.waits (n := 12) (i := 11) (by kernel_rfl) h))))))))) (by kernel_rfl) (fun _ _ _ h => h) hA (.inl ⟨rfl, fun w5 q1 => ?_⟩) ?_
    ·go_simp
    simp only [Act.put, List.setIfInBounds_toArray, List.set]
    refine wpG_takeT (i := 16) (v := .pointer (some ⟨q, 0, none⟩)) rfl (fun L hc h => (hc.waits (n := 32) (i := 30) (by kernel_rfl) (hc.waits (n := 30) (i := 27) (by kernel_rfl) (hc.waits (n := 27) (i := 20) (by kernel_rfl) (hc.waits (n := 20) (i := 19) (by kernel_rfl) (hc.waits (n := 19) (i := 18) (by kernel_rfl) (hc.waits (n := 18) (i := 17) (by kernel_rfl) (hc.waits (n := 17) (i := 16) (by kernel_rfl) h)))))))) (by kernel_rfl) (fun _ _ _ h => h) hA (.inl ⟨rfl, fun w5 q1 => ?_⟩) ?_
    ·go_simp
    simp only [Act.put, List.setIfInBounds_toArray, List.set]
    refine wpG_takeT (i := 21) (v := .pointer (some ⟨q, 0, none⟩)) rfl (fun L hc h => (hc.waits (n := 32) (i := 30) (by kernel_rfl) (hc.waits (n := 30) (i := 27) (by kernel_rfl) (hc.waits (n := 27) (i := 26) (by kernel_rfl) (hc.waits (n := 26) (i := 25) (by kernel_rfl) (hc.waits (n := 25) (i := 24) (by kernel_rfl) (hc.waits (n := 24) (i := 23) (by kernel_rfl) (hc.waits (n := 23) (i := 22) (by kernel_rfl) (hc.waits (n := 22) (i := 21) (by kernel_rfl) h))))))))) (by kernel_rfl) (fun _ _ _ h => h) hA (.inl ⟨rfl, fun w5 q1 => ?_⟩) ?_
    ·go_simp
    simp only [Act.put, List.setIfInBounds_toArray, List.set]
    refine wpG_takeT (i := 28) (v := .pointer (some ⟨q, 0, none⟩)) rfl (fun L hc h => (hc.waits (n := 32) (i := 29) (by kernel_rfl) (hc.waits (n := 29) (i := 28) (by kernel_rfl) h))) (by kernel_rfl) (fun _ _ _ h => h) hA (.inl ⟨rfl, fun w5 q1 => ?_⟩) ?_
    ·go_simp
    simp only [Act.put, List.setIfInBounds_toArray, List.set]
    refine wpG_takeT (i := 1) (v := .pointer (some ⟨q, 0, none⟩)) rfl (fun L hc h => (hc.waits (n := 32) (i := 30) (by kernel_rfl) (hc.waits (n := 30) (i := 5) (by kernel_rfl) (hc.waits (n := 5) (i := 4) (by kernel_rfl) (hc.waits (n := 4) (i := 3) (by kernel_rfl) (hc.waits (n := 3) (i := 2) (by kernel_rfl) (hc.waits (n := 2) (i := 1) (by kernel_rfl) h))))))) (by kernel_rfl) (fun _ _ _ h => h) hA (.inl ⟨rfl, fun w5 q1 => ?_⟩) ?_
    ·go_simp
    simp only [Act.put, List.setIfInBounds_toArray, List.set]
    refine wpG_takeT (i := 7) (v := .pointer (some ⟨q, 0, none⟩)) rfl (fun L hc h => (hc.waits (n := 32) (i := 30) (by kernel_rfl) (hc.waits (n := 30) (i := 10) (by kernel_rfl) (hc.waits (n := 10) (i := 9) (by kernel_rfl) (hc.waits (n := 9) (i := 8) (by kernel_rfl) (hc.waits (n := 8) (i := 7) (by kernel_rfl) h)))))) (by kernel_rfl) (fun _ _ _ h => h) hA (.inl ⟨rfl, fun w5 q1 => ?_⟩) ?_
    ·go_simp
    simp only [Act.put, List.setIfInBounds_toArray, List.set]
    refine wpG_takeT (i := 12) (v := .pointer (some ⟨q, 0, none⟩)) rfl (fun L hc h => (hc.waits (n := 32) (i := 30) (by kernel_rfl) (hc.waits (n := 30) (i := 27) (by kernel_rfl) (hc.waits (n := 27) (i := 20) (by kernel_rfl) (hc.waits (n := 20) (i := 15) (by kernel_rfl) (hc.waits (n := 15) (i := 14) (by kernel_rfl) (hc.waits (n := 14) (i := 13) (by kernel_rfl) (hc.waits (n := 13) (i := 12) (by kernel_rfl) h)))))))) (by kernel_rfl) (fun _ _ _ h => h) hA (.inl ⟨rfl, fun w5 q1 => ?_⟩) ?_
    ·go_simp
    simp only [Act.put, List.setIfInBounds_toArray, List.set]
    refine wpG_takeT (i := 17) (v := .pointer (some ⟨q, 0, none⟩)) rfl (fun L hc h => (hc.waits (n := 32) (i := 30) (by kernel_rfl) (hc.waits (n := 30) (i := 27) (by kernel_rfl) (hc.waits (n := 27) (i := 20) (by kernel_rfl) (hc.waits (n := 20) (i := 19) (by kernel_rfl) (hc.waits (n := 19) (i := 18) (by kernel_rfl) (hc.waits (n := 18) (i := 17) (by kernel_rfl) h))))))) (by kernel_rfl) (fun _ _ _ h => h) hA (.inl ⟨rfl, fun w5 q1 => ?_⟩) ?_
    ·go_simp
    simp only [Act.put, List.setIfInBounds_toArray, List.set]
    refine wpG_takeT (i := 22) (v := .pointer (some ⟨q, 0, none⟩)) rfl (fun L hc h => (hc.waits (n := 32) (i := 30) (by kernel_rfl) (hc.waits (n := 30) (i := 27) (by kernel_rfl) (hc.waits (n := 27) (i := 26) (by kernel_rfl) (hc.waits (n := 26) (i := 25) (by kernel_rfl) (hc.waits (n := 25) (i := 24) (by kernel_rfl) (hc.waits (n := 24) (i := 23) (by kernel_rfl) (hc.waits (n := 23) (i := 22) (by kernel_rfl) h)))))))) (by kernel_rfl) (fun _ _ _ h => h) hA (.inl ⟨rfl, fun w5 q1 => ?_⟩) ?_
    ·go_simp
    simp only [Act.put, List.setIfInBounds_toArray, List.set]
    refine wpG_takeT (i := 2) (v := .pointer (some ⟨q, 0, none⟩)) rfl (fun L hc h => (hc.waits (n := 32) (i := 30) (by kernel_rfl) (hc.waits (n := 30) (i := 5) (by kernel_rfl) (hc.waits (n := 5) (i := 4) (by kernel_rfl) (hc.waits (n := 4) (i := 3) (by kernel_rfl) (hc.waits (n := 3) (i := 2) (by kernel_rfl) h)))))) (by kernel_rfl) (fun _ _ _ h => h) hA (.inl ⟨rfl, fun w5 q1 => ?_⟩) ?_
    ·go_simp
    simp only [Act.put, List.setIfInBounds_toArray, List.set]
    refine wpG_takeT (i := 3) (v := .pointer (some ⟨q, 0, none⟩)) rfl (fun L hc h => (hc.waits (n := 32) (i := 30) (by kernel_rfl) (hc.waits (n := 30) (i := 5) (by kernel_rfl) (hc.waits (n := 5) (i := 4) (by kernel_rfl) (hc.waits (n := 4) (i := 3) (by kernel_rfl) h))))) (by kernel_rfl) (fun _ _ _ h => h) hA (.inl ⟨rfl, fun w5 q1 => ?_⟩) ?_
    ·go_simp
    simp only [Act.put, List.setIfInBounds_toArray, List.set]
    refine wpG_takeT (i := 4) (v := .int .i64 X.h.turn) rfl (fun L hc h => (hc.waits (n := 32) (i := 30) (by kernel_rfl) (hc.waits (n := 30) (i := 5) (by kernel_rfl) (hc.waits (n := 5) (i := 4) (by kernel_rfl) h)))) (by kernel_rfl) (fun _ _ _ h => h) hA (.inl ⟨rfl, fun w5 q1 => ?_⟩) ?_
    ·have cc : w5.cell? ⟨q, 0, none⟩ = some (.int .i64 X.h.turn) := by simp [World.cell?, (q1.block _ (lt_of_heap HM.out) (fun e => e)).trans HM.out, Lg.cells]
     go_simp
    simp only [Act.put, List.setIfInBounds_toArray, List.set]
    refine wpG_takeT (i := 5) (v := .int .i64 (X.h.turn + 1)) rfl (fun L hc h => (hc.waits (n := 32) (i := 30) (by kernel_rfl) (hc.waits (n := 30) (i := 5) (by kernel_rfl) h))) (by kernel_rfl) (fun _ _ _ h => h) hA (.inl ⟨rfl, fun w5 q1 => ?_⟩) ?_
    ·go_simp
    simp only [Act.put, List.setIfInBounds_toArray, List.set]
    refine wpG_takeT (i := 8) (v := .pointer (some ⟨q, 0, none⟩)) rfl (fun L hc h => (hc.waits (n := 32) (i := 30) (by kernel_rfl) (hc.waits (n := 30) (i := 10) (by kernel_rfl) (hc.waits (n := 10) (i := 9) (by kernel_rfl) (hc.waits (n := 9) (i := 8) (by kernel_rfl) h))))) (by kernel_rfl) (fun _ _ _ h => h) hA (.inl ⟨rfl, fun w5 q1 => ?_⟩) ?_
    ·go_simp
    simp only [Act.put, List.setIfInBounds_toArray, List.set]
    refine wpG_takeT (i := 9) (v := .pointer (some ⟨q, 1, none⟩)) rfl (fun L hc h => (hc.waits (n := 32) (i := 30) (by kernel_rfl) (hc.waits (n := 30) (i := 10) (by kernel_rfl) (hc.waits (n := 10) (i := 9) (by kernel_rfl) h)))) (by kernel_rfl) (fun _ _ _ h => h) hA (.inl ⟨rfl, fun w5 q1 => ?_⟩) ?_
    ·go_simp
    simp only [Act.put, List.setIfInBounds_toArray, List.set]
    refine wpG_takeT (i := 10) (v := .int .i64 X.h.area) rfl (fun L hc h => (hc.waits (n := 32) (i := 30) (by kernel_rfl) (hc.waits (n := 30) (i := 10) (by kernel_rfl) h))) (by kernel_rfl) (fun _ _ _ h => h) hA (.inl ⟨rfl, fun w5 q1 => ?_⟩) ?_
    ·have cc : w5.cell? ⟨q, 1, none⟩ = some (.int .i64 X.h.area) := by simp [World.cell?, (q1.block _ (lt_of_heap HM.out) (fun e => e)).trans HM.out, Lg.cells]
     go_simp
    simp only [Act.put, List.setIfInBounds_toArray, List.set]
    refine wpG_takeT (i := 13) (v := .pointer (some ⟨q, 0, none⟩)) rfl (fun L hc h => (hc.waits (n := 32) (i := 30) (by kernel_rfl) (hc.waits (n := 30) (i := 27) (by kernel_rfl) (hc.waits (n := 27) (i := 20) (by kernel_rfl) (hc.waits (n := 20) (i := 15) (by kernel_rfl) (hc.waits (n := 15) (i := 14) (by kernel_rfl) (hc.waits (n := 14) (i := 13) (by kernel_rfl) h))))))) (by kernel_rfl) (fun _ _ _ h => h) hA (.inl ⟨rfl, fun w5 q1 => ?_⟩) ?_
    ·go_simp
    simp only [Act.put, List.setIfInBounds_toArray, List.set]
    refine wpG_takeT (i := 14) (v := .pointer (some ⟨q, 2, none⟩)) rfl (fun L hc h => (hc.waits (n := 32) (i := 30) (by kernel_rfl) (hc.waits (n := 30) (i := 27) (by kernel_rfl) (hc.waits (n := 27) (i := 20) (by kernel_rfl) (hc.waits (n := 20) (i := 15) (by kernel_rfl) (hc.waits (n := 15) (i := 14) (by kernel_rfl) h)))))) (by kernel_rfl) (fun _ _ _ h => h) hA (.inl ⟨rfl, fun w5 q1 => ?_⟩) ?_
    ·go_simp
    simp only [Act.put, List.setIfInBounds_toArray, List.set]
    refine wpG_takeT (i := 15) (v := .int .i64 X.h.place) rfl (fun L hc h => (hc.waits (n := 32) (i := 30) (by kernel_rfl) (hc.waits (n := 30) (i := 27) (by kernel_rfl) (hc.waits (n := 27) (i := 20) (by kernel_rfl) (hc.waits (n := 20) (i := 15) (by kernel_rfl) h))))) (by kernel_rfl) (fun _ _ _ h => h) hA (.inl ⟨rfl, fun w5 q1 => ?_⟩) ?_
    ·have cc : w5.cell? ⟨q, 2, none⟩ = some (.int .i64 X.h.place) := by simp [World.cell?, (q1.block _ (lt_of_heap HM.out) (fun e => e)).trans HM.out, Lg.cells]
     go_simp
    simp only [Act.put, List.setIfInBounds_toArray, List.set]
    refine wpG_takeT (i := 18) (v := .pointer (some ⟨q, 6, none⟩)) rfl (fun L hc h => (hc.waits (n := 32) (i := 30) (by kernel_rfl) (hc.waits (n := 30) (i := 27) (by kernel_rfl) (hc.waits (n := 27) (i := 20) (by kernel_rfl) (hc.waits (n := 20) (i := 19) (by kernel_rfl) (hc.waits (n := 19) (i := 18) (by kernel_rfl) h)))))) (by kernel_rfl) (fun _ _ _ h => h) hA (.inl ⟨rfl, fun w5 q1 => ?_⟩) ?_
    ·go_simp
    simp only [Act.put, List.setIfInBounds_toArray, List.set]
    refine wpG_takeT (i := 19) (v := .int .i64 X.used) rfl (fun L hc h => (hc.waits (n := 32) (i := 30) (by kernel_rfl) (hc.waits (n := 30) (i := 27) (by kernel_rfl) (hc.waits (n := 27) (i := 20) (by kernel_rfl) (hc.waits (n := 20) (i := 19) (by kernel_rfl) h))))) (by kernel_rfl) (fun _ _ _ h => h) hA (.inl ⟨rfl, fun w5 q1 => ?_⟩) ?_
    ·have cc : w5.cell? ⟨q, 6, none⟩ = some (.int .i64 X.used) := by simp [World.cell?, (q1.block _ (lt_of_heap HM.out) (fun e => e)).trans HM.out, Lg.cells]
     go_simp
    simp only [Act.put, List.setIfInBounds_toArray, List.set]
    refine wpG_takeT (i := 20) (v := .int .i64 (X.h.place + X.used)) rfl (fun L hc h => (hc.waits (n := 32) (i := 30) (by kernel_rfl) (hc.waits (n := 30) (i := 27) (by kernel_rfl) (hc.waits (n := 27) (i := 20) (by kernel_rfl) h)))) (by kernel_rfl) (fun _ _ _ h => h) hA (.inl ⟨rfl, fun w5 q1 => ?_⟩) ?_
    ·go_simp
    simp only [Act.put, List.setIfInBounds_toArray, List.set]
    refine wpG_takeT (i := 23) (v := .pointer (some ⟨q, 0, none⟩)) rfl (fun L hc h => (hc.waits (n := 32) (i := 30) (by kernel_rfl) (hc.waits (n := 30) (i := 27) (by kernel_rfl) (hc.waits (n := 27) (i := 26) (by kernel_rfl) (hc.waits (n := 26) (i := 25) (by kernel_rfl) (hc.waits (n := 25) (i := 24) (by kernel_rfl) (hc.waits (n := 24) (i := 23) (by kernel_rfl) h))))))) (by kernel_rfl) (fun _ _ _ h => h) hA (.inl ⟨rfl, fun w5 q1 => ?_⟩) ?_
    ·go_simp
    simp only [Act.put, List.setIfInBounds_toArray, List.set]
    refine wpG_takeT (i := 24) (v := .pointer (some ⟨q, 1, none⟩)) rfl (fun L hc h => (hc.waits (n := 32) (i := 30) (by kernel_rfl) (hc.waits (n := 30) (i := 27) (by kernel_rfl) (hc.waits (n := 27) (i := 26) (by kernel_rfl) (hc.waits (n := 26) (i := 25) (by kernel_rfl) (hc.waits (n := 25) (i := 24) (by kernel_rfl) h)))))) (by kernel_rfl) (fun _ _ _ h => h) hA (.inl ⟨rfl, fun w5 q1 => ?_⟩) ?_
    ·go_simp
    simp only [Act.put, List.setIfInBounds_toArray, List.set]
    refine wpG_takeT (i := 25) (v := .int .i64 X.h.area) rfl (fun L hc h => (hc.waits (n := 32) (i := 30) (by kernel_rfl) (hc.waits (n := 30) (i := 27) (by kernel_rfl) (hc.waits (n := 27) (i := 26) (by kernel_rfl) (hc.waits (n := 26) (i := 25) (by kernel_rfl) h))))) (by kernel_rfl) (fun _ _ _ h => h) hA (.inl ⟨rfl, fun w5 q1 => ?_⟩) ?_
    ·have cc : w5.cell? ⟨q, 1, none⟩ = some (.int .i64 X.h.area) := by simp [World.cell?, (q1.block _ (lt_of_heap HM.out) (fun e => e)).trans HM.out, Lg.cells]
     go_simp
    simp only [Act.put, List.setIfInBounds_toArray, List.set]
    refine wpG_takeT (i := 26) (v := .int .i64 (2 * X.h.area)) rfl (fun L hc h => (hc.waits (n := 32) (i := 30) (by kernel_rfl) (hc.waits (n := 30) (i := 27) (by kernel_rfl) (hc.waits (n := 27) (i := 26) (by kernel_rfl) h)))) (by kernel_rfl) (fun _ _ _ h => h) hA (.inl ⟨rfl, fun w5 q1 => ?_⟩) ?_
    ·go_simp
    simp only [Act.put, List.setIfInBounds_toArray, List.set]
    refine wpG_takeT (i := 27) (v := .int .i64 np) rfl (fun L hc h => (hc.waits (n := 32) (i := 30) (by kernel_rfl) (hc.waits (n := 30) (i := 27) (by kernel_rfl) h))) (by kernel_rfl) (fun _ _ _ h => h) hA (.inl ⟨rfl, fun w5 q1 => ?_⟩) ?_
    ·go_simp
    simp only [Act.put, List.setIfInBounds_toArray, List.set]
    refine wpG_do2 (i := 29) (j := 31) rfl rfl (by kernel_rfl) rfl rfl (fun K hK => ?_) (fun K hK => ?_)
    ·
     have HKK := Lib.hid hK
     clear hK
     go_step
     refine (next_any _ ((HLG.out.kept HU2.out (fun _ _ e => e)).kept hA (fun _ _ e => e)) hok).mono ?_
     rintro e W5 ⟨rfl, hu5⟩
     have hA5 : Upd (fun _ => False) w2 W5 := hA.trans hu5
     simp only []
     refine HKK.out _ _ hA5 ?_
     clear HKK
     simp only [List.setIfInBounds_toArray, List.set]
     refine wpG_takeT (i := 30) (v := .agg #[.int .i64 (X.h.turn + 1), .int .i64 X.h.area, .int .i64 np, .int .i64 (X.h.number + X.parts.length)]) rfl (fun L hc h => (hc.waits (n := 32) (i := 30) (by kernel_rfl) h)) (by kernel_rfl) (fun _ _ _ h => h) hA5 (.inl ⟨rfl, fun w5 q1 => ?_⟩) ?_
     ·go_simp
     simp only [Act.put, List.setIfInBounds_toArray, List.set]
     refine wpG_doIf (i := 31) rfl (by kernel_rfl) rfl (fun K hK => ?_)
     have HKK := Lib.hid hK
     clear hK
     go_step
     refine HKK.out _ _ (hA5.alloc _) ?_
     clear HKK
     simp only [List.setIfInBounds_toArray, List.set]
     refine wpG_tail_lit (k := 32) rfl rfl (by kernel_rfl) ?_
     simp only [List.drop]
     have hAe : Upd (fun _ => False) w2 (W5.alloc (.cells #[.int .i64 0, .int .i64 0, .int .i64 0, .int .i64 0] 184)) := hA5.alloc _
     have hbh : w2.heap.size ≤ W5.heap.size := hA5.size
     have hzz : (W5.alloc (.cells #[.int .i64 0, .int .i64 0, .int .i64 0, .int .i64 0] 184)).heap[W5.heap.size]? = some (.cells #[.int .i64 0, .int .i64 0, .int .i64 0, .int .i64 0] 184 (0, 0)) := alloc_at rfl
     obtain ⟨f1, f2, f3⟩ := over4 (W := W5.alloc (.cells #[.int .i64 0, .int .i64 0, .int .i64 0, .int .i64 0] 184)) (b := W5.heap.size) #[.int .i64 (X.h.turn + 1), .int .i64 X.h.area, .int .i64 np, .int .i64 (X.h.number + X.parts.length)] hzz rfl
     clear hA hA5 hu5
     refine wpList_store_mid rfl 184 (.tmp 6) (.tmp 50) rfl W5.heap.size 0 #[.int .i64 (X.h.turn + 1), .int .i64 X.h.area, .int .i64 np, .int .i64 (X.h.number + X.parts.length)] rfl rfl f1 hi107 (by simp [Value.oneCell']) ?_
     refine (?_ : wpList _ _ _ _ _ ((W5.alloc (.cells #[.int .i64 0, .int .i64 0, .int .i64 0, .int .i64 0] 184)).setCells W5.heap.size 0 #[.int .i64 (X.h.turn + 1), .int .i64 X.h.area, .int .i64 np, .int .i64 (X.h.number + X.parts.length)].toList))
     have H2 := Lib.hid f2
     have HAE := Lib.hid (hAe.step f3 (fun k hk e => by have := hbh; omega))
     have HW5.heap.size := Lib.hid hbh
     clear f1 f2 f3 hAe hbh hzz
     go_wp2
     go_meet
     case rel => exact ⟨_, rfl, HW5.heap.size.out, H2.out, HAE.out⟩
    ·
     have HKK := Lib.hid hK
     clear hK
     go_step
     have hAa : Upd (fun _ => False) w2 (w2.drew.alloc (.cells #[.int .i64 0, .int .i64 0, .int .i64 0, .int .i64 0] 184)) := hA.alloc _
     refine HKK.out _ _ hAa ?_
     clear HKK
     simp only [List.setIfInBounds_toArray, List.set]
     refine wpG_doIf (i := 29) rfl (by kernel_rfl) rfl (fun K hK => ?_)
     have HKK := Lib.hid hK
     clear hK
     go_step
     refine (next_any _ ((HLG.out.kept HU2.out (fun _ _ e => e)).kept hAa (fun _ _ e => e)) hok).mono ?_
     rintro e W5 ⟨rfl, hu5⟩
     have hA5 : Upd (fun _ => False) w2 W5 := hAa.trans hu5
     simp only []
     refine HKK.out _ _ hA5 ?_
     clear HKK
     simp only [List.setIfInBounds_toArray, List.set]
     refine wpG_takeT (i := 30) (v := .agg #[.int .i64 (X.h.turn + 1), .int .i64 X.h.area, .int .i64 np, .int .i64 (X.h.number + X.parts.length)]) rfl (fun L hc h => (hc.waits (n := 32) (i := 30) (by kernel_rfl) h)) (by kernel_rfl) (fun _ _ _ h => h) hA5 (.inl ⟨rfl, fun w5 q1 => ?_⟩) ?_
     ·go_simp
     simp only [Act.put, List.setIfInBounds_toArray, List.set]
     refine wpG_tail_lit (k := 32) rfl rfl (by kernel_rfl) ?_
     simp only [List.drop]
     have hAe : Upd (fun _ => False) w2 W5 := hA5
     have hbh : w2.heap.size ≤ w2.drew.heap.size := Nat.le_refl _
     have hzz : W5.heap[w2.drew.heap.size]? = some (.cells #[.int .i64 0, .int .i64 0, .int .i64 0, .int .i64 0] 184 (0, 0)) := (hu5.block _ (by simp) (fun e => e)).trans (alloc_at rfl)
     obtain ⟨f1, f2, f3⟩ := over4 (W := W5) (b := w2.drew.heap.size) #[.int .i64 (X.h.turn + 1), .int .i64 X.h.area, .int .i64 np, .int .i64 (X.h.number + X.parts.length)] hzz rfl
     clear hA hA5 hu5 hAa
     refine wpList_store_mid rfl 184 (.tmp 6) (.tmp 50) rfl w2.drew.heap.size 0 #[.int .i64 (X.h.turn + 1), .int .i64 X.h.area, .int .i64 np, .int .i64 (X.h.number + X.parts.length)] rfl rfl f1 hi107 (by simp [Value.oneCell']) ?_
     refine (?_ : wpList _ _ _ _ _ (W5.setCells w2.drew.heap.size 0 #[.int .i64 (X.h.turn + 1), .int .i64 X.h.area, .int .i64 np, .int .i64 (X.h.number + X.parts.length)].toList))
     have H2 := Lib.hid f2
     have HAE := Lib.hid (hAe.step f3 (fun k hk e => by have := hbh; omega))
     have HBH := Lib.hid hbh
     clear f1 f2 f3 hAe hbh hzz
     go_wp2
     go_meet
     case rel => exact ⟨_, rfl, HBH.out, H2.out, HAE.out⟩
   case rest =>
    obtain ⟨bh, rfl, hb1, hb2, hb3⟩ := hcut
    obtain ⟨w3, rfl⟩ : ∃ w3, w3 = wc := ⟨_, rfl⟩
    have hw23 := HU2.out.size
    have HUC : RowKit.Hid (Upd (fun _ => False) w w3) := Lib.hid (HU2.out.trans hb3); have HBH := Lib.hid hb2; have HM3 := Lib.hid ((hb3.block _ (lt_of_heap HM.out) (fun e => e)).trans HM.out)
    have hbw : w.heap.size ≤ bh := by omega
    clear hb1 hb2 hb3 hA HU2 HM hw23
    have hcp : X.cpH = ⟨X.h.turn + 1, X.h.area, np, X.h.number + X.parts.length⟩ := by rw [Lg.cpH, HNP.out]
    have hcu : X.cpH.U32 := by rw [hcp]; exact ⟨(by show 0 ≤ X.h.turn + 1 ∧ X.h.turn + 1 ≤ 4294967295; omega), (by show 0 ≤ X.h.area ∧ X.h.area ≤ 4294967295; omega), (by show 0 ≤ np ∧ np ≤ 4294967295; omega), (by show 0 ≤ X.h.number + X.parts.length ∧ X.h.number + X.parts.length ≤ 4294967295; omega)⟩
    have hcs : X.cpS b hb = raw (partSc X.h (X.h.number + X.parts.length) np true b hb) := by rw [Lg.cpS, hcp]
    have HCP := Lib.hid hcp; have HCU := Lib.hid hcu; have HCS := Lib.hid hcs
    clear hcp hcu hcs
    have hA : Upd (fun _ => False) w3 w3.drew := (Upd.refl _ w3).drew
    go_upto_region 7 with fail
    refine wp_region_G 13 (fun W => Upd (fun _ => False) w3 W) [false, false, false, false, false, false, false, false, false, false, false, false, false, false, false] rfl (by kernel_rfl) ?_
    refine wpG_takeT (i := 0) (v := .pointer (some ⟨q, 0, none⟩)) rfl (fun L hc h => (hc.waits (n := 13) (i := 3) (by kernel_rfl) (hc.waits (n := 3) (i := 2) (by kernel_rfl) (hc.waits (n := 2) (i := 1) (by kernel_rfl) (hc.waits (n := 1) (i := 0) (by kernel_rfl) h))))) (by kernel_rfl) (fun _ _ _ h => h) hA (.inl ⟨rfl, fun w5 q1 => ?_⟩) ?_
    ·go_simp
    simp only [Act.put, List.setIfInBounds_toArray, List.set]
    refine wpG_takeT (i := 4) (v := .pointer (some ⟨q, 0, none⟩)) rfl (fun L hc h => (hc.waits (n := 13) (i := 7) (by kernel_rfl) (hc.waits (n := 7) (i := 6) (by kernel_rfl) (hc.waits (n := 6) (i := 5) (by kernel_rfl) (hc.waits (n := 5) (i := 4) (by kernel_rfl) h))))) (by kernel_rfl) (fun _ _ _ h => h) hA (.inl ⟨rfl, fun w5 q1 => ?_⟩) ?_
    ·go_simp
    simp only [Act.put, List.setIfInBounds_toArray, List.set]
    refine wpG_takeT (i := 1) (v := .pointer (some ⟨q, 0, none⟩)) rfl (fun L hc h => (hc.waits (n := 13) (i := 3) (by kernel_rfl) (hc.waits (n := 3) (i := 2) (by kernel_rfl) (hc.waits (n := 2) (i := 1) (by kernel_rfl) h)))) (by kernel_rfl) (fun _ _ _ h => h) hA (.inl ⟨rfl, fun w5 q1 => ?_⟩) ?_
    ·go_simp
    simp only [Act.put, List.setIfInBounds_toArray, List.set]
    refine wpG_takeT (i := 5) (v := .pointer (some ⟨q, 0, none⟩)) rfl (fun L hc h => (hc.waits (n := 13) (i := 7) (by kernel_rfl) (hc.waits (n := 7) (i := 6) (by kernel_rfl) (hc.waits (n := 6) (i := 5) (by kernel_rfl) h)))) (by kernel_rfl) (fun _ _ _ h => h) hA (.inl ⟨rfl, fun w5 q1 => ?_⟩) ?_
    ·go_simp
    simp only [Act.put, List.setIfInBounds_toArray, List.set]
    refine wpG_takeT (i := 2) (v := .pointer (some ⟨q, 0, none⟩)) rfl (fun L hc h => (hc.waits (n := 13) (i := 3) (by kernel_rfl) (hc.waits (n := 3) (i := 2) (by kernel_rfl) h))) (by kernel_rfl) (fun _ _ _ h => h) hA (.inl ⟨rfl, fun w5 q1 => ?_⟩) ?_
    ·go_simp
    simp only [Act.put, List.setIfInBounds_toArray, List.set]
    refine wpG_takeT (i := 6) (v := .pointer (some ⟨q, 4, none⟩)) rfl (fun L hc h => (hc.waits (n := 13) (i := 7) (by kernel_rfl) (hc.waits (n := 7) (i := 6) (by kernel_rfl) h))) (by kernel_rfl) (fun _ _ _ h => h) hA (.inl ⟨rfl, fun w5 q1 => ?_⟩) ?_
    ·go_simp
    simp only [Act.put, List.setIfInBounds_toArray, List.set]
    refine wpG_takeT (i := 3) (v := X.h.val) rfl (fun L hc h => (hc.waits (n := 13) (i := 3) (by kernel_rfl) h)) (by kernel_rfl) (fun _ _ _ h => h) hA (.inl ⟨rfl, fun w5 q1 => ?_⟩) ?_
    ·refine run_load_mid' rfl rfl [.int .i64 X.h.turn, .int .i64 X.h.area, .int .i64 X.h.place, .int .i64 X.h.number] (fun j v hj => ?_) Tryz.underlying184 rfl hi107
     have hm := (q1.block _ (lt_of_heap HM3.out) (fun e => e)).trans HM3.out
     match j, hj with
     | 0, hj => simp at hj; subst hj; simp [World.cell?, hm, Lg.cells]
     | 1, hj => simp at hj; subst hj; simp [World.cell?, hm, Lg.cells]
     | 2, hj => simp at hj; subst hj; simp [World.cell?, hm, Lg.cells]
     | 3, hj => simp at hj; subst hj; simp [World.cell?, hm, Lg.cells]
     |j + 4, hj => simp at hj
    simp only [Act.put, List.setIfInBounds_toArray, List.set]
    refine wpG_takeT (i := 7) (v := .pointer (some ⟨p, 0, none⟩)) rfl (fun L hc h => (hc.waits (n := 13) (i := 7) (by kernel_rfl) h)) (by kernel_rfl) (fun _ _ _ h => h) hA (.inl ⟨rfl, fun w5 q1 => ?_⟩) ?_
    ·have cc : w5.cell? ⟨q, 4, none⟩ = some (.pointer (some ⟨p, 0, none⟩)) := by simp [World.cell?, (q1.block _ (lt_of_heap HM3.out) (fun e => e)).trans HM3.out, Lg.cells]
     go_simp
    simp only [Act.put, List.setIfInBounds_toArray, List.set]
    refine wpG_takeT (i := 8) (v := .pointer (some ⟨bh, 3, none⟩)) rfl (fun L hc h => (hc.waits (n := 13) (i := 9) (by kernel_rfl) (hc.waits (n := 9) (i := 8) (by kernel_rfl) h))) (by kernel_rfl) (fun _ _ _ h => h) hA (.inl ⟨rfl, fun w5 q1 => ?_⟩) ?_
    ·go_simp
    simp only [Act.put, List.setIfInBounds_toArray, List.set]
    refine wpG_takeT (i := 9) (v := .int .i64 (X.h.number + X.parts.length)) rfl (fun L hc h => (hc.waits (n := 13) (i := 9) (by kernel_rfl) h)) (by kernel_rfl) (fun _ _ _ h => h) hA (.inl ⟨rfl, fun w5 q1 => ?_⟩) ?_
    ·have cc : w5.cell? ⟨bh, 3, none⟩ = some (.int .i64 (X.h.number + X.parts.length)) := by simp [World.cell?, (q1.block _ (lt_of_heap HBH.out) (fun e => e)).trans HBH.out]
     go_simp
    simp only [Act.put, List.setIfInBounds_toArray, List.set]
    refine wpG_takeT (i := 10) (v := .pointer (some ⟨bh, 2, none⟩)) rfl (fun L hc h => (hc.waits (n := 13) (i := 11) (by kernel_rfl) (hc.waits (n := 11) (i := 10) (by kernel_rfl) h))) (by kernel_rfl) (fun _ _ _ h => h) hA (.inl ⟨rfl, fun w5 q1 => ?_⟩) ?_
    ·go_simp
    simp only [Act.put, List.setIfInBounds_toArray, List.set]
    refine wpG_takeT (i := 11) (v := .int .i64 np) rfl (fun L hc h => (hc.waits (n := 13) (i := 11) (by kernel_rfl) h)) (by kernel_rfl) (fun _ _ _ h => h) hA (.inl ⟨rfl, fun w5 q1 => ?_⟩) ?_
    ·have cc : w5.cell? ⟨bh, 2, none⟩ = some (.int .i64 np) := by simp [World.cell?, (q1.block _ (lt_of_heap HBH.out) (fun e => e)).trans HBH.out]
     go_simp
    simp only [Act.put, List.setIfInBounds_toArray, List.set]
    refine wpG_takeT (i := 12) (v := .slice sa b.length sc) rfl (fun L hc h => (hc.waits (n := 13) (i := 12) (by kernel_rfl) h)) (by kernel_rfl) (fun _ _ _ h => h) hA (.inl ⟨rfl, fun w5 q1 => ?_⟩) ?_
    ·go_simp
    simp only [Act.put, List.setIfInBounds_toArray, List.set]
    refine wpG_tail_lit (k := 13) rfl rfl (by kernel_rfl) ?_
    simp only [List.drop]
    have HU5 := Lib.hid (HUC.out.trans hA)
    clear hA HM3
    go_wp2_with (go_at_call 110; fail)
    refine (part_any w3.drew (HD.out.kept HU5.out (fun _ _ e => e)) HDOK.out (by omega) HB.out hb4 (by omega) (by omega) (by omega) (by omega) (HBI.out.kept HU5.out) (fun hne a n c e => (HSV.out hne a n c e).1)).mono ?_
    rintro e W6 ⟨rfl, hl⟩
    rw [← HCS.out] at hl ⊢
    obtain ⟨E, hE⟩ : ∃ E, E = D.laysE (X.cpS b hb) := ⟨_, rfl⟩
    rw [← hE]
    obtain ⟨F', d1, d2, d3⟩ := hl
    have hsz5 := HU5.out.size
    have hsz3 : w3.drew.heap.size = w3.heap.size := rfl
    have hLG6 : Log W6 q p X G := (HLG.out.kept HU5.out (fun _ _ e => e)).kept d3 (fun k hk => HGF.out k hk)
    have hb6 := (d3.block bh (lt_of_heap HBH.out) (fun e => by have := HFL.out _ e; omega)).trans HBH.out
    have hqF : ∀ k, G k → ¬ F' k := fun k hk e => by
     rcases d2 k e with e2 | e2
     ·exact HGF.out k hk e2
     ·have := HGL.out k hk; omega
    have hd2 : ∀ k, F' k → F k ∨ w.heap.size ≤ k := fun k hk => (d2 k hk).imp id (fun e => by omega)
    have hbF : ¬ F' bh := fun e => by
     rcases d2 bh e with e2 | e2
     ·have := HFL.out bh e2; omega
     ·have := lt_of_heap HBH.out; omega
    have hq6 : q < W6.heap.size := by have := HGL.out q HQG.out; have := d3.size; omega
    have hbq : bh ≠ q := fun e => by have := HGL.out q HQG.out; omega
    have HLG6 := Lib.hid hLG6; have HB6 := Lib.hid hb6; have HQF := Lib.hid hqF; have HD6 := Lib.hid d1; have HD2 := Lib.hid hd2; have HU6 : RowKit.Hid (Upd F w W6) := Lib.hid ((HU5.out.mono (fun _ _ e => e.elim)).trans d3); have HE := Lib.hid hE; have HBF := Lib.hid hbF; have HBQ := Lib.hid hbq
    obtain ⟨PV6, hm6⟩ := hLG6.main'
    have HM6 := Lib.hid hm6
    clear hLG6 hb6 hqF d1 d2 d3 hd2 hbF hE hm6 HU5 hsz5 hsz3 hbq hq6
    simp only []
    by_cases hE0 : E ≠ 0
    ·
     have hEq : (E != 0) = true := by simpa using hE0
     have hEq2 : (E == 0) = false := by simpa using hE0
     have c7 : W6.cell? ⟨q, 7, none⟩ = some (.bool X.broken) := by simp [World.cell?, HM6.out, Lg.cells]
     have f7 : W6.frozen? ⟨q, 7, none⟩ = false := frozen_of_heap HM6.out
     go_upto_region 11 with fail
     obtain ⟨W7, hW7⟩ : ∃ W7, W7 = W6.setCell ⟨q, 7, none⟩ (.bool true) := ⟨_, rfl⟩
     rw [← hW7]
     have hL7 : Log W7 q p (X.brk true) G := by rw [hW7]; exact HLG6.out.setBroken _
     have hu67 : Upd (fun k => k = q) W6 W7 := by rw [hW7]; exact upd_own _ _ _ _
     have hD7 : Dsk W7 p (D.lays (X.cpS b hb)) F' := HD6.out.kept hu67 (fun k hk e => HQF.out q HQG.out (e ▸ hk))
     have hu7 : Upd (fun k => G k ∨ F k) w W7 := (HU6.out.mono (fun _ _ e => .inr e)).trans (hu67.mono (fun k _ e => .inl (e ▸ HQG.out)))
     obtain ⟨PV7, hm7⟩ := hL7.main'
     have c7' : W7.cell? ⟨q, 7, none⟩ = some (.bool true) := by simp [World.cell?, hm7, Lg.cells, Lg.brk]
     have HL7 := Lib.hid hL7; have HD7 := Lib.hid hD7; have HU7 := Lib.hid hu7
     clear hL7 hu67 hD7 hu7 hm7 hW7 c7 f7
     go_wp2
     go_ret
     have he := HE.out
     have h1 : CE = E := by rw [HCE.out, Lg.cpE, ← he, if_neg hE0]
     have h2 : CD = D.lays (X.cpS b hb) := by rw [HCD.out, Lg.cpD, ← he, if_neg hE0]
     refine ⟨by rw [h1]; rfl, G, F', ⟨?_, by rw [h2]; exact HD7.out, HQF.out⟩, fun k hk => .inl hk, HD2.out, HU7.out⟩
     rw [h1, Lg.cp, if_neg hE0]
     exact HL7.out
    ·
     have hE0 : E = 0 := Decidable.not_not.1 hE0
     subst hE0
     have hA : Upd (fun _ => False) W6 W6.drew := (Upd.refl _ W6).drew
     go_upto_region 9 with fail
     refine wp_region_G 5 (fun W => Upd (fun _ => False) W6 W) [false, false, false, false, false, false, false] rfl (by kernel_rfl) ?_
     refine wpG_takeT (i := 0) (v := X.cpH.val) rfl (fun L hc h => (hc.waits (n := 5) (i := 0) (by kernel_rfl) h)) (by kernel_rfl) (fun _ _ _ h => h) hA (.inl ⟨rfl, fun w5 q1 => ?_⟩) ?_
     ·rw [HCP.out]
      exact run_load_mid' rfl rfl [.int .i64 (X.h.turn + 1), .int .i64 X.h.area, .int .i64 np, .int .i64 (X.h.number + X.parts.length)] (rangeAt_block (cs := [.int .i64 (X.h.turn + 1), .int .i64 X.h.area, .int .i64 np, .int .i64 (X.h.number + X.parts.length)]) ((q1.block _ (lt_of_heap HB6.out) (fun e => e)).trans HB6.out)) Tryz.underlying184 rfl hi107
     simp only [Act.put, List.setIfInBounds_toArray, List.set]
     refine wpG_takeT (i := 1) (v := .pointer (some ⟨q, 0, none⟩)) rfl (fun L hc h => (hc.waits (n := 5) (i := 4) (by kernel_rfl) (hc.waits (n := 4) (i := 3) (by kernel_rfl) (hc.waits (n := 3) (i := 2) (by kernel_rfl) (hc.waits (n := 2) (i := 1) (by kernel_rfl) h))))) (by kernel_rfl) (fun _ _ _ h => h) hA (.inl ⟨rfl, fun w5 q1 => ?_⟩) ?_
     ·go_simp
     simp only [Act.put, List.setIfInBounds_toArray, List.set]
     refine wpG_takeT (i := 2) (v := .pointer (some ⟨q, 0, none⟩)) rfl (fun L hc h => (hc.waits (n := 5) (i := 4) (by kernel_rfl) (hc.waits (n := 4) (i := 3) (by kernel_rfl) (hc.waits (n := 3) (i := 2) (by kernel_rfl) h)))) (by kernel_rfl) (fun _ _ _ h => h) hA (.inl ⟨rfl, fun w5 q1 => ?_⟩) ?_
     ·go_simp
     simp only [Act.put, List.setIfInBounds_toArray, List.set]
     refine wpG_takeT (i := 3) (v := .pointer (some ⟨q, 4, none⟩)) rfl (fun L hc h => (hc.waits (n := 5) (i := 4) (by kernel_rfl) (hc.waits (n := 4) (i := 3) (by kernel_rfl) h))) (by kernel_rfl) (fun _ _ _ h => h) hA (.inl ⟨rfl, fun w5 q1 => ?_⟩) ?_
     ·go_simp
     simp only [Act.put, List.setIfInBounds_toArray, List.set]
     refine wpG_takeT (i := 4) (v := .pointer (some ⟨p, 0, none⟩)) rfl (fun L hc h => (hc.waits (n := 5) (i := 4) (by kernel_rfl) h)) (by kernel_rfl) (fun _ _ _ h => h) hA (.inl ⟨rfl, fun w5 q1 => ?_⟩) ?_
     ·have cc : w5.cell? ⟨q, 4, none⟩ = some (.pointer (some ⟨p, 0, none⟩)) := by simp [World.cell?, (q1.block _ (lt_of_heap HM6.out) (fun e => e)).trans HM6.out, Lg.cells]
      go_simp
     simp only [Act.put, List.setIfInBounds_toArray, List.set]
     refine wpG_tail_lit (k := 5) rfl rfl (by kernel_rfl) ?_
     simp only [List.drop]
     clear hA
     go_wp2_with (go_at_call 112; fail)
     have hsln := secsN_bound hb4
     refine (laid_any W6.drew (HD6.out.kept ((Upd.refl (fun _ => False) W6).drew) (fun _ _ e => e)) (Dk.lays_ok (partSc X.h X.cpH.number X.cpH.place true b hb) HDOK.out) (by rw [partSc_length]; omega) HCU.out).mono ?_
     rintro e W7 ⟨rfl, hl⟩
     obtain ⟨D1, hD1⟩ : ∃ D1, D1 = D.lays (X.cpS b hb) := ⟨_, rfl⟩
     have hl0 := hl
     clear hl
     have hl : Left W6.drew p (D1.lays (raw [headSc X.cpH])) F' W7 := by rw [hD1]; exact hl0
     clear hl0
     rw [show (D.lays (X.cpS b hb)).laysE (raw [headSc X.cpH]) = D1.laysE (raw [headSc X.cpH]) by rw [hD1]]
     obtain ⟨E, hE⟩ : ∃ E, E = D1.laysE (raw [headSc X.cpH]) := ⟨_, rfl⟩
     rw [← hE]
     obtain ⟨F2, d1, d2, d3⟩ := hl
     have hu67 : Upd F' W6 W7 := ((Upd.refl _ W6).drew).trans d3
     have hLG7 : Log W7 q p X G := HLG6.out.kept hu67 HQF.out
     have hb7 := (hu67.block bh (lt_of_heap HB6.out) HBF.out).trans HB6.out
     have hs6 : w.heap.size ≤ W6.heap.size := HU6.out.size
     have hd6 : W6.drew.heap.size = W6.heap.size := rfl
     have hqF : ∀ k, G k → ¬ F2 k := fun k hk e => by
      rcases d2 k e with e2 | e2
      ·exact HQF.out k hk e2
      ·have := HGL.out k hk; omega
     have hd2 : ∀ k, F2 k → F k ∨ w.heap.size ≤ k := fun k hk => by
      rcases d2 k hk with e2 | e2
      ·exact HD2.out k e2
      ·exact .inr (by omega)
     have hu7 : Upd F w W7 := HU6.out.step hu67 (fun k hk e => (HD2.out k e).elim id (fun e2 => by omega))
     obtain ⟨PV7, hm7⟩ := hLG7.main'
     have c7 : W7.cell? ⟨q, 7, none⟩ = some (.bool X.broken) := by simp [World.cell?, hm7, Lg.cells]
     have f7 : W7.frozen? ⟨q, 7, none⟩ = false := frozen_of_heap hm7
     have HLG7 := Lib.hid hLG7; have HB7 := Lib.hid hb7; have HQF2 := Lib.hid hqF; have HD7 := Lib.hid d1; have HD22 := Lib.hid hd2; have HU7 := Lib.hid hu7; have HE2 := Lib.hid hE; have HD1 := Lib.hid hD1
     clear hLG7 hb7 hqF d1 d2 d3 hd2 hu7 hE hm7 hu67 hs6 hd6 hsln hD1 HLG6 HB6 HQF HD6 HD2 HU6 HM6 HBF
     simp only []
     go_upto_region 11 with fail
     obtain ⟨W8, hW8⟩ : ∃ W8, W8 = W7.setCell ⟨q, 7, none⟩ (.bool (E != 0)) := ⟨_, rfl⟩
     rw [← hW8]
     have hL8 : Log W8 q p (X.brk (E != 0)) G := by rw [hW8]; exact HLG7.out.setBroken _
     have hu78 : Upd (fun k => k = q) W7 W8 := by rw [hW8]; exact upd_own _ _ _ _
     have hD8 : Dsk W8 p (D1.lays (raw [headSc X.cpH])) F2 := HD7.out.kept hu78 (fun k hk e => HQF2.out q HQG.out (e ▸ hk))
     have hb8 := (hu78.block bh (lt_of_heap HB7.out) HBQ.out).trans HB7.out
     have hu8 : Upd (fun k => G k ∨ F k) w W8 := (HU7.out.mono (fun _ _ e => .inr e)).trans (hu78.mono (fun k _ e => .inl (e ▸ HQG.out)))
     have hbi8 : BytesIn W8 (.slice sa b.length sc) b := (HBI.out.keptF HU7.out (fun hne a n c e => (HSV.out hne a n c e).1)).keptF hu78 (fun hne a n c e => (HSV.out hne a n c e).2)
     obtain ⟨PV8, hm8⟩ := hL8.main'
     have c7' : W8.cell? ⟨q, 7, none⟩ = some (.bool (E != 0)) := by simp [World.cell?, hm8, Lg.cells, Lg.brk]
     have HL8 := Lib.hid hL8; have HD8 := Lib.hid hD8; have HU8 := Lib.hid hu8; have HB8 := Lib.hid hb8; have HBI8 := Lib.hid hbi8; have HM8 := Lib.hid hm8
     clear hL8 hu78 hD8 hb8 hu8 hbi8 hm8 hW8 c7 f7 HLG7 HB7 HD7 HU7
     have hce : CE = E := by rw [HCE.out, Lg.cpE, ← HE.out, if_pos rfl, ← HD1.out, ← HE2.out]
     have hcd : CD = D1.lays (raw [headSc X.cpH]) := by rw [HCD.out, Lg.cpD, ← HE.out, if_pos rfl, ← HD1.out]
     have HCE2 := Lib.hid hce; have HCD2 := Lib.hid hcd
     clear hce hcd
     by_cases hE0 : E ≠ 0
     ·
      have hEq : (E != 0) = true := by simpa using hE0
      rw [hEq] at c7' HL8
      go_wp2
      go_ret
      have h1 := HCE2.out; have h2 := HCD2.out
      refine ⟨by rw [h1]; rfl, G, F2, ⟨?_, by rw [h2]; exact HD8.out, HQF2.out⟩, fun k hk => .inl hk, HD22.out, HU8.out⟩
      rw [h1, Lg.cp, if_neg hE0]
      exact HL8.out
     ·
      have hE0 : E = 0 := Decidable.not_not.1 hE0
      subst hE0
      have hz : ((0 : Int) != 0) = false := rfl
      rw [hz] at c7' HM8
      clear HL8
      go_upto_region 12 with fail
      clear c7'
      iterate 10 go_step
      refine wpList_load_mid rfl 184 (.tmp 6) rfl bh 0 rfl [.int .i64 (X.h.turn + 1), .int .i64 X.h.area, .int .i64 np, .int .i64 (X.h.number + X.parts.length)] _ (rangeAt_block (cs := [.int .i64 (X.h.turn + 1), .int .i64 X.h.area, .int .i64 np, .int .i64 (X.h.number + X.parts.length)]) HB8.out) Tryz.underlying184 rfl hi107 ?_
      iterate 6 go_step
      have hm8 := HM8.out
      have hth : W8.there q 0 4 := fun j hj => there_block hm8 j (by simp [Lg.cells]; omega)
      refine wpList_store_mid rfl 184 (.tmp 88) (.tmp 86) rfl q 0 [.int .i64 (X.h.turn + 1), .int .i64 X.h.area, .int .i64 np, .int .i64 (X.h.number + X.parts.length)].toArray rfl rfl hth hi107 (by simp [Value.oneCell']) ?_
      refine (?_ : wpList _ _ _ _ _ (W8.setCells q 0 [.int .i64 (X.h.turn + 1), .int .i64 X.h.area, .int .i64 np, .int .i64 (X.h.number + X.parts.length)]))
      have hs4 := set4 (a0 := .int .i64 (X.h.turn + 1)) (a1 := .int .i64 X.h.area) (a2 := .int .i64 np) (a3 := .int .i64 (X.h.number + X.parts.length)) hm8
      obtain ⟨W9, hW9⟩ : ∃ W9, W9 = W8.setCells q 0 [.int .i64 (X.h.turn + 1), .int .i64 X.h.area, .int .i64 np, .int .i64 (X.h.number + X.parts.length)] := ⟨_, rfl⟩
      rw [← hW9] at hs4 ⊢
      have hu89 : Upd (fun k => k = q) W8 W9 := by rw [hW9]; exact Upd.setCells (F := fun k => k = q) rfl _ 0 (Upd.refl _ W8)
      have HS4 := Lib.hid hs4; have HU89 := Lib.hid hu89
      have c5 : W9.cell? ⟨q, 5, none⟩ = some PV8 := by simp [World.cell?, hs4]
      have c6 : W9.cell? ⟨q, 6, none⟩ = some (.int .i64 X.used) := by simp [World.cell?, hs4, Lg.brk]
      have f5 : ∀ o, W9.frozen? ⟨q, o, none⟩ = false := fun o => frozen_of_heap hs4
      clear hm8 hth hs4 hu89 hW9 HM8
      go_upto_region 13 with fail
      obtain ⟨W10, hW10⟩ : ∃ W10, W10 = (W9.setCell ⟨q, 5, none⟩ (.slice none 0 0)).setCell ⟨q, 6, none⟩ (.int .i64 0) := ⟨_, rfl⟩
      rw [← hW10]
      have hm10 : W10.heap[q]? = some (.cells ((⟨X.cpH, [], 0, false⟩ : Lg).cells p (.slice none 0 0)) 193 (0, 0)) := by
       rw [hW10]
       have h1 := blk_set (i := 5) (v := .slice none 0 0) HS4.out
       have h2 := blk_set (i := 6) (v := .int .i64 0) h1
       rw [h2, HCP.out]
       simp [Lg.cells, Lg.brk]
      have hu910 : Upd (fun k => k = q) W9 W10 := by rw [hW10]; exact Upd.setCell (F := fun k => k = q) (p := ⟨q, 6, none⟩) (Upd.setCell (F := fun k => k = q) (p := ⟨q, 5, none⟩) (Upd.refl _ W9) (.inl rfl) _) (.inl rfl) _
      have hu810 : Upd (fun k => k = q) W8 W10 := HU89.out.trans hu910
      have hL10 := newLog hm10
      have hD10 : Dsk W10 p (D1.lays (raw [headSc X.cpH])) F2 := HD8.out.kept hu810 (fun k hk e => HQF2.out q HQG.out (e ▸ hk))
      have hu10 : Upd (fun k => G k ∨ F k) w W10 := HU8.out.trans (hu810.mono (fun k _ e => .inl (e ▸ HQG.out)))
      have hbi10 : BytesIn W10 (.slice sa b.length sc) b := HBI8.out.keptF hu810 (fun hne a n c e => (HSV.out hne a n c e).2)
      have HL10 := Lib.hid hL10; have HD10 := Lib.hid hD10; have HU10 := Lib.hid hu10; have HBI10 := Lib.hid hbi10
      clear hm10 hu910 hu810 hL10 hD10 hu10 hbi10 hW10 c5 c6 f5 HS4 HU89 HU8 HD8 HB8 HBI8
      go_wp2_with (go_at_call 99; fail)
      refine (clone_any W10 (by omega) HBI10.out).mono ?_
      rintro e W11 ⟨u8, rfl, ho8, _, hu11⟩
      have HO8 := Lib.hid ho8; have HU11 := Lib.hid hu11
      clear ho8 hu11
      simp only []
      go_wp2_with (go_at_call 117; fail)
      have hW10s := HU10.out.size
      have hqw := HGL.out q HQG.out
      have hok2 : (⟨X.cpH, [], 0, false⟩ : Lg).Ok := by
       rw [HCP.out]
       exact ⟨(by show 0 ≤ X.h.turn + 1 ∧ X.h.turn + 1 ≤ 1073741824; omega), (by show 4 ≤ X.h.area ∧ X.h.area ≤ 1000; omega), (by show 0 ≤ np ∧ np ≤ 100000; omega), (by show 0 ≤ X.h.number + X.parts.length ∧ X.h.number + X.parts.length ≤ 1073741825; omega), (by show (0 : Int) ≤ 0 ∧ (0 : Int) ≤ 1000; omega), (by simp), (by simp)⟩
      refine (adds_any W11 (HL10.out.kept HU11.out (fun _ _ e => e)) hok2 (by simp) HO8.out (fun k hk e => by have h1 := (World.ownsRow.lt HO8.out k hk).1; omega) hb4).mono ?_
      rintro e W12 ⟨rfl, ⟨G9, g1, g2⟩, hu12⟩
      have hown9 : ∀ k, u8.ownBlock = some k → W10.heap.size ≤ k := fun k hk => (World.ownsRow.lt HO8.out k hk).1
      have h11 := HU11.out.size
      have hG9 : ∀ k, G9 k → G k ∨ w.heap.size ≤ k := fun k hk => by
       rcases g2 k hk with e1 | e1 | e1
       ·exact .inl (e1 ▸ HQG.out)
       ·exact .inr (by have := hown9 k e1; omega)
       ·exact .inr (by omega)
      have hFs : ∀ k, F2 k → k < W10.heap.size := HD10.out.lt
      have hdis : ∀ k, G9 k → ¬ F2 k := fun k hk e => by
       rcases g2 k hk with e1 | e1 | e1
       ·exact HQF2.out q HQG.out (e1 ▸ e)
       ·have h1 := hown9 k e1; have := hFs k e; omega
       ·have := hFs k e; omega
      have hD12 : Dsk W12 p (D1.lays (raw [headSc X.cpH])) F2 := (HD10.out.kept HU11.out (fun _ _ e => e)).kept hu12 (fun k hk e => HQF2.out q HQG.out (e ▸ hk))
      have HD12 := Lib.hid hD12; have HG9 := Lib.hid hG9; have HDIS := Lib.hid hdis; have HL9 := Lib.hid g1
      have HU12 : RowKit.Hid (Upd (fun k => G k ∨ F k) w W12) := Lib.hid ((HU10.out.trans (HU11.out.mono (fun _ _ e => e.elim))).trans (hu12.mono (fun k _ e => .inl (e ▸ HQG.out))))
      clear g1 g2 hu12 hown9 hG9 hFs hdis hD12 hW10s h11 hok2
      simp only []
      go_wp2
      go_ret
      have h1 := HCE2.out; have h2 := HCD2.out
      refine ⟨by rw [h1]; rfl, G9, F2, ⟨?_, by rw [h2]; exact HD12.out, HDIS.out⟩, HG9.out, HD22.out, HU12.out⟩
      rw [h1, Lg.cp, if_pos rfl]
      exact HL9.out
end
section
open Go.RowKit Go.Shelf
def fmtH (area : Nat) : Hd := ⟨1, area, 0, 1⟩
theorem bytes_nil : Bytes [] := fun x hx => by simp at hx
def fmt1 (area : Nat) : List (Int × List Int) := raw (zl area)
def fmt2 (area : Nat) : List (Int × List Int) := raw (partSc (fmtH area) 1 0 true [] bytes_nil)
def fmt3 (area : Nat) : List (Int × List Int) := raw [headSc (fmtH area)]
theorem fmtH_u32 {area : Nat} (h : area ≤ 1000) : (fmtH area).U32 := ⟨(by show (0 : Int) ≤ 1 ∧ (1 : Int) ≤ 4294967295; omega), (by show (0 : Int) ≤ area ∧ (area : Int) ≤ 4294967295; omega), (by show (0 : Int) ≤ 0 ∧ (0 : Int) ≤ 4294967295; omega), (by show (0 : Int) ≤ 1 ∧ (1 : Int) ≤ 4294967295; omega)⟩
theorem fmt1_any {p b0 b1 area : Nat} {D : Dk} {F : Nat → Prop} {K : Nat} (w : World) (hD : Dsk w p D F) (hok : D.Ok K) (hK : K ≤ 1099511600000) (ha : area ≤ 1000) (h0 : w.heap[b0]? = some (.cells #[.pointer (some ⟨p, 0, none⟩)] 25 (0, 0))) (h1 : w.heap[b1]? = some (.cells #[.int .i64 area] 3 (0, 0))) (hb : ¬ F b1) :
  Calls Tryz.prog 106 #[.pointer (some ⟨b0, 0, none⟩), .pointer (some ⟨b1, 0, none⟩)] w fun e w' => e = .returned (.int .i64 (D.laysE (fmt1 area))) ∧ Left w p (D.lays (fmt1 area)) F w' := by
 have c0 := cells1_of h0
 have hrun := lays_run (gf := 108) (lb := #[.pointer (some ⟨b1, 0, none⟩)]) (S := fun k => k = b1) (zl area) w hD hok (by rw [zl_length]; omega) (enters_of Tryz.func108 (by kernel_rfl) rfl) (fun k hk => by rw [hk]; exact hb) (fun k hk => by rw [hk]; exact lt_of_heap h1)
  (fun w1 hu1 => zeros_stops Fence.wide (3 - 1) trivial rfl (by omega) b1 area (fun k => k = b1) ha w1 (fun k hk => by rw [hk]; exact Nat.lt_of_lt_of_le (lt_of_heap h1) hu1.size) rfl (cells1_of ((hu1.block _ (lt_of_heap h1) (fun e => e)).trans h1)))
 have HR := Lib.hid hrun
 clear hrun h0 h1 hb hD hok
 go_enter Tryz.func106, Tryz.ntmps106
 go_wp2_with (go_at_call 107; fail)
 refine HR.out.mono ?_
 rintro e w6 ⟨rfl, hl6⟩
 have HL := Lib.hid hl6
 clear hl6 HR
 simp only []
 go_wp2
 go_ret
 exact ⟨rfl, HL.out⟩
theorem fmt2_any {p b0 b6 area : Nat} {D : Dk} {F : Nat → Prop} {K : Nat} (w : World) (hD : Dsk w p D F) (hok : D.Ok K) (hK : K ≤ 1099511600000) (ha : 4 ≤ area ∧ area ≤ 1000) (h0 : w.heap[b0]? = some (.cells #[.pointer (some ⟨p, 0, none⟩)] 25 (0, 0))) (h6 : w.heap[b6]? = some (.cells #[.int .i64 1, .int .i64 area, .int .i64 0, .int .i64 1] 184 (0, 0))) :
  Calls Tryz.prog 109 #[.pointer (some ⟨b6, 0, none⟩), .pointer (some ⟨b0, 0, none⟩)] w fun e w' => e = .returned (.int .i64 (D.laysE (fmt2 area))) ∧ Left w p (D.lays (fmt2 area)) F w' := by
 have c0 := cells1_of h0
 have d0 : w.cell? ⟨b6, 0, none⟩ = some (.int .i64 1) := by simp [World.cell?, h6]
 have d1 : w.cell? ⟨b6, 1, none⟩ = some (.int .i64 area) := by simp [World.cell?, h6]
 have d2 : w.cell? ⟨b6, 2, none⟩ = some (.int .i64 0) := by simp [World.cell?, h6]
 have d3 : w.cell? ⟨b6, 3, none⟩ = some (.int .i64 1) := by simp [World.cell?, h6]
 have hrun := part_any (h := fmtH area) (number := 1) (place := 0) (snap := true) (v := .slice none 0 0) w hD hok (by omega) bytes_nil (by simp) (by show (0 : Int) ≤ 1 ∧ (1 : Int) ≤ 4294967295; omega) (by show (1 : Int) ≤ area ∧ (area : Int) ≤ 1000; omega) (by omega) (by omega) (.inl ⟨rfl, rfl⟩) (fun hne => absurd rfl hne)
 have HR := Lib.hid hrun
 clear hrun h0 h6 hD hok
 go_enter Tryz.func109, Tryz.ntmps109
 go_wp2_with (go_at_call 110; fail)
 refine HR.out.mono ?_
 rintro e w6 ⟨rfl, hl6⟩
 have HL := Lib.hid hl6
 clear hl6 HR
 simp only []
 go_wp2
 go_ret
 exact ⟨rfl, HL.out⟩
theorem fmt3_any {p b0 b6 area : Nat} {D : Dk} {F : Nat → Prop} {K : Nat} (w : World) (hD : Dsk w p D F) (hok : D.Ok K) (hK : K ≤ 1099511600000) (ha : 4 ≤ area ∧ area ≤ 1000) (h0 : w.heap[b0]? = some (.cells #[.pointer (some ⟨p, 0, none⟩)] 25 (0, 0))) (h6 : w.heap[b6]? = some (.cells #[.int .i64 1, .int .i64 area, .int .i64 0, .int .i64 1] 184 (0, 0))) :
  Calls Tryz.prog 111 #[.pointer (some ⟨b6, 0, none⟩), .pointer (some ⟨b0, 0, none⟩)] w fun e w' => e = .returned (.int .i64 (D.laysE (fmt3 area))) ∧ Left w p (D.lays (fmt3 area)) F w' := by
 have c0 := cells1_of h0
 have d0 : w.cell? ⟨b6, 0, none⟩ = some (.int .i64 1) := by simp [World.cell?, h6]
 have d1 : w.cell? ⟨b6, 1, none⟩ = some (.int .i64 area) := by simp [World.cell?, h6]
 have d2 : w.cell? ⟨b6, 2, none⟩ = some (.int .i64 0) := by simp [World.cell?, h6]
 have d3 : w.cell? ⟨b6, 3, none⟩ = some (.int .i64 1) := by simp [World.cell?, h6]
 have hrun := laid_any (h := fmtH area) w hD hok (by omega) (fmtH_u32 ha.2)
 have HR := Lib.hid hrun
 clear hrun h0 h6 hD hok
 go_enter Tryz.func111, Tryz.ntmps111
 go_wp2_with (go_at_call 112; fail)
 refine HR.out.mono ?_
 rintro e w6 ⟨rfl, hl6⟩
 have HL := Lib.hid hl6
 clear hl6 HR
 simp only []
 go_wp2
 go_ret
 exact ⟨rfl, HL.out⟩
def fmtD (D : Dk) (area : Nat) : Nat → Dk
 | 0 => D
 | 1 => D.lays (fmt1 area)
 | 2 => (D.lays (fmt1 area)).lays (fmt2 area)
 | _ => ((D.lays (fmt1 area)).lays (fmt2 area)).lays (fmt3 area)
structure FmtAt (w w3 : World) (p b0 b1 b6 area : Nat) (D : Dk) (F : Nat → Prop) (W : World) : Prop where
 dsk : ∃ F', Dsk W p D F' ∧ ∀ k, F' k → F k ∨ w3.heap.size ≤ k
 upd : Upd F w W
 size : w3.heap.size ≤ W.heap.size
 c0 : W.heap[b0]? = some (.cells #[.pointer (some ⟨p, 0, none⟩)] 25 (0, 0))
 c1 : W.heap[b1]? = some (.cells #[.int .i64 area] 3 (0, 0))
 c6 : W.heap[b6]? = some (.cells #[.int .i64 1, .int .i64 area, .int .i64 0, .int .i64 1] 184 (0, 0))
theorem FmtAt.step {w w3 W W' : World} {p b0 b1 b6 area : Nat} {D D' : Dk} {F F' : Nat → Prop} (h : FmtAt w w3 p b0 b1 b6 area D F W) (hw : w.heap.size ≤ w3.heap.size) (hb : ∀ k, (k = b0 ∨ k = b1 ∨ k = b6) → w.heap.size ≤ k ∧ k < w3.heap.size) (hF : ∀ k, F k → k < w.heap.size) (_d1 : Dsk W p D F') (d2 : ∀ k, F' k → F k ∨ w3.heap.size ≤ k) (hl : Left W p D' F' W') : FmtAt w w3 p b0 b1 b6 area D' F W' := by
 obtain ⟨F2, e1, e2, e3⟩ := hl
 have hs := h.size
 have hn : ∀ k, (k = b0 ∨ k = b1 ∨ k = b6) → ¬ F' k := fun k hk e => by
  have := hb k hk
  rcases d2 k e with q | q
  ·have := hF k q; omega
  ·omega
 refine ⟨⟨F2, e1, fun k hk => ?_⟩, h.upd.step e3 (fun k hk e => (d2 k e).elim id (fun q => by omega)), Nat.le_trans hs e3.size, (e3.block _ (lt_of_heap h.c0) (hn _ (.inl rfl))).trans h.c0, (e3.block _ (lt_of_heap h.c1) (hn _ (.inr (.inl rfl)))).trans h.c1, (e3.block _ (lt_of_heap h.c6) (hn _ (.inr (.inr rfl)))).trans h.c6⟩
 rcases e2 k hk with q | q
 ·exact d2 k q
 ·exact .inr (by omega)
theorem format_any {p area : Nat} {D : Dk} {F : Nat → Prop} {M : Nat} (w : World) (hD : Dsk w p D F) (hok : D.Ok M) (hK : M ≤ 1000000000) (ha : 4 ≤ area ∧ area ≤ 1000) (hlen : 2 + 2 * area ≤ D.arr.length)
  (hE1 : D.laysE (fmt1 area) = 0) (hE2 : (fmtD D area 1).laysE (fmt2 area) = 0) (hE3 : (fmtD D area 2).laysE (fmt3 area) = 0) :
  Calls Tryz.prog 41 #[.pointer (some ⟨p, 0, none⟩), .int .i64 area] w fun e w' => ∃ q G' F', e = .returned (.tuple #[.pointer (some ⟨q, 0, none⟩), .int .i64 0]) ∧ Wal w' q p ⟨fmtH area, [[]], 1, false⟩ (fmtD D area 3) G' F' ∧ (∀ k, G' k → w.heap.size ≤ k) ∧ (∀ k, F' k → F k ∨ w.heap.size ≤ k) ∧ Upd F w w' := by
 have hFl := hD.lt
 have HD := Lib.hid hD; have HOK := Lib.hid hok; have HFL := Lib.hid hFl; have HE1 := Lib.hid hE1; have HE2 := Lib.hid hE2; have HE3 := Lib.hid hE3
 obtain ⟨w2, hw2⟩ : ∃ w2, w2 = (w.alloc (.cells #[.pointer (some ⟨p, 0, none⟩)] 25)).alloc (.cells #[.int .i64 area] 3) := ⟨_, rfl⟩
 have hu2 : Upd (fun _ => False) w w2 := by rw [hw2]; exact ((Upd.refl _ w).alloc _).alloc _
 have h0 : w2.heap[w.heap.size]? = some (.cells #[.pointer (some ⟨p, 0, none⟩)] 25 (0, 0)) := by rw [hw2]; exact (alloc_lt (by simp)).trans (alloc_at rfl)
 have h1 : w2.heap[w.heap.size + 1]? = some (.cells #[.int .i64 area] 3 (0, 0)) := by rw [hw2]; exact alloc_at (by simp)
 have hs2 : w2.heap.size = w.heap.size + 2 := by rw [hw2]; simp
 have HU2 := Lib.hid hu2; have H0 := Lib.hid h0; have H1 := Lib.hid h1; have HS2 := Lib.hid hs2
 have c0 := cells1_of h0; have c1 := cells1_of h1
 clear hD hok hFl hE1 hE2 hE3 hu2 h0 h1 hs2
 go_enter Tryz.func41, Tryz.ntmps41
 go_upto_region 1 with fail
 rw [← hw2]
 clear hw2
 go_upto_region 3 with fail
 clear c0 c1
 have hA : Upd (fun _ => False) w2 w2.drew := (Upd.refl _ w2).drew
 have n1 : ¬ (area : Int) < 4 := by omega
 have n2 : ¬ (area : Int) > 1000 := by omega
 have n3 : ¬ (D.arr.length : Int) < 2 + 2 * area := by omega
 have v1 : IntKind.i64.wrap (2 * (area : Int)) = 2 * area := by rw [IntKind.wrap_i64]; omega
 have v2 : IntKind.i64.wrap (2 + 2 * (area : Int)) = 2 + 2 * area := by rw [IntKind.wrap_i64]; omega
 refine wp_region_G 13 (fun W => Upd (fun _ => False) w2 W) [false, false, false, false, false, false, false, false, false, false, false, false, false, false] rfl (by kernel_rfl) ?_
 refine wpG_takeT (i := 0) (v := .int .i64 area) rfl (fun L hc h => (hc.waits (n := 13) (i := 6) (by kernel_rfl) (hc.waits (n := 6) (i := 2) (by kernel_rfl) (hc.waits (n := 2) (i := 1) (by kernel_rfl) (hc.waits (n := 1) (i := 0) (by kernel_rfl) h))))) (by kernel_rfl) (fun _ _ _ h => h) hA (.inl ⟨rfl, fun w5 q1 => ?_⟩) ?_
 ·have cc := cells1_of ((q1.block _ (lt_of_heap H1.out) (fun e => e)).trans H1.out)
  go_simp
 simp only [Act.put, List.setIfInBounds_toArray, List.set]
 refine wpG_takeT (i := 1) (v := .bool false) rfl (fun L hc h => (hc.waits (n := 13) (i := 6) (by kernel_rfl) (hc.waits (n := 6) (i := 2) (by kernel_rfl) (hc.waits (n := 2) (i := 1) (by kernel_rfl) h)))) (by kernel_rfl) (fun _ _ _ h => h) hA (.inl ⟨rfl, fun w5 q1 => ?_⟩) ?_
 ·go_simp
 simp only [Act.put, List.setIfInBounds_toArray, List.set]
 refine wpG_takeT (i := 2) (v := .bool false) rfl (fun L hc h => (hc.waits (n := 13) (i := 6) (by kernel_rfl) (hc.waits (n := 6) (i := 2) (by kernel_rfl) h))) (by kernel_rfl) (fun _ _ _ h => h) hA (.inl ⟨rfl, fun w5 q1 => ?_⟩) ?_
 ·go_simp
 simp only [Act.put, List.setIfInBounds_toArray, List.set]
 refine wpG_takeT (i := 3) (v := .int .i64 area) rfl (fun L hc h => (hc.waits (n := 13) (i := 6) (by kernel_rfl) (hc.waits (n := 6) (i := 5) (by kernel_rfl) (hc.waits (n := 5) (i := 4) (by kernel_rfl) (hc.waits (n := 4) (i := 3) (by kernel_rfl) h))))) (by kernel_rfl) (fun _ _ _ h => h) hA (.inl ⟨rfl, fun w5 q1 => ?_⟩) ?_
 ·have cc := cells1_of ((q1.block _ (lt_of_heap H1.out) (fun e => e)).trans H1.out)
  go_simp
 simp only [Act.put, List.setIfInBounds_toArray, List.set]
 refine wpG_takeT (i := 4) (v := .bool false) rfl (fun L hc h => (hc.waits (n := 13) (i := 6) (by kernel_rfl) (hc.waits (n := 6) (i := 5) (by kernel_rfl) (hc.waits (n := 5) (i := 4) (by kernel_rfl) h)))) (by kernel_rfl) (fun _ _ _ h => h) hA (.inl ⟨rfl, fun w5 q1 => ?_⟩) ?_
 ·go_simp
 simp only [Act.put, List.setIfInBounds_toArray, List.set]
 refine wpG_takeT (i := 5) (v := .bool false) rfl (fun L hc h => (hc.waits (n := 13) (i := 6) (by kernel_rfl) (hc.waits (n := 6) (i := 5) (by kernel_rfl) h))) (by kernel_rfl) (fun _ _ _ h => h) hA (.inl ⟨rfl, fun w5 q1 => ?_⟩) ?_
 ·go_simp
 simp only [Act.put, List.setIfInBounds_toArray, List.set]
 refine wpG_takeT (i := 6) (v := .bool false) rfl (fun L hc h => (hc.waits (n := 13) (i := 6) (by kernel_rfl) h)) (by kernel_rfl) (fun _ _ _ h => h) hA (.inl ⟨rfl, fun w5 q1 => ?_⟩) ?_
 ·go_simp
 simp only [Act.put, List.setIfInBounds_toArray, List.set]
 refine wpG_takeT (i := 7) (v := .pointer (some ⟨p, 0, none⟩)) rfl (fun L hc h => (hc.waits (n := 13) (i := 12) (by kernel_rfl) (hc.waits (n := 12) (i := 8) (by kernel_rfl) (hc.waits (n := 8) (i := 7) (by kernel_rfl) h)))) (by kernel_rfl) (fun _ _ _ h => h) hA (.inl ⟨rfl, fun w5 q1 => ?_⟩) ?_
 ·have cc := cells1_of ((q1.block _ (lt_of_heap H0.out) (fun e => e)).trans H0.out)
  go_simp
 simp only [Act.put, List.setIfInBounds_toArray, List.set]
 refine wpG_takeT (i := 9) (v := .int .i64 area) rfl (fun L hc h => (hc.waits (n := 13) (i := 12) (by kernel_rfl) (hc.waits (n := 12) (i := 11) (by kernel_rfl) (hc.waits (n := 11) (i := 10) (by kernel_rfl) (hc.waits (n := 10) (i := 9) (by kernel_rfl) h))))) (by kernel_rfl) (fun _ _ _ h => h) hA (.inl ⟨rfl, fun w5 q1 => ?_⟩) ?_
 ·have cc := cells1_of ((q1.block _ (lt_of_heap H1.out) (fun e => e)).trans H1.out)
  go_simp
 simp only [Act.put, List.setIfInBounds_toArray, List.set]
 refine wpG_takeT (i := 10) (v := .int .i64 (2 * area)) rfl (fun L hc h => (hc.waits (n := 13) (i := 12) (by kernel_rfl) (hc.waits (n := 12) (i := 11) (by kernel_rfl) (hc.waits (n := 11) (i := 10) (by kernel_rfl) h)))) (by kernel_rfl) (fun _ _ _ h => h) hA (.inl ⟨rfl, fun w5 q1 => ?_⟩) ?_
 ·go_simp
 simp only [Act.put, List.setIfInBounds_toArray, List.set]
 refine wpG_takeT (i := 11) (v := .int .i64 (2 + 2 * area)) rfl (fun L hc h => (hc.waits (n := 13) (i := 12) (by kernel_rfl) (hc.waits (n := 12) (i := 11) (by kernel_rfl) h))) (by kernel_rfl) (fun _ _ _ h => h) hA (.inl ⟨rfl, fun w5 q1 => ?_⟩) ?_
 ·go_simp
 simp only [Act.put, List.setIfInBounds_toArray, List.set]
 refine wpG_doIf (i := 8) rfl (by kernel_rfl) rfl (fun K hK => ?_)
 have HKK := Lib.hid hK
 clear hK
 go_step
 refine (len_any _ ((HD.out.kept HU2.out (fun _ _ e => e)).kept hA (fun _ _ e => e))).mono ?_
 rintro e W3 ⟨rfl, rfl⟩
 simp only []
 refine HKK.out _ _ hA ?_
 clear HKK
 simp only [List.setIfInBounds_toArray, List.set]
 refine wpG_takeT (i := 12) (v := .bool false) rfl (fun L hc h => (hc.waits (n := 13) (i := 12) (by kernel_rfl) h)) (by kernel_rfl) (fun _ _ _ h => h) hA (.inl ⟨rfl, fun w5 q1 => ?_⟩) ?_
 ·go_simp
 simp only [Act.put, List.setIfInBounds_toArray, List.set]
 refine wpG_tail_lit (k := 13) rfl rfl (by kernel_rfl) ?_
 simp only [List.drop]
 have HA := Lib.hid (HU2.out.trans hA)
 have H0' := Lib.hid ((hA.block _ (lt_of_heap H0.out) (fun e => e)).trans H0.out); have H1' := Lib.hid ((hA.block _ (lt_of_heap H1.out) (fun e => e)).trans H1.out)
 have c1 := cells1_of H1'.out
 clear hA HU2 H0 H1
 have j0 : ∀ W, (Instr.index 190 (.agg #[.func (.func 106) #[] #[.pointer (some ⟨w.heap.size, 0, none⟩), .pointer (some ⟨w.heap.size + 1, 0, none⟩)], .func (.func 109) #[] #[.pointer (some ⟨w2.heap.size, 0, none⟩), .pointer (some ⟨w.heap.size, 0, none⟩)], .func (.func 111) #[] #[.pointer (some ⟨w2.heap.size, 0, none⟩), .pointer (some ⟨w.heap.size, 0, none⟩)]]) (.int .i64 0)).run Tryz.prog W = .ok (.func (.func 106) #[] #[.pointer (some ⟨w.heap.size, 0, none⟩), .pointer (some ⟨w.heap.size + 1, 0, none⟩)]) W := fun W => by kernel_rfl
 have j1 : ∀ W, (Instr.index 190 (.agg #[.func (.func 106) #[] #[.pointer (some ⟨w.heap.size, 0, none⟩), .pointer (some ⟨w.heap.size + 1, 0, none⟩)], .func (.func 109) #[] #[.pointer (some ⟨w2.heap.size, 0, none⟩), .pointer (some ⟨w.heap.size, 0, none⟩)], .func (.func 111) #[] #[.pointer (some ⟨w2.heap.size, 0, none⟩), .pointer (some ⟨w.heap.size, 0, none⟩)]]) (.int .i64 1)).run Tryz.prog W = .ok (.func (.func 109) #[] #[.pointer (some ⟨w2.heap.size, 0, none⟩), .pointer (some ⟨w.heap.size, 0, none⟩)]) W := fun W => by kernel_rfl
 have j2 : ∀ W, (Instr.index 190 (.agg #[.func (.func 106) #[] #[.pointer (some ⟨w.heap.size, 0, none⟩), .pointer (some ⟨w.heap.size + 1, 0, none⟩)], .func (.func 109) #[] #[.pointer (some ⟨w2.heap.size, 0, none⟩), .pointer (some ⟨w.heap.size, 0, none⟩)], .func (.func 111) #[] #[.pointer (some ⟨w2.heap.size, 0, none⟩), .pointer (some ⟨w.heap.size, 0, none⟩)]]) (.int .i64 2)).run Tryz.prog W = .ok (.func (.func 111) #[] #[.pointer (some ⟨w2.heap.size, 0, none⟩), .pointer (some ⟨w.heap.size, 0, none⟩)]) W := fun W => by kernel_rfl
 go_upto_region 7 with fail
 obtain ⟨w3, hw3⟩ : ∃ w3, w3 = w2.drew.alloc (.cells #[.int .i64 1, .int .i64 area, .int .i64 0, .int .i64 1] 184) := ⟨_, rfl⟩
 refine (?_ : Code.wp _ _ _ _ (w2.drew.alloc (.cells #[.int .i64 1, .int .i64 area, .int .i64 0, .int .i64 1] 184)))
 rw [← hw3]
 have hs3 : w3.heap.size = w.heap.size + 3 := by rw [hw3]; have := HS2.out; simp; omega
 have hu3 : Upd (fun _ => False) w w3 := by rw [hw3]; exact HA.out.alloc _
 have hat : FmtAt w w3 p w.heap.size (w.heap.size + 1) w2.heap.size area D F w3 := by
  refine ⟨⟨F, HD.out.kept hu3 (fun _ _ e => e), fun k hk => .inl hk⟩, hu3.mono (fun _ _ e => e.elim), Nat.le_refl _, ?_, ?_, ?_⟩
  ·rw [hw3]; exact (alloc_lt (lt_of_heap H0'.out)).trans H0'.out
  ·rw [hw3]; exact (alloc_lt (lt_of_heap H1'.out)).trans H1'.out
  ·rw [hw3]; exact alloc_at rfl
 have HAT := Lib.hid hat; have HS3 := Lib.hid hs3
 have HBB : RowKit.Hid (∀ k, (k = w.heap.size ∨ k = w.heap.size + 1 ∨ k = w2.heap.size) → w.heap.size ≤ k ∧ k < w3.heap.size) := Lib.hid (fun k hk => by have := HS2.out; omega)
 have HOKS : RowKit.Hid (∀ k, k ≤ 3 → (fmtD D area k).Ok (M + 5000 * k)) := Lib.hid (by
  have z1 := Dk.lays_ok (zl area) HOK.out
  have z2 := Dk.lays_ok (partSc (fmtH area) 1 0 true [] bytes_nil) z1
  have z3 := Dk.lays_ok [headSc (fmtH area)] z2
  rw [zl_length] at z1 z2 z3
  rw [partSc_length] at z2 z3
  have hq1 : secsN ([] : List Int).length = 1 := rfl
  rw [hq1] at z2 z3
  intro k hk
  have : k = 0 ∨ k = 1 ∨ k = 2 ∨ k = 3 := by omega
  rcases this with rfl | rfl | rfl | rfl
  ·exact HOK.out
  ·exact Dk.Ok.mono z1 (by omega)
  ·exact Dk.Ok.mono z2 (by omega)
  ·exact Dk.Ok.mono z3 (by simp; omega))
 clear hat hs3 hu3 hw3 HA H0' H1' c1 HOK HD
 go_loopg [32] 3 (fun gk i wr => ∃ k : Nat, k ≤ 3 ∧ gk = 3 - k ∧ i = .int .i64 k ∧ FmtAt w w3 p w.heap.size (w.heap.size + 1) w2.heap.size area (fmtD D area k) F wr)
 case atStart => exact ⟨0, by omega, rfl, rfl, HAT.out⟩
 case round =>
  obtain ⟨k, hk, rfl, rfl, hs⟩ := hrel
  obtain ⟨wo, rfl⟩ : ∃ wo, wo = wr := ⟨_, rfl⟩
  have HS := Lib.hid hs
  clear hs HAT
  by_cases hk3 : k < 3
  ·have hk3' : k = 0 ∨ k = 1 ∨ k = 2 := by omega
   obtain ⟨F', d1, d2⟩ := HS.out.dsk
   have hw3s : w.heap.size ≤ w3.heap.size := by have := HS3.out; omega
   have hnb : ¬ F' (w.heap.size + 1) := fun e => by
    rcases d2 _ e with q | q
    ·have := HFL.out _ q; omega
    ·have := HS3.out; omega
   have D1 := Lib.hid d1; have D2 := Lib.hid d2; have HNB := Lib.hid hnb
   clear d1 d2 hnb
   rcases hk3' with rfl | rfl | rfl
   ·
    go_wp2_with (go_at_call 106; fail)
    refine (fmt1_any (D := fmtD D area 0) wo D1.out (HOKS.out 0 (by omega)) (by omega) ha.2 HS.out.c0 HS.out.c1 HNB.out).mono ?_
    rintro e W3 ⟨rfl, hl⟩
    rw [show (fmtD D area 0).laysE (fmt1 area) = 0 from HE1.out]
    have HS2' := Lib.hid (HS.out.step hw3s HBB.out HFL.out D1.out D2.out hl)
    clear hl D1 D2 HNB
    simp only []
    go_wp2
    go_roundg (3 - (0 + 1))
    case measure => omega
    case rel => exact ⟨0 + 1, by omega, rfl, rfl, HS2'.out⟩
   ·
    go_wp2_with (go_at_call 109; fail)
    refine (fmt2_any (D := fmtD D area 1) wo D1.out (HOKS.out 1 (by omega)) (by omega) ha HS.out.c0 HS.out.c6).mono ?_
    rintro e W3 ⟨rfl, hl⟩
    rw [HE2.out]
    have HS2' := Lib.hid (HS.out.step hw3s HBB.out HFL.out D1.out D2.out hl)
    clear hl D1 D2 HNB
    simp only []
    go_wp2
    go_roundg (3 - (1 + 1))
    case measure => omega
    case rel => exact ⟨1 + 1, by omega, rfl, rfl, HS2'.out⟩
   ·
    go_wp2_with (go_at_call 111; fail)
    refine (fmt3_any (D := fmtD D area 2) wo D1.out (HOKS.out 2 (by omega)) (by omega) ha HS.out.c0 HS.out.c6).mono ?_
    rintro e W3 ⟨rfl, hl⟩
    rw [HE3.out]
    have HS2' := Lib.hid (HS.out.step hw3s HBB.out HFL.out D1.out D2.out hl)
    clear hl D1 D2 HNB
    simp only []
    go_wp2
    go_roundg (3 - (2 + 1))
    case measure => omega
    case rel => exact ⟨2 + 1, by omega, rfl, rfl, HS2'.out⟩
  ·obtain rfl : k = 3 := by omega
   have hs := HS.out
   obtain ⟨F', d1, d2⟩ := hs.dsk
   have D1 := Lib.hid d1; have D2 := Lib.hid d2
   clear d1 d2 hs
   have hA : Upd (fun _ => False) wo wo.drew := (Upd.refl _ wo).drew
   go_upto_region 13 with fail
   refine wp_region_G 5 (fun W => Upd (fun _ => False) wo W) [false, false, false, false, false, false, false, false] rfl (by kernel_rfl) ?_
   refine wpG_takeT (i := 0) (v := .agg #[.int .i64 1, .int .i64 area, .int .i64 0, .int .i64 1]) rfl (fun L hc h => (hc.waits (n := 5) (i := 4) (by kernel_rfl) (hc.waits (n := 4) (i := 0) (by kernel_rfl) h))) (by kernel_rfl) (fun _ _ _ h => h) hA (.inl ⟨rfl, fun w5 q1 => ?_⟩) ?_
   ·exact run_load_mid' rfl rfl [.int .i64 1, .int .i64 area, .int .i64 0, .int .i64 1] (rangeAt_block (cs := [.int .i64 1, .int .i64 area, .int .i64 0, .int .i64 1]) ((q1.block _ (lt_of_heap HS.out.c6) (fun e => e)).trans HS.out.c6)) Tryz.underlying184 rfl (by kernel_rfl)
   simp only [Act.put, List.setIfInBounds_toArray, List.set]
   refine wpG_takeT (i := 1) (v := .pointer (some ⟨p, 0, none⟩)) rfl (fun L hc h => (hc.waits (n := 5) (i := 4) (by kernel_rfl) (hc.waits (n := 4) (i := 1) (by kernel_rfl) h))) (by kernel_rfl) (fun _ _ _ h => h) hA (.inl ⟨rfl, fun w5 q1 => ?_⟩) ?_
   ·have cc := cells1_of ((q1.block _ (lt_of_heap HS.out.c0) (fun e => e)).trans HS.out.c0)
    go_simp
   simp only [Act.put, List.setIfInBounds_toArray, List.set]
   refine wpG_do2 (i := 2) (j := 3) rfl rfl (by kernel_rfl) rfl rfl (fun K hK => ?_) (fun K hK => ?_)
   ·
    have HKK := Lib.hid hK
    clear hK
    go_step
    have hAa : Upd (fun _ => False) wo (wo.drew.alloc (.cells #[.slice none 0 0] 39)) := hA.alloc _
    refine HKK.out _ _ hAa ?_
    clear HKK
    simp only [List.setIfInBounds_toArray, List.set]
    refine wpG_doIf (i := 3) rfl (by kernel_rfl) rfl (fun K hK => ?_)
    have HKK := Lib.hid hK
    clear hK
    go_step
    refine (sectors_any _ _).mono ?_
    rintro e W3 ⟨rfl, rfl⟩
    rw [show secsI 0 = 1 from rfl]
    simp only []
    refine HKK.out _ _ hAa ?_
    clear HKK
    simp only [List.setIfInBounds_toArray, List.set]
    refine wpG_takeT (i := 4) (v := .agg #[.int .i64 1, .int .i64 area, .int .i64 0, .int .i64 1, .pointer (some ⟨p, 0, none⟩), .slice (some ⟨wo.heap.size, 0, none⟩) 1 1, .int .i64 1, .bool false]) rfl (fun L hc h => (hc.waits (n := 5) (i := 4) (by kernel_rfl) h)) (by kernel_rfl) (fun _ _ _ h => h) hAa (.inl ⟨rfl, fun w5 q1 => ?_⟩) ?_
    ·go_simp
    simp only [Act.put, List.setIfInBounds_toArray, List.set]
    refine wpG_tail_lit (k := 5) rfl rfl (by kernel_rfl) ?_
    simp only [List.drop]
    go_wp2
    go_returns
    have hu8 : Upd (fun _ => False) wo ((wo.drew.alloc (.cells #[.slice none 0 0] 39)).alloc (.cells #[.int .i64 1, .int .i64 area, .int .i64 0, .int .i64 1, .pointer (some ⟨p, 0, none⟩), .slice (some ⟨wo.heap.size, 0, none⟩) 1 1, .int .i64 1, .bool false] 193)) := hAa.alloc _
    have hs3 := HS3.out
    have hso := HS.out.size
    refine ⟨wo.heap.size + 1, Gp (wo.heap.size + 1) (.slice (some ⟨wo.heap.size, 0, none⟩) 1 1) [.slice none 0 0], F', rfl, ⟨⟨_, _, ⟨alloc_at (by simp), ⟨rfl, .inr ⟨wo.heap.size, 1, _, rfl, Nat.zero_le _, (alloc_lt (by simp)).trans (alloc_at rfl), Nat.le_refl _, by unfold maxLen; omega, rfl, rfl⟩⟩, ?_, ?_, ?_⟩, fun _ => Iff.rfl⟩, D1.out.kept hu8 (fun _ _ e => e), ?_⟩, ?_, ?_, HS.out.upd.trans (hu8.mono (fun _ _ e => e.elim))⟩
    ·intro i v b hv hb
     match i, hv, hb with
     | 0, hv, hb => simp at hv hb; subst hv; subst hb; exact World.ownsRow_nil _ _ _ _
     |i + 1, hv, hb => simp at hv
    ·intro k hk; simp [Value.ownBlock] at hk; omega
    ·intro v k hv hk; simp at hv; subst hv; simp [Value.ownBlock] at hk
    ·rintro k hk hF
     have hlt := D1.out.lt k hF
     rcases hk with rfl | hk | ⟨v, hv, hk⟩
     ·omega
     ·simp [Value.ownBlock] at hk; omega
     ·simp at hv; subst hv; simp [Value.ownBlock] at hk
    ·rintro k (rfl | hk | ⟨v, hv, hk⟩)
     ·omega
     ·simp [Value.ownBlock] at hk; omega
     ·simp at hv; subst hv; simp [Value.ownBlock] at hk
    ·intro k hk
     exact (D2.out k hk).imp id (fun q => by omega)
   ·
    have HKK := Lib.hid hK
    clear hK
    go_step
    refine (sectors_any _ _).mono ?_
    rintro e W3 ⟨rfl, rfl⟩
    rw [show secsI 0 = 1 from rfl]
    simp only []
    refine HKK.out _ _ hA ?_
    clear HKK
    simp only [List.setIfInBounds_toArray, List.set]
    refine wpG_doIf (i := 2) rfl (by kernel_rfl) rfl (fun K hK => ?_)
    have HKK := Lib.hid hK
    clear hK
    go_step
    have hAa : Upd (fun _ => False) wo (wo.drew.alloc (.cells #[.slice none 0 0] 39)) := hA.alloc _
    refine HKK.out _ _ hAa ?_
    clear HKK
    simp only [List.setIfInBounds_toArray, List.set]
    refine wpG_takeT (i := 4) (v := .agg #[.int .i64 1, .int .i64 area, .int .i64 0, .int .i64 1, .pointer (some ⟨p, 0, none⟩), .slice (some ⟨wo.heap.size, 0, none⟩) 1 1, .int .i64 1, .bool false]) rfl (fun L hc h => (hc.waits (n := 5) (i := 4) (by kernel_rfl) h)) (by kernel_rfl) (fun _ _ _ h => h) hAa (.inl ⟨rfl, fun w5 q1 => ?_⟩) ?_
    ·go_simp
    simp only [Act.put, List.setIfInBounds_toArray, List.set]
    refine wpG_tail_lit (k := 5) rfl rfl (by kernel_rfl) ?_
    simp only [List.drop]
    go_wp2
    go_returns
    have hu8 : Upd (fun _ => False) wo ((wo.drew.alloc (.cells #[.slice none 0 0] 39)).alloc (.cells #[.int .i64 1, .int .i64 area, .int .i64 0, .int .i64 1, .pointer (some ⟨p, 0, none⟩), .slice (some ⟨wo.heap.size, 0, none⟩) 1 1, .int .i64 1, .bool false] 193)) := hAa.alloc _
    have hs3 := HS3.out
    have hso := HS.out.size
    refine ⟨wo.heap.size + 1, Gp (wo.heap.size + 1) (.slice (some ⟨wo.heap.size, 0, none⟩) 1 1) [.slice none 0 0], F', rfl, ⟨⟨_, _, ⟨alloc_at (by simp), ⟨rfl, .inr ⟨wo.heap.size, 1, _, rfl, Nat.zero_le _, (alloc_lt (by simp)).trans (alloc_at rfl), Nat.le_refl _, by unfold maxLen; omega, rfl, rfl⟩⟩, ?_, ?_, ?_⟩, fun _ => Iff.rfl⟩, D1.out.kept hu8 (fun _ _ e => e), ?_⟩, ?_, ?_, HS.out.upd.trans (hu8.mono (fun _ _ e => e.elim))⟩
    ·intro i v b hv hb
     match i, hv, hb with
     | 0, hv, hb => simp at hv hb; subst hv; subst hb; exact World.ownsRow_nil _ _ _ _
     |i + 1, hv, hb => simp at hv
    ·intro k hk; simp [Value.ownBlock] at hk; omega
    ·intro v k hv hk; simp at hv; subst hv; simp [Value.ownBlock] at hk
    ·rintro k hk hF
     have hlt := D1.out.lt k hF
     rcases hk with rfl | hk | ⟨v, hv, hk⟩
     ·omega
     ·simp [Value.ownBlock] at hk; omega
     ·simp at hv; subst hv; simp [Value.ownBlock] at hk
    ·rintro k (rfl | hk | ⟨v, hv, hk⟩)
     ·omega
     ·simp [Value.ownBlock] at hk; omega
     ·simp at hv; subst hv; simp [Value.ownBlock] at hk
    ·intro k hk
     exact (D2.out k hk).imp id (fun q => by omega)
end
section
open Go.RowKit
structure Dk.Good (D : Dk) (N : Nat) : Prop where
 dead : D.dead = false
 arm : D.arm = -1
 fail : D.fail = -1
 len : D.arr.length = N
theorem Dk.Good.callD {D : Dk} {N : Nat} (h : D.Good N) {i : Int} (hi : 0 ≤ i ∧ i < N) : D.callE i true = 0 ∧ (D.callD i true).Good N ∧ D.callR i true = true ∧ (D.callD i true).arr = D.arr := by
 obtain ⟨h1, h2, h3, h4⟩ := h
 have n1 : ¬ (i < 0 ∨ (D.arr.length : Int) ≤ i) := by omega
 have e : D.callD i true = { D with fail := max (D.fail - 1) (-1), ops := D.ops + 1, arm := max (D.arm - 1) (-1) } := by
  simp [Dk.callD, h1, h2, h3, n1]
 refine ⟨by simp [Dk.callE, h1, h2, h3, n1], ?_, by simp [Dk.callR, h1, h2, h3]; omega, by rw [e]⟩
 rw [e]
 exact ⟨h1, by show max (D.arm - 1) (-1) = -1; omega, by show max (D.fail - 1) (-1) = -1; omega, h4⟩
theorem Dk.Good.write {D : Dk} {N : Nat} (h : D.Good N) {i : Int} (hi : 0 ≤ i ∧ i < N) (b : List Int) : (D.write i b).Good N := by
 obtain ⟨_, h2, h3, _⟩ := h.callD hi
 unfold Dk.write
 rw [if_pos h3]
 exact ⟨h2.dead, h2.arm, h2.fail, h2.len⟩
theorem Dk.Good.sync {D : Dk} {N : Nat} (h : D.Good N) (hN : 0 < N) : D.callE 0 true = 0 ∧ D.sync.Good N := by
 obtain ⟨h1, h2, _, _⟩ := h.callD (i := 0) (by omega)
 refine ⟨h1, ?_⟩
 unfold Dk.sync
 rw [if_pos h1]
 exact ⟨h2.dead, h2.arm, h2.fail, by have := h2.len; simpa [Dk.arrive] using this⟩
theorem Dk.Good.lays : ∀ (l : List (Int × List Int)) {D : Dk} {N : Nat}, D.Good N → 0 < N → (∀ x ∈ l, 0 ≤ x.1 ∧ x.1 < N) → D.laysE l = 0 ∧ (D.lays l).Good N
 | [], _, _, h, hN, _ => h.sync hN
 | (i, b) :: l, D, N, h, hN, hl => by
  have hi := hl (i, b) (List.mem_cons_self ..)
  have he := (h.callD (i := i) hi).1
  unfold Dk.laysE Dk.lays
  rw [if_pos he, if_pos he]
  exact Dk.Good.lays l (h.write hi b) hN (fun x hx => hl x (List.mem_cons_of_mem _ hx))
theorem atF_bound {area place : Int} (ha : 1 ≤ area) : 2 ≤ atF area place ∧ atF area place < 2 + 2 * area := by
 unfold atF
 have h1 := Int.emod_nonneg place (b := 2 * area) (by omega)
 have h2 := Int.emod_lt_of_pos place (b := 2 * area) (by omega)
 omega
theorem partSc_bound {h : Hd} {number place : Int} {snap : Bool} {b : List Int} (hb : Bytes b) {N : Nat} (ha : 1 ≤ h.area) (hN : 2 + 2 * h.area ≤ N) : ∀ x ∈ raw (partSc h number place snap b hb), 0 ≤ x.1 ∧ x.1 < N := by
 intro x hx
 simp only [raw, partSc, List.map_map, List.mem_map] at hx
 obtain ⟨k, _, rfl⟩ := hx
 have := atF_bound (area := h.area) (place := place + k) ha
 show 0 ≤ atF h.area (place + k) ∧ atF h.area (place + k) < N
 omega
theorem headSc_bound {h : Hd} {N : Nat} (hN : 2 ≤ N) : ∀ x ∈ raw [headSc h], 0 ≤ x.1 ∧ x.1 < N := by
 intro x hx
 simp [raw, headSc] at hx
 subst hx
 have h1 := Int.emod_nonneg h.turn (b := 2) (by omega)
 have h2 := Int.emod_lt_of_pos h.turn (b := 2) (by omega)
 show 0 ≤ h.turn % 2 ∧ h.turn % 2 < N
 omega
theorem zl_bound {area N : Nat} (hN : 2 + 2 * area ≤ N) : ∀ x ∈ raw (zl area), 0 ≤ x.1 ∧ x.1 < N := by
 intro x hx
 simp only [raw, zl, List.map_map, List.mem_map, List.mem_range] at hx
 obtain ⟨k, hk, rfl⟩ := hx
 show (0 : Int) ≤ (k : Int) ∧ (k : Int) < N
 omega
structure WalG (w : World) (q p : Nat) (X : Lg) (D : Dk) (G F : Nat → Prop) (N K : Nat) : Prop where
 wal : Wal w q p X D G F
 ok : X.Ok
 unbroken : X.broken = false
 good : D.Good N
 dok : D.Ok K
 fits : 2 + 2 * X.h.area ≤ N
theorem WalG.kept {w w' : World} {q p : Nat} {X : Lg} {D : Dk} {G F H : Nat → Prop} {N K : Nat} (h : WalG w q p X D G F N K) (hu : Upd H w w') (h1 : ∀ k, G k → ¬ H k) (h2 : ∀ k, F k → ¬ H k) : WalG w' q p X D G F N K :=
 ⟨⟨h.wal.1.kept hu h1, h.wal.2.1.kept hu h2, h.wal.2.2⟩, h.ok, h.unbroken, h.good, h.dok, h.fits⟩
def Lg.apS (X : Lg) (b : List Int) (hb : Bytes b) : List (Int × List Int) := raw (partSc X.h (X.h.number + X.parts.length) (X.h.place + X.used) false b hb)
theorem Lg.Ok.add {X : Lg} (h : X.Ok) {b : List Int} (hb : Bytes b) (hl : b.length ≤ 40000) (hr : X.used + secsN b.length ≤ X.h.area) (hp : X.parts.length < 1000) : (X.add b).Ok := by
 have h1 := h.used; have h2 := h.area
 refine ⟨h.turn, h.area, h.place, h.number, by show 0 ≤ X.used + (secsN b.length : Int) ∧ X.used + (secsN b.length : Int) ≤ 1000; omega, by simp [Lg.add]; omega, ?_⟩
 intro c hc
 simp only [Lg.add, List.mem_append, List.mem_singleton] at hc
 rcases hc with hc | rfl
 ·exact h.bytes c hc
 ·exact ⟨hb, hl⟩
theorem append_good {q p : Nat} {X : Lg} {D : Dk} {G F : Nat → Prop} {N K : Nat} {v : Value} {b : List Int} (w : World) (h : WalG w q p X D G F N K) (hp : X.parts.length < 1000) (hK : K ≤ 1000000000) (hb : Bytes b) (hl : b.length ≤ 40000) (hr : X.used + secsN b.length ≤ X.h.area) (hn : X.h.number + X.parts.length ≤ 1073741824) (hbi : BytesIn w v b)
  (hsv : b ≠ [] → ∀ a n c, v = .slice (some a) n c → ¬ F a.block ∧ a.block ≠ q) :
  Calls Tryz.prog 43 #[.pointer (some ⟨q, 0, none⟩), v] w fun e w' => e = .returned (.int .i64 0) ∧ ∃ G' F', WalG w' q p (X.add b) (D.lays (X.apS b hb)) G' F' N (K + 2000) ∧ (∀ k, G' k → G k ∨ w.heap.size ≤ k) ∧ (∀ k, F' k → F k ∨ w.heap.size ≤ k) ∧ Upd (fun k => G k ∨ F k) w w' := by
 have ha := h.ok.area
 have hrf : X.refuses b.length X.used = 0 := by
  unfold Lg.refuses
  rw [h.unbroken, if_neg (by simp), if_neg (by omega), if_neg (by omega)]
 have hN : 0 < N := by have := h.fits; omega
 obtain ⟨g1, g2⟩ := h.good.lays (X.apS b hb) hN (partSc_bound hb (by omega) h.fits)
 refine (append_any w h.wal h.ok hp h.dok (by omega) hb (by omega) hbi hsv).mono ?_
 rintro e w' (⟨hx, _⟩ | ⟨_, rfl, G', F', h1, h2, h3, h4⟩)
 ·exact absurd hrf hx
 ·rw [show raw (partSc X.h (X.h.number + X.parts.length) (X.h.place + X.used) false b hb) = X.apS b hb from rfl, g1] at h1 ⊢
  have hsb := secsN_bound hl
  have hdk := Dk.lays_ok (partSc X.h (X.h.number + X.parts.length) (X.h.place + X.used) false b hb) h.dok
  rw [partSc_length] at hdk
  rw [Lg.after, if_pos rfl] at h1
  exact ⟨rfl, G', F', ⟨h1, h.ok.add hb hl hr hp, h.unbroken, g2, Dk.Ok.mono hdk (by omega), h.fits⟩, h2, h3, h4⟩
theorem append_full {q p : Nat} {X : Lg} {D : Dk} {G F : Nat → Prop} {N K : Nat} {v : Value} {b : List Int} (w : World) (h : WalG w q p X D G F N K) (hp : X.parts.length < 1000) (hK : K ≤ 1000000000) (hb : Bytes b) (hl : b.length ≤ 40000) (hr : X.h.area < X.used + secsN b.length) (hbi : BytesIn w v b)
  (hsv : b ≠ [] → ∀ a n c, v = .slice (some a) n c → ¬ F a.block ∧ a.block ≠ q) :
  Calls Tryz.prog 43 #[.pointer (some ⟨q, 0, none⟩), v] w fun e w' => e = .returned (.int .i64 6) ∧ Upd (fun _ => False) w w' := by
 have hrf : X.refuses b.length X.used = 6 := by
  unfold Lg.refuses
  rw [h.unbroken, if_neg (by simp), if_neg (by omega), if_pos (.inl hr)]
 refine (append_any w h.wal h.ok hp h.dok (by omega) hb (by omega) hbi hsv).mono ?_
 rintro e w' (⟨_, rfl, h1⟩ | ⟨hx, _⟩)
 ·exact ⟨by rw [hrf], h1⟩
 ·rw [hrf] at hx; omega
theorem cp_good {q p : Nat} {X : Lg} {D : Dk} {G F : Nat → Prop} {N K : Nat} {v : Value} {b : List Int} (w : World) (h : WalG w q p X D G F N K) (hK : K ≤ 1000000000) (hb : Bytes b) (hl : b.length ≤ 40000) (hr : (secsN b.length : Int) ≤ X.h.area) (hn : X.h.number + X.parts.length ≤ 1073741824) (ht : X.h.turn < 1073741824) (hbi : BytesIn w v b)
  (hsv : b ≠ [] → ∀ a n c, v = .slice (some a) n c → ¬ F a.block ∧ a.block ≠ q) :
  Calls Tryz.prog 42 #[.pointer (some ⟨q, 0, none⟩), v] w fun e w' => e = .returned (.int .i64 0) ∧ ∃ G' F', WalG w' q p ((⟨X.cpH, [], 0, false⟩ : Lg).add b) ((D.lays (X.cpS b hb)).lays (raw [headSc X.cpH])) G' F' N (K + 2000) ∧ (∀ k, G' k → G k ∨ w.heap.size ≤ k) ∧ (∀ k, F' k → F k ∨ w.heap.size ≤ k) ∧ Upd (fun k => G k ∨ F k) w w' := by
 have ha := h.ok.area; have h1 := h.ok.turn; have h2 := h.ok.place; have h3 := h.ok.number; have h4 := h.ok.used
 have hrf : X.refuses b.length 0 = 0 := by
  unfold Lg.refuses
  rw [h.unbroken, if_neg (by simp), if_neg (by omega), if_neg (by omega)]
 have hN : 0 < N := by have := h.fits; omega
 obtain ⟨g1, g2⟩ := h.good.lays (X.cpS b hb) hN (partSc_bound hb (by omega) h.fits)
 obtain ⟨g3, g4⟩ := g2.lays (raw [headSc X.cpH]) hN (headSc_bound (by have := h.fits; omega))
 have e1 : X.cpE D b hb = 0 := by rw [Lg.cpE, if_pos g1, g3]
 have e2 : X.cpD D b hb = (D.lays (X.cpS b hb)).lays (raw [headSc X.cpH]) := by rw [Lg.cpD, if_pos g1]
 have hnp0 := Int.emod_nonneg (X.h.place + X.used) (b := 2 * X.h.area) (by omega)
 have hnp1 := Int.emod_lt_of_pos (X.h.place + X.used) (b := 2 * X.h.area) (by omega)
 have hok2 : (⟨X.cpH, [], 0, false⟩ : Lg).Ok := ⟨(by show 0 ≤ X.h.turn + 1 ∧ X.h.turn + 1 ≤ 1073741824; omega), ha, (by show 0 ≤ (X.h.place + X.used) % (2 * X.h.area) ∧ (X.h.place + X.used) % (2 * X.h.area) ≤ 100000; omega), (by show 0 ≤ X.h.number + X.parts.length ∧ X.h.number + X.parts.length ≤ 1073741825; omega), (by show (0 : Int) ≤ 0 ∧ (0 : Int) ≤ 1000; omega), (by simp), (by simp)⟩
 refine (cp_any w h.wal h.ok h.dok (by omega) hb (by omega) hbi hsv).mono ?_
 rintro e w' (⟨hx, _⟩ | ⟨_, hx, _⟩ | ⟨_, _, rfl, G', F', k1, k2, k3, k4⟩)
 ·exact absurd hrf hx
 ·omega
 ·rw [e1] at k1 ⊢
  rw [e2] at k1
  have hsb := secsN_bound hl
  have hdk := Dk.lays_ok (partSc X.h X.cpH.number X.cpH.place true b hb) h.dok
  rw [partSc_length] at hdk
  have hdk2 := Dk.lays_ok [headSc X.cpH] hdk
  rw [Lg.cp, if_pos rfl] at k1
  exact ⟨rfl, G', F', ⟨k1, hok2.add hb hl (by show (0 : Int) + (secsN b.length : Int) ≤ X.h.area; omega) (by simp), rfl, g4, Dk.Ok.mono hdk2 (by simp; omega), h.fits⟩, k2, k3, k4⟩
theorem format_good {p area N K : Nat} {D : Dk} {F : Nat → Prop} (w : World) (hD : Dsk w p D F) (hg : D.Good N) (hok : D.Ok K) (hK : K ≤ 1000000) (ha : 4 ≤ area ∧ area ≤ 1000) (hlen : 2 + 2 * area ≤ N) :
  Calls Tryz.prog 41 #[.pointer (some ⟨p, 0, none⟩), .int .i64 area] w fun e w' => ∃ q G' F', e = .returned (.tuple #[.pointer (some ⟨q, 0, none⟩), .int .i64 0]) ∧ WalG w' q p ⟨fmtH area, [[]], 1, false⟩ (fmtD D area 3) G' F' N (K + 20000) ∧ (∀ k, G' k → w.heap.size ≤ k) ∧ (∀ k, F' k → F k ∨ w.heap.size ≤ k) ∧ Upd F w w' := by
 have hN : 0 < N := by omega
 obtain ⟨g1, g2⟩ := hg.lays (fmt1 area) hN (zl_bound hlen)
 obtain ⟨g3, g4⟩ := g2.lays (fmt2 area) hN (partSc_bound bytes_nil (by show (1 : Int) ≤ area; omega) (by show 2 + 2 * (area : Int) ≤ N; omega))
 obtain ⟨g5, g6⟩ := g4.lays (fmt3 area) hN (headSc_bound (by omega))
 have z1 := Dk.lays_ok (zl area) hok
 have z2 := Dk.lays_ok (partSc (fmtH area) 1 0 true [] bytes_nil) z1
 have z3 := Dk.lays_ok [headSc (fmtH area)] z2
 rw [zl_length] at z3
 rw [partSc_length] at z3
 have hq1 : secsN ([] : List Int).length = 1 := rfl
 rw [hq1] at z3
 refine (format_any w hD hok (by omega) ha (by rw [hg.len]; exact hlen) g1 g3 g5).mono ?_
 rintro e w' ⟨q, G', F', rfl, h1, h2, h3, h4⟩
 refine ⟨q, G', F', rfl, ⟨h1, ?_, rfl, g6, Dk.Ok.mono z3 (by simp; omega), by show 2 + 2 * (area : Int) ≤ N; omega⟩, h2, h3, h4⟩
 exact ⟨(by show (0 : Int) ≤ 1 ∧ (1 : Int) ≤ 1073741824; omega), (by show (4 : Int) ≤ area ∧ (area : Int) ≤ 1000; omega), (by show (0 : Int) ≤ 0 ∧ (0 : Int) ≤ 100000; omega), (by show (0 : Int) ≤ 1 ∧ (1 : Int) ≤ 1073741825; omega), (by show (0 : Int) ≤ 1 ∧ (1 : Int) ≤ 1000; omega), (by simp), (by intro b hb; simp at hb; subst hb; exact ⟨bytes_nil, by simp⟩)⟩
theorem new_good_disk (n : Nat) (w : World) (hn : 1 ≤ n ∧ n ≤ 2048) : Calls Tryz.prog 13 #[.int .i64 n] w fun e w' => ∃ F, e = .returned (.tuple #[.pointer (some ⟨w.heap.size + 1, 0, none⟩), .int .i64 0]) ∧ Dsk w' (w.heap.size + 1) (Dk.new n) F ∧ (∀ k, F k → w.heap.size ≤ k) ∧ Upd (fun _ => False) w w' ∧ (Dk.new n).Good n ∧ (Dk.new n).Ok 0 := by
 refine (new_good n w hn).mono ?_
 rintro e w' ⟨rfl, h⟩
 obtain ⟨F, h1, h2, h3⟩ := h.dsk hn
 exact ⟨F, rfl, h1, h2, h3, ⟨rfl, rfl, rfl, by simp [Dk.new]⟩, Dk.new_ok hn 0⟩
def zs (n : Nat) : List Int := List.replicate n 0
theorem zs_length (n : Nat) : (zs n).length = n := by simp [zs]
theorem zs_bytes (n : Nat) : Bytes (zs n) := Bytes.zeros n
theorem zs_in (W : World) (n : Nat) (hn : n ≤ 1000) : BytesIn (W.alloc (.cells (madeCells #[.int .u8 0] n) 5)) (.slice (some ⟨W.heap.size, 0, none⟩) n n) (zs n) := by
 have hl : (zs n).length = n := zs_length n
 refine .inr ⟨⟨W.heap.size, 0, none⟩, n, by rw [hl], by omega, by unfold maxLen; omega, fun i u hi => ?_⟩
 rw [Addr.add_mid, Nat.zero_add, cell_of_heap (alloc_at rfl)]
 have hm : (madeCells #[Value.int .u8 0] n).toList = bcells (zs n) := by
  simp only [madeCells, zs, bcells]
  apply List.ext_getElem
  ·simp
  ·intro j h1 h2
   simp [Nat.mod_one]
 rw [← hi, ← hm]
 simp
structure Wk (w W : World) (q p : Nat) (X : Lg) (N K : Nat) : Prop where
 wal : ∃ D G F, WalG W q p X D G F N K ∧ (∀ k, G k → w.heap.size ≤ k) ∧ (∀ k, F k → w.heap.size ≤ k)
 upd : Upd (fun _ => False) w W
theorem Wk.kept {w W W' : World} {q p : Nat} {X : Lg} {N K : Nat} (h : Wk w W q p X N K) (hu : Upd (fun _ => False) W W') : Wk w W' q p X N K := by
 obtain ⟨D, G, F, h1, h2, h3⟩ := h.wal
 exact ⟨⟨D, G, F, h1.kept hu (fun _ _ e => e) (fun _ _ e => e), h2, h3⟩, h.upd.trans hu⟩
theorem Wk.ok {w W : World} {q p : Nat} {X : Lg} {N K : Nat} (h : Wk w W q p X N K) : X.Ok ∧ ∃ G, Log W q p X G := by
 obtain ⟨D, G, F, h1, _, _⟩ := h.wal
 exact ⟨h1.ok, G, h1.wal.1⟩
theorem wk_left {w W : World} {q p : Nat} {X : Lg} {N K : Nat} (h : Wk w W q p X N K) : Calls Tryz.prog 54 #[.pointer (some ⟨q, 0, none⟩)] W fun e w' => e = .returned (.int .i64 (X.h.area - X.used)) ∧ Wk w w' q p X N K := by
 obtain ⟨h1, G, h2⟩ := h.ok
 exact (left_any W h2 h1).mono fun e w' ⟨he, hu⟩ => ⟨he, h.kept hu⟩
theorem wk_len {w W : World} {q p : Nat} {X : Lg} {N K : Nat} (h : Wk w W q p X N K) : Calls Tryz.prog 55 #[.pointer (some ⟨q, 0, none⟩)] W fun e w' => e = .returned (.int .i64 (X.parts.length - 1)) ∧ Wk w w' q p X N K := by
 obtain ⟨h1, G, h2⟩ := h.ok
 exact (loglen_any W h2 h1).mono fun e w' ⟨he, hu⟩ => ⟨he, h.kept hu⟩
theorem Wk.next {w W w' : World} {q p : Nat} {X' : Lg} {D' : Dk} {G F G' F' : Nat → Prop} {N K : Nat} (hs : w.heap.size ≤ W.heap.size) (hu : Upd (fun _ => False) w W) (h2 : ∀ k, G k → w.heap.size ≤ k) (h3 : ∀ k, F k → w.heap.size ≤ k)
  (k1 : WalG w' q p X' D' G' F' N K) (k2 : ∀ k, G' k → G k ∨ W.heap.size ≤ k) (k3 : ∀ k, F' k → F k ∨ W.heap.size ≤ k) (k4 : Upd (fun k => G k ∨ F k) W w') : Wk w w' q p X' N K :=
 ⟨⟨D', G', F', k1, fun k hk => (k2 k hk).elim (h2 k) (fun e => by omega), fun k hk => (k3 k hk).elim (h3 k) (fun e => by omega)⟩, hu.step k4 (fun k hk e => by rcases e with e | e; have := h2 k e; omega; have := h3 k e; omega)⟩
theorem wk_app {w W : World} {q p n N K : Nat} {X : Lg} (h : Wk w W q p X N K) (hp : X.parts.length < 1000) (hK : K ≤ 1000000000) (hn0 : n ≤ 1000) (hr : X.used + secsN n ≤ X.h.area) (hn : X.h.number + X.parts.length ≤ 1073741824) :
  Calls Tryz.prog 43 #[.pointer (some ⟨q, 0, none⟩), .slice (some ⟨W.heap.size, 0, none⟩) n n] (W.alloc (.cells (madeCells #[.int .u8 0] n) 5)) fun e w' => e = .returned (.int .i64 0) ∧ Wk w w' q p (X.add (zs n)) N (K + 2000) := by
 obtain ⟨D, G, F, h1, h2, h3⟩ := h.wal
 have hlG := h1.wal.1.lt; have hlF := h1.wal.2.1.lt
 have hu : Upd (fun _ => False) W (W.alloc (.cells (madeCells #[.int .u8 0] n) 5)) := (Upd.refl _ W).alloc _
 have hw := h1.kept hu (fun _ _ e => e) (fun _ _ e => e)
 refine (append_good _ hw hp hK (zs_bytes n) (by rw [zs_length]; omega) (by rw [zs_length]; exact hr) hn (zs_in W n hn0) (fun _ a m c e => ?_)).mono ?_
 ·simp only [Value.slice.injEq, Option.some.injEq] at e
  rw [← e.1]
  exact ⟨fun e2 => by have := hlF _ e2; simp at this, fun e2 => by have := hlG q h1.wal.1.mem; simp at e2; omega⟩
 ·rintro e w' ⟨rfl, G', F', k1, k2, k3, k4⟩
  exact ⟨rfl, Wk.next (W := W.alloc (.cells (madeCells #[.int .u8 0] n) 5)) (by have := (h.upd.trans hu).size; exact this) (h.upd.trans hu) h2 h3 k1 k2 k3 k4⟩
theorem wk_full {w W : World} {q p n N K : Nat} {X : Lg} (h : Wk w W q p X N K) (hp : X.parts.length < 1000) (hK : K ≤ 1000000000) (hn0 : n ≤ 1000) (hr : X.h.area < X.used + secsN n) :
  Calls Tryz.prog 43 #[.pointer (some ⟨q, 0, none⟩), .slice (some ⟨W.heap.size, 0, none⟩) n n] (W.alloc (.cells (madeCells #[.int .u8 0] n) 5)) fun e w' => e = .returned (.int .i64 6) ∧ Wk w w' q p X N K := by
 obtain ⟨D, G, F, h1, h2, h3⟩ := h.wal
 have hlG := h1.wal.1.lt; have hlF := h1.wal.2.1.lt
 have hu : Upd (fun _ => False) W (W.alloc (.cells (madeCells #[.int .u8 0] n) 5)) := (Upd.refl _ W).alloc _
 have hw := h1.kept hu (fun _ _ e => e) (fun _ _ e => e)
 refine (append_full _ hw hp hK (zs_bytes n) (by rw [zs_length]; omega) (by rw [zs_length]; exact hr) (zs_in W n hn0) (fun _ a m c e => ?_)).mono ?_
 ·simp only [Value.slice.injEq, Option.some.injEq] at e
  rw [← e.1]
  exact ⟨fun e2 => by have := hlF _ e2; simp at this, fun e2 => by have := hlG q h1.wal.1.mem; simp at e2; omega⟩
 ·rintro e w' ⟨rfl, hu2⟩
  exact ⟨rfl, h.kept (hu.trans hu2)⟩
theorem wk_cp {w W : World} {q p n N K : Nat} {X : Lg} (h : Wk w W q p X N K) (hK : K ≤ 1000000000) (hn0 : n ≤ 1000) (hr : (secsN n : Int) ≤ X.h.area) (hn : X.h.number + X.parts.length ≤ 1073741824) (ht : X.h.turn < 1073741824) :
  Calls Tryz.prog 42 #[.pointer (some ⟨q, 0, none⟩), .slice (some ⟨W.heap.size, 0, none⟩) n n] (W.alloc (.cells (madeCells #[.int .u8 0] n) 5)) fun e w' => e = .returned (.int .i64 0) ∧ Wk w w' q p ((⟨X.cpH, [], 0, false⟩ : Lg).add (zs n)) N (K + 2000) := by
 obtain ⟨D, G, F, h1, h2, h3⟩ := h.wal
 have hlG := h1.wal.1.lt; have hlF := h1.wal.2.1.lt
 have hu : Upd (fun _ => False) W (W.alloc (.cells (madeCells #[.int .u8 0] n) 5)) := (Upd.refl _ W).alloc _
 have hw := h1.kept hu (fun _ _ e => e) (fun _ _ e => e)
 refine (cp_good _ hw hK (zs_bytes n) (by rw [zs_length]; omega) (by rw [zs_length]; exact hr) hn ht (zs_in W n hn0) (fun _ a m c e => ?_)).mono ?_
 ·simp only [Value.slice.injEq, Option.some.injEq] at e
  rw [← e.1]
  exact ⟨fun e2 => by have := hlF _ e2; simp at this, fun e2 => by have := hlG q h1.wal.1.mem; simp at e2; omega⟩
 ·rintro e w' ⟨rfl, G', F', k1, k2, k3, k4⟩
  exact ⟨rfl, Wk.next (W := W.alloc (.cells (madeCells #[.int .u8 0] n) 5)) (by have := (h.upd.trans hu).size; exact this) (h.upd.trans hu) h2 h3 k1 k2 k3 k4⟩
def wx0 : Lg := ⟨fmtH 4, [[]], 1, false⟩
def wx1 : Lg := wx0.add (zs 60)
def wx2 : Lg := wx1.add (zs 44)
def wx3 : Lg := (⟨wx2.cpH, [], 0, false⟩ : Lg).add (zs 100)
theorem secs60 : secsN 60 = 2 := rfl
theorem secs45 : secsN 45 = 2 := rfl
theorem secs44 : secsN 44 = 1 := rfl
theorem secs100 : secsN 100 = 3 := rfl
theorem wx_used : wx0.used = 1 ∧ wx1.used = 3 ∧ wx2.used = 4 ∧ wx3.used = 3 := by
 refine ⟨rfl, ?_, ?_, ?_⟩
 ·show (1 : Int) + (secsN (zs 60).length : Int) = 3; rw [zs_length, secs60]; rfl
 ·show (1 : Int) + (secsN (zs 60).length : Int) + (secsN (zs 44).length : Int) = 4; rw [zs_length, zs_length, secs60, secs44]; rfl
 ·show (0 : Int) + (secsN (zs 100).length : Int) = 3; rw [zs_length, secs100]; rfl
theorem wx_area : wx0.h.area = 4 ∧ wx1.h.area = 4 ∧ wx2.h.area = 4 ∧ wx3.h.area = 4 := ⟨rfl, rfl, rfl, rfl⟩
theorem wx_num : wx0.h.number = 1 ∧ wx1.h.number = 1 ∧ wx2.h.number = 1 ∧ wx2.h.turn = 1 := ⟨rfl, rfl, rfl, rfl⟩
theorem wx_len : wx0.parts.length = 1 ∧ wx1.parts.length = 2 ∧ wx2.parts.length = 3 ∧ wx3.parts.length = 1 := ⟨rfl, rfl, rfl, rfl⟩
theorem make60 (W : World) : (Instr.makeSlice 39 (.int .i64 60) (.int .i64 60)).run Tryz.prog W = .ok (.slice (some ⟨W.heap.size, 0, none⟩) 60 60) (W.alloc (.cells (madeCells #[.int .u8 0] 60) 5)) := run_make_row' (P := Tryz.prog) 39 5 (.int .u8 0) 1 Tryz.underlying39 Tryz.info5p rfl .i64 .i64 60 (by omega) (by omega) W
theorem make45 (W : World) : (Instr.makeSlice 39 (.int .i64 45) (.int .i64 45)).run Tryz.prog W = .ok (.slice (some ⟨W.heap.size, 0, none⟩) 45 45) (W.alloc (.cells (madeCells #[.int .u8 0] 45) 5)) := run_make_row' (P := Tryz.prog) 39 5 (.int .u8 0) 1 Tryz.underlying39 Tryz.info5p rfl .i64 .i64 45 (by omega) (by omega) W
theorem make44 (W : World) : (Instr.makeSlice 39 (.int .i64 44) (.int .i64 44)).run Tryz.prog W = .ok (.slice (some ⟨W.heap.size, 0, none⟩) 44 44) (W.alloc (.cells (madeCells #[.int .u8 0] 44) 5)) := run_make_row' (P := Tryz.prog) 39 5 (.int .u8 0) 1 Tryz.underlying39 Tryz.info5p rfl .i64 .i64 44 (by omega) (by omega) W
theorem make100 (W : World) : (Instr.makeSlice 39 (.int .i64 100) (.int .i64 100)).run Tryz.prog W = .ok (.slice (some ⟨W.heap.size, 0, none⟩) 100 100) (W.alloc (.cells (madeCells #[.int .u8 0] 100) 5)) := run_make_row' (P := Tryz.prog) 39 5 (.int .u8 0) 1 Tryz.underlying39 Tryz.info5p rfl .i64 .i64 100 (by omega) (by omega) W
theorem wakes04_run (w : World) : Calls Tryz.prog 12 #[] w fun e w' => e = .returned (.bool true) ∧ Upd (fun _ => False) w w' := by
 go_enter Tryz.func12, Tryz.ntmps12
 go_wp2_with (go_at_call 13; fail)
 refine (new_good_disk 10 w (by omega)).mono ?_
 rintro e w1 ⟨F1, rfl, d1, hF1, hu1, hg, hok⟩
 have D1 := Lib.hid d1; have HF1 := Lib.hid hF1; have HU1 := Lib.hid hu1; have HG := Lib.hid hg; have HOK := Lib.hid hok
 clear d1 hF1 hu1 hg hok
 simp only []
 go_wp2_with (go_at_call 41; fail)
 refine (format_good (area := 4) (N := 10) (K := 0) w1 D1.out HG.out HOK.out (by omega) (by omega) (by omega)).mono ?_
 rintro e w2 ⟨q, G2, F2, rfl, hw2, hG2, hF2, hu2⟩
 have hu : Upd (fun _ => False) w w2 := HU1.out.step hu2 (fun k hk e => by have := HF1.out k e; omega)
 have hs1 := HU1.out.size
 have HW : RowKit.Hid (Wk w w2 q (w.heap.size + 1) wx0 10 20000) := Lib.hid ⟨⟨_, _, _, hw2, fun k hk => by have := hG2 k hk; omega, fun k hk => (hF2 k hk).elim (HF1.out k) (fun e => by omega)⟩, hu⟩
 clear hw2 hG2 hF2 hu2 hu hs1 D1 HF1 HU1 HG HOK
 simp only []
 go_wp2_with (go_at_call 54; fail)
 refine (wk_left HW.out).mono ?_
 rintro e w3 ⟨rfl, hw⟩
 have HW3 := Lib.hid hw
 clear hw HW
 rw [show wx0.h.area - wx0.used = 3 from rfl]
 simp only []
 have mk := make60
 go_wp2_with (go_at_call 43; fail)
 refine (wk_app (n := 60) HW3.out (by rw [wx_len.1]; omega) (by omega) (by omega) (by rw [wx_used.1, wx_area.1, secs60]; omega) (by rw [wx_num.1, wx_len.1]; omega)).mono ?_
 rintro e w4 ⟨rfl, hw⟩
 have HW4 := Lib.hid hw
 clear hw HW3
 simp only []
 clear mk
 have mk := make45
 go_wp2_with (go_at_call 43; fail)
 refine (wk_full (X := wx1) (n := 45) HW4.out (by rw [wx_len.2.1]; omega) (by omega) (by omega) (by rw [wx_used.2.1, wx_area.2.1, secs45]; omega)).mono ?_
 rintro e w5 ⟨rfl, hw⟩
 have HW5 := Lib.hid hw
 clear hw HW4
 simp only []
 clear mk
 have mk := make44
 go_wp2_with (go_at_call 43; fail)
 refine (wk_app (X := wx1) (n := 44) HW5.out (by rw [wx_len.2.1]; omega) (by omega) (by omega) (by rw [wx_used.2.1, wx_area.2.1, secs44]; omega) (by rw [wx_num.2.1, wx_len.2.1]; omega)).mono ?_
 rintro e w6 ⟨rfl, hw⟩
 have HW6 := Lib.hid hw
 clear hw HW5
 simp only []
 clear mk
 go_wp2_with (go_at_call 54; fail)
 refine (wk_left (X := wx2) HW6.out).mono ?_
 rintro e w7 ⟨rfl, hw⟩
 have HW7 := Lib.hid hw
 clear hw HW6
 rw [show wx2.h.area - wx2.used = 0 by rw [wx_area.2.2.1, wx_used.2.2.1]; rfl]
 simp only []
 go_wp2_with (go_at_call 55; fail)
 refine (wk_len (X := wx2) HW7.out).mono ?_
 rintro e w8 ⟨rfl, hw⟩
 have HW8 := Lib.hid hw
 clear hw HW7
 rw [show (wx2.parts.length : Int) - 1 = 2 from rfl]
 simp only []
 have mk := make100
 go_wp2_with (go_at_call 42; fail)
 refine (wk_cp (X := wx2) (n := 100) HW8.out (by omega) (by omega) (by rw [wx_area.2.2.1, secs100]; omega) (by rw [wx_num.2.2.1, wx_len.2.2.1]; omega) (by rw [wx_num.2.2.2]; omega)).mono ?_
 rintro e w9 ⟨rfl, hw⟩
 have HW9 := Lib.hid hw
 clear hw HW8
 simp only []
 clear mk
 go_wp2_with (go_at_call 54; fail)
 refine (wk_left (X := wx3) HW9.out).mono ?_
 rintro e w10 ⟨rfl, hw⟩
 have HW10 := Lib.hid hw
 clear hw HW9
 rw [show wx3.h.area - wx3.used = 1 by rw [wx_area.2.2.2, wx_used.2.2.2]; rfl]
 simp only []
 go_wp2_with (go_at_call 55; fail)
 refine (wk_len (X := wx3) HW10.out).mono ?_
 rintro e w11 ⟨rfl, hw⟩
 have HW11 := Lib.hid hw
 clear hw HW10
 rw [show (wx3.parts.length : Int) - 1 = 0 from rfl]
 simp only []
 go_wp2
 go_ret
 exact ⟨rfl, HW11.out.upd⟩
end
section
open Go.RowKit Go.Shelf
theorem app_nil {sa : Option Addr} {n sc : Nat} (w : World) : Calls Tryz.prog 43 #[.pointer none, .slice sa n sc] w fun e w' => e = .returned (.int .i64 1) ∧ Upd (fun _ => False) w w' := by
 go_enter Tryz.func43, Tryz.ntmps43
 go_wp2_with (go_at_call 114; refine (refuses_nil _).mono ?_; rintro e w' ⟨rfl, rfl⟩)
 go_ret
 exact ⟨rfl, by repeat (first | exact Upd.refl _ _ | refine Upd.alloc ?_ _)⟩
theorem cp_nil {sa : Option Addr} {n sc : Nat} (w : World) : Calls Tryz.prog 42 #[.pointer none, .slice sa n sc] w fun e w' => e = .returned (.int .i64 1) ∧ Upd (fun _ => False) w w' := by
 go_enter Tryz.func42, Tryz.ntmps42
 go_wp2_with (go_at_call 114; refine (refuses_nil _).mono ?_; rintro e w' ⟨rfl, rfl⟩)
 go_ret
 exact ⟨rfl, by repeat (first | exact Upd.refl _ _ | refine Upd.alloc ?_ _)⟩
attribute [local go_sem] Oper.semAt_some
theorem results_cell2 {P : Program} {fn : Func} {ts : Array Value} {w : World} {a b : Nat} {t s : TypeId} {p q : Addr} {v x : Value} (hr : fn.results = #[.cell a t, .cell b s]) (ha : ts.getD a undef = .pointer (some p)) (hb : ts.getD b undef = .pointer (some q)) (hl : (loadVar t p).run P w = .ok v w) (hm : (loadVar s q).run P w = .ok x w) :
  (Go.results fn ts).run P w = .ok (.tuple #[v, x]) w := by
 unfold Go.results
 rw [hr]
 have ha' : ts[a]?.getD undef = .pointer (some p) := by simpa using ha
 have hb' : ts[b]?.getD undef = .pointer (some q) := by simpa using hb
 simp [asAddr, ha', hb', hl, hm]
theorem run_load22 {w : World} {b : Nat} {v : Value} (h : w.heap[b]? = some (.cells #[v] 32 (0, 0))) : (loadVar 32 ⟨b, 0, none⟩).run Tryz.prog w = .ok v w := by
 have hc := cells1_of h
 simp [loadVar, isAgg, run_underlying Tryz.underlying32, Sem.run_bind, hc]
theorem run_load4 {w : World} {b : Nat} {v : Value} (h : w.heap[b]? = some (.cells #[v] 4 (0, 0))) : (loadVar 4 ⟨b, 0, none⟩).run Tryz.prog w = .ok v w := by
 have hc := cells1_of h
 simp [loadVar, isAgg, run_underlying Tryz.underlying4, Sem.run_bind, hc]
end
section
open Go.RowKit Go.Shelf
def beF (bs : List Int) : Int := bs.foldl (fun x b => x * 256 + b) 0
theorem or_shift {x b : Int} (n : Nat) (hn : n ≤ 24) (h0 : 0 ≤ x) (h1 : x < 2 ^ n) (h2 : 0 ≤ b) (h3 : b ≤ 255) : bits .or .u64 x (b * 2 ^ n) = b * 2 ^ n + x := by
 obtain ⟨B, rfl⟩ := Int.eq_ofNat_of_zero_le h2
 obtain ⟨X, rfl⟩ := Int.eq_ofNat_of_zero_le h0
 have e : (B : Int) * 2 ^ n = ((2 ^ n * B : Nat) : Int) := by rw [Int.mul_comm]; push_cast; rfl
 have hX : X < 2 ^ n := by exact_mod_cast h1
 have h24 : 2 ^ n ≤ 2 ^ 24 := Nat.pow_le_pow_right (by omega) hn
 have hm : 2 ^ n * B ≤ 2 ^ 24 * 255 := Nat.mul_le_mul h24 (by omega)
 rw [e, u64_or_nat _ _ (by omega) (by omega), Nat.or_comm, ← Nat.two_pow_add_eq_or_of_lt hX]
 push_cast
 rfl
def be4 (b0 b1 b2 b3 : Int) : Nat → Int
 | 0 => 0
 | 1 => b3
 | 2 => b2 * 256 + b3
 | 3 => b1 * 65536 + (b2 * 256 + b3)
 | _ => b0 * 16777216 + (b1 * 65536 + (b2 * 256 + b3))
theorem bits1_any {g o c bx : Nat} {b0 b1 b2 b3 : Int} (w : World) (hb : ∀ i v, (bcells [b0, b1, b2, b3])[i]? = some v → w.cell? ⟨g, o + i, none⟩ = some v) (hB : Bytes [b0, b1, b2, b3]) (hx : w.heap[bx]? = some (.cells #[.int .u64 0] 53 (0, 0))) (hne : g ≠ bx) :
  Calls Tryz.prog 181 #[.slice (some ⟨g, o, none⟩) 4 c, .pointer (some ⟨bx, 0, none⟩)] w fun e w' => (∃ v, e = .returned v) ∧ w'.heap[bx]? = some (.cells #[.int .u64 (be4 b0 b1 b2 b3 4)] 53 (0, 0)) ∧ Upd (fun k => k = bx) w w' := by
 have q0 : w.cell? ⟨g, o, none⟩ = some (.int .u8 b0) := hb 0 (.int .u8 b0) rfl
 have q1 : w.cell? ⟨g, o + 1, none⟩ = some (.int .u8 b1) := hb 1 (.int .u8 b1) rfl
 have q2 : w.cell? ⟨g, o + 2, none⟩ = some (.int .u8 b2) := hb 2 (.int .u8 b2) rfl
 have q3 : w.cell? ⟨g, o + 3, none⟩ = some (.int .u8 b3) := hb 3 (.int .u8 b3) rfl
 have HX := Lib.hid hx; have HB := Lib.hid hB; have HN := Lib.hid hne
 have HQ := Lib.hid (And.intro q0 (And.intro q1 (And.intro q2 q3)))
 clear q0 q1 q2 q3 hb hB hx hne
 go_enter Tryz.func181, Tryz.ntmps181
 go_upto_region 1 with fail
 go_loopg [6] 4 (fun gk i wr => ∃ k : Nat, k ≤ 4 ∧ gk = 4 - k ∧ i = .int .i64 k ∧ Upd (fun k => k = bx) w wr ∧ wr.heap[bx]? = some (.cells #[.int .u64 (be4 b0 b1 b2 b3 k)] 53 (0, 0)))
 case atStart => exact ⟨0, by omega, rfl, rfl, Upd.refl _ _, HX.out⟩
 case round =>
  obtain ⟨k, hk, rfl, rfl, hu, hc⟩ := hrel
  have c1 := cells1_of hc
  have f1 : wr.frozen? ⟨bx, 0, none⟩ = false := frozen_of_heap hc
  have HU := Lib.hid hu; have HC := Lib.hid hc
  clear hu hc
  have hB := HB.out
  have u3' : IntKind.u64.wrap b3 = b3 := by have := hB b3 (by simp); rw [IntKind.wrap_u64]; omega
  have u2' : IntKind.u64.wrap b2 = b2 := by have := hB b2 (by simp); rw [IntKind.wrap_u64]; omega
  have u1' : IntKind.u64.wrap b1 = b1 := by have := hB b1 (by simp); rw [IntKind.wrap_u64]; omega
  have u0' : IntKind.u64.wrap b0 = b0 := by have := hB b0 (by simp); rw [IntKind.wrap_u64]; omega
  clear hB
  obtain rfl | rfl | rfl | rfl | rfl : k = 0 ∨ k = 1 ∨ k = 2 ∨ k = 3 ∨ k = 4 := by omega
  ·have q : wr.cell? ⟨g, o + 3, none⟩ = some (.int .u8 b3) := cell_keptF HU.out (by simpa using HN.out) HQ.out.2.2.2
   try simp only [show ((0 : Nat) : Int) = 0 from rfl]
   go_upto_region 3 with fail
   go_still_tail 14, (by kernel_rfl)
   try simp only [show IntKind.i64.wrap 3 = 3 from rfl]
   repeat still_step
   try simp only [show IntKind.i64.wrap 0 = 0 from rfl]
   repeat still_step
   try refine wpStill_nil ?_
   change wpList _ _ _ _ _ (World.drew _)
   go_wp2
   go_roundg (4 - (0 + 1))
   case measure => omega
   case rel =>
    refine ⟨1, by omega, rfl, rfl, HU.out.trans (((upd_own wr bx 0 _).drew)), ?_⟩
    have hB := HB.out
    have h0 := hB b0 (by simp); have h1 := hB b1 (by simp); have h2 := hB b2 (by simp); have h3 := hB b3 (by simp); 
    have e : bits .or .u64 (be4 b0 b1 b2 b3 0) b3 = be4 b0 b1 b2 b3 1 := by have := or_shift (x := 0) (b := b3) 0 (by omega) (by omega) (by omega) (by omega) (by omega); simpa [be4] using this
    rw [e]
    have := blk_set (i := 0) (v := .int .u64 (be4 b0 b1 b2 b3 1)) HC.out
    simpa [World.drew] using this
  ·have q : wr.cell? ⟨g, o + 2, none⟩ = some (.int .u8 b2) := cell_keptF HU.out (by simpa using HN.out) HQ.out.2.2.1
   try simp only [show ((1 : Nat) : Int) = 1 from rfl]
   go_upto_region 3 with fail
   go_still_tail 14, (by kernel_rfl)
   try simp only [show IntKind.i64.wrap (3 - 1) = 2 from rfl, show IntKind.i64.wrap 3 = 3 from rfl]
   repeat still_step
   try simp only [show IntKind.i64.wrap 8 = 8 from rfl]
   repeat still_step
   try refine wpStill_nil ?_
   change wpList _ _ _ _ _ (World.drew _)
   go_wp2
   go_roundg (4 - (1 + 1))
   case measure => omega
   case rel =>
    refine ⟨2, by omega, rfl, rfl, HU.out.trans (((upd_own wr bx 0 _).drew)), ?_⟩
    have hB := HB.out
    have h0 := hB b0 (by simp); have h1 := hB b1 (by simp); have h2 := hB b2 (by simp); have h3 := hB b3 (by simp); 
    have e : bits .or .u64 (be4 b0 b1 b2 b3 1) (IntKind.u64.wrap (b2 * 256)) = be4 b0 b1 b2 b3 2 := by rw [show IntKind.u64.wrap (b2 * 256) = b2 * 2 ^ 8 by rw [IntKind.wrap_u64]; omega]; exact or_shift (x := b3) 8 (by omega) (by omega) (by omega) (by omega) (by omega)
    rw [e]
    have := blk_set (i := 0) (v := .int .u64 (be4 b0 b1 b2 b3 2)) HC.out
    simpa [World.drew] using this
  ·have q : wr.cell? ⟨g, o + 1, none⟩ = some (.int .u8 b1) := cell_keptF HU.out (by simpa using HN.out) HQ.out.2.1
   try simp only [show ((2 : Nat) : Int) = 2 from rfl]
   go_upto_region 3 with fail
   go_still_tail 14, (by kernel_rfl)
   try simp only [show IntKind.i64.wrap (3 - 2) = 1 from rfl, show IntKind.i64.wrap 3 = 3 from rfl]
   repeat still_step
   try simp only [show IntKind.i64.wrap 16 = 16 from rfl]
   repeat still_step
   try refine wpStill_nil ?_
   change wpList _ _ _ _ _ (World.drew _)
   go_wp2
   go_roundg (4 - (2 + 1))
   case measure => omega
   case rel =>
    refine ⟨3, by omega, rfl, rfl, HU.out.trans (((upd_own wr bx 0 _).drew)), ?_⟩
    have hB := HB.out
    have h0 := hB b0 (by simp); have h1 := hB b1 (by simp); have h2 := hB b2 (by simp); have h3 := hB b3 (by simp); 
    have e : bits .or .u64 (be4 b0 b1 b2 b3 2) (IntKind.u64.wrap (b1 * 65536)) = be4 b0 b1 b2 b3 3 := by rw [show IntKind.u64.wrap (b1 * 65536) = b1 * 2 ^ 16 by rw [IntKind.wrap_u64]; omega]; exact or_shift (x := (b2 * 256 + b3)) 16 (by omega) (by omega) (by omega) (by omega) (by omega)
    rw [e]
    have := blk_set (i := 0) (v := .int .u64 (be4 b0 b1 b2 b3 3)) HC.out
    simpa [World.drew] using this
  ·have q : wr.cell? ⟨g, o, none⟩ = some (.int .u8 b0) := cell_keptF HU.out (by simpa using HN.out) HQ.out.1
   try simp only [show ((3 : Nat) : Int) = 3 from rfl]
   go_upto_region 3 with fail
   go_still_tail 14, (by kernel_rfl)
   try simp only [show IntKind.i64.wrap (3 - 3) = 0 from rfl, show IntKind.i64.wrap 3 = 3 from rfl]
   repeat still_step
   try simp only [show IntKind.i64.wrap 24 = 24 from rfl]
   repeat still_step
   try refine wpStill_nil ?_
   change wpList _ _ _ _ _ (World.drew _)
   go_wp2
   go_roundg (4 - (3 + 1))
   case measure => omega
   case rel =>
    refine ⟨4, by omega, rfl, rfl, HU.out.trans (((upd_own wr bx 0 _).drew)), ?_⟩
    have hB := HB.out
    have h0 := hB b0 (by simp); have h1 := hB b1 (by simp); have h2 := hB b2 (by simp); have h3 := hB b3 (by simp); 
    have e : bits .or .u64 (be4 b0 b1 b2 b3 3) (IntKind.u64.wrap (b0 * 16777216)) = be4 b0 b1 b2 b3 4 := by rw [show IntKind.u64.wrap (b0 * 16777216) = b0 * 2 ^ 24 by rw [IntKind.wrap_u64]; omega]; exact or_shift (x := (b1 * 65536 + (b2 * 256 + b3))) 24 (by omega) (by omega) (by omega) (by omega) (by omega)
    rw [e]
    have := blk_set (i := 0) (v := .int .u64 (be4 b0 b1 b2 b3 4)) HC.out
    simpa [World.drew] using this
  ·go_wp2
   refine bodyPost_end (results_none rfl _ _ _) rfl ?_
   exact ⟨⟨_, rfl⟩, HC.out, HU.out⟩
def Rd (w : World) (r : Nat) (bs : List Int) : Prop :=
 ∃ g o c, w.heap[r]? = some (.cells #[.slice (some ⟨g, o, none⟩) bs.length c, .int .i64 0] 236 (0, 0)) ∧ g ≠ r ∧ bs.length ≤ c ∧ c ≤ maxLen ∧ ∀ (i : Nat) v, (bcells bs)[i]? = some v → w.cell? ⟨g, o + i, none⟩ = some v
theorem size28e (W : World) : (sizeOf (Tryz.prog.elem 39)).run Tryz.prog W = .ok 1 W := by kernel_rfl
theorem elem28 : Tryz.prog.underlying 39 = some (.slice (Tryz.prog.elem 39)) := by kernel_rfl
theorem slice_four (g o n c : Nat) (h : 4 ≤ c) (W : World) : (Instr.slice 39 (.slice (some ⟨g, o, none⟩) n c) none (some (.int .i64 4)) (some (.int .i64 4))).run Tryz.prog W = .ok (.slice (some ⟨g, o, none⟩) 4 4) W := by
 rw [run_slice_hm W 39 _ n c elem28 .i64 .i64 4 4 (by omega) (by omega) (by omega), size28e]
 rfl
theorem slice_rest (g o n c : Nat) (h : 4 ≤ n) (h2 : n ≤ c) (W : World) : (Instr.slice 39 (.slice (some ⟨g, o, none⟩) n c) (some (.int .i64 4)) none none).run Tryz.prog W = .ok (.slice (some ⟨g, if c = 4 then o else o + 4, none⟩) (n - 4) (c - 4)) W := by
 rw [run_slice_l W 39 _ n c elem28 .i64 4 (by omega) (by omega), size28e]
 by_cases hc : c = 4
 ·subst hc
  rfl
 ·simp only [Result.andThen, sliced, if_neg hc, show (4 : Int).toNat = 4 from rfl, Option.map]
  rfl
theorem give_any {g o n c bx r : Nat} {b0 b1 b2 b3 : Int} (w : World) (hr : w.heap[r]? = some (.cells #[.slice (some ⟨g, o, none⟩) n c, .int .i64 0] 236 (0, 0))) (h4 : 4 ≤ n) (hnc : n ≤ c)
  (hb : ∀ i v, (bcells [b0, b1, b2, b3])[i]? = some v → w.cell? ⟨g, o + i, none⟩ = some v) (hB : Bytes [b0, b1, b2, b3]) (hx : w.heap[bx]? = some (.cells #[.int .u64 0] 53 (0, 0))) (hne : g ≠ bx) (hne2 : r ≠ bx) :
  Calls Tryz.prog 149 #[.pointer (some ⟨r, 0, none⟩), .int .i64 4, .func (.func 181) #[] #[.pointer (some ⟨bx, 0, none⟩)]] w fun e w' => (∃ v, e = .returned v) ∧ w'.heap[bx]? = some (.cells #[.int .u64 (be4 b0 b1 b2 b3 4)] 53 (0, 0)) ∧
   w'.heap[r]? = some (.cells #[.slice (some ⟨g, if c = 4 then o else o + 4, none⟩) (n - 4) (c - 4), .int .i64 0] 236 (0, 0)) ∧ Upd (fun k => k = bx ∨ k = r) w w' := by
 have HC := Lib.hid (bits1_any (c := 4) w hb hB hx hne)
 have c0 : w.cell? ⟨r, 0, none⟩ = some (.slice (some ⟨g, o, none⟩) n c) := by simp [World.cell?, hr]
 have c1 : w.cell? ⟨r, 1, none⟩ = some (.int .i64 0) := by simp [World.cell?, hr]
 have hn : ¬ ((n : Int) < 4) := by omega
 have hs1 := slice_four g o n c (by omega)
 have HS2 := slice_rest g o n c h4 hnc
 obtain ⟨o2, ho2⟩ : ∃ o2, o2 = if c = 4 then o else o + 4 := ⟨_, rfl⟩
 rw [← ho2] at HS2 ⊢
 have HS2 := Lib.hid HS2
 clear ho2
 have HR := Lib.hid hr; have HN := Lib.hid hne2
 clear hb hB hx hne hne2 hr h4 hnc
 go_enter Tryz.func149, Tryz.ntmps149
 go_wp2_with (go_at_call 181; fail)
 refine HC.out.mono ?_
 rintro e w1 ⟨⟨v, rfl⟩, h1, h2⟩
 have hr1 := (h2.block _ (lt_of_heap HR.out) HN.out).trans HR.out
 have c0 : w1.cell? ⟨r, 0, none⟩ = some (.slice (some ⟨g, o, none⟩) n c) := by simp [World.cell?, hr1]
 have f0 : w1.frozen? ⟨r, 0, none⟩ = false := frozen_of_heap hr1
 have hs2 := HS2.out
 have H1 := Lib.hid h1; have H2 := Lib.hid h2; have HR1 := Lib.hid hr1
 clear h1 h2 hr1 c1 hs1 HC
 simp only []
 go_wp2
 refine bodyPost_end (results_none rfl _ _ _) rfl ?_
 refine ⟨⟨_, rfl⟩, ?_, ?_, (H2.out.mono (fun _ _ e => .inl e)).trans ((upd_own w1 r 0 _).mono (fun _ _ e => .inr e))⟩
 ·rw [set_ne (by exact fun e => HN.out e.symm)]; exact H1.out
 ·have := blk_set (i := 0) (v := .slice (some ⟨g, o2, none⟩) (n - 4) (c - 4)) HR1.out
  simpa using this
theorem bits_any {r : Nat} {b0 b1 b2 b3 : Int} {rest : List Int} (w : World) (h : Rd w r (b0 :: b1 :: b2 :: b3 :: rest)) (hB : Bytes [b0, b1, b2, b3]) :
  Calls Tryz.prog 148 #[.pointer (some ⟨r, 0, none⟩), .int .i64 32] w fun e w' => e = .returned (.int .u64 (be4 b0 b1 b2 b3 4)) ∧ Rd w' r rest ∧ Upd (fun k => k = r) w w' := by
 obtain ⟨g, o, c, hr, hgr, hl, hm, hcs⟩ := h
 have hq : (32 : Int).tdiv 8 = 4 := by decide
 have hrl := lt_of_heap hr
 have hgl : g < w.heap.size := by
  have h0 := hcs 0 (.int .u8 b0) rfl
  rcases Nat.lt_or_ge g w.heap.size with h' | h'
  ·exact h'
  ·simp [World.cell?, Array.getElem?_eq_none h'] at h0
 have hu1 : Upd (fun _ => False) w (w.alloc (.cells #[.int .u64 0] 53)) := (Upd.refl _ w).alloc _
 obtain ⟨w1, hw1⟩ : ∃ w1, w1 = w.alloc (.cells #[.int .u64 0] 53) := ⟨_, rfl⟩
 have hx1 : w1.heap[w.heap.size]? = some (.cells #[.int .u64 0] 53 (0, 0)) := by
  rw [hw1]
  exact alloc_at rfl
 rw [← hw1] at hu1
 have hr1 := (hu1.block _ hrl (fun e => e)).trans hr
 have hcs1 : ∀ (i : Nat) v, (bcells (b0 :: b1 :: b2 :: b3 :: rest))[i]? = some v → w1.cell? ⟨g, o + i, none⟩ = some v := fun i v hi => cell_keptF hu1 (fun e => e) (hcs i v hi)
 have hb1 : ∀ (i : Nat) v, (bcells [b0, b1, b2, b3])[i]? = some v → w1.cell? ⟨g, o + i, none⟩ = some v := fun i v hi => hcs1 i v (by
  rw [show b0 :: b1 :: b2 :: b3 :: rest = [b0, b1, b2, b3] ++ rest from rfl, bcells_append, List.getElem?_append_left (List.getElem?_eq_some_iff.1 hi).1]; exact hi)
 have HG := Lib.hid (give_any (bx := w.heap.size) w1 hr1 (by simp) (by simpa using hl) hb1 hB hx1 (by omega) (by omega))
 have HU1 := Lib.hid hu1; have HCS := Lib.hid hcs1; have HL := Lib.hid hl; have HM := Lib.hid hm; have HW1 := Lib.hid hw1; have HGR := Lib.hid hgr; have HRL := Lib.hid hrl; have HGL := Lib.hid hgl
 clear hr hl hm hcs hrl hgl hu1 hx1 hr1 hcs1 hb1 hw1 hgr hB
 go_enter Tryz.func148, Tryz.ntmps148
 go_wp2_with (go_at_call 149; fail)
 rw [← HW1.out]
 refine HG.out.mono ?_
 rintro e w2 ⟨⟨v, rfl⟩, h1, h2, h3⟩
 have c0 := cells1_of h1
 have H2 := Lib.hid h2; have H3 := Lib.hid h3
 clear h1 h2 h3 HG
 simp only []
 go_wp2
 go_ret
 have hl := HL.out; have hm := HM.out
 simp only [List.length_cons] at hl hm
 refine ⟨rfl, ⟨g, if c = 4 then o else o + 4, c - 4, ?_, HGR.out, by omega, by omega, fun i v hi => ?_⟩, (HU1.out.mono (F := fun _ => False) (G := fun k => k = r) (fun _ _ e => e.elim)).step H3.out (fun k hk e => ?_)⟩
 ·have := H2.out
  simpa using this
 ·have h1 : (bcells (b0 :: b1 :: b2 :: b3 :: rest))[i + 4]? = some v := by
   rw [show b0 :: b1 :: b2 :: b3 :: rest = [b0, b1, b2, b3] ++ rest from rfl, bcells_append, List.getElem?_append_right (by simp [bcells])]
   simpa [bcells] using hi
  have h2 := HCS.out (i + 4) v h1
  have h3 : c ≠ 4 := by
   intro e
   subst e
   have : rest.length = 0 := by omega
   have := List.length_eq_zero_iff.1 this
   subst this
   simp [bcells] at hi
  rw [if_neg h3]
  have h4 := cell_keptF H3.out (x := ⟨g, o + (i + 4), none⟩) (by simp only; intro e; rcases e with e | e; have := HGL.out; omega; exact HGR.out e) h2
  rw [show o + 4 + i = o + (i + 4) by omega]
  exact h4
 ·rcases e with e | e
  ·have := HRL.out; omega
  ·exact e
theorem be4_bound {b0 b1 b2 b3 : Int} (hB : Bytes [b0, b1, b2, b3]) : 0 ≤ be4 b0 b1 b2 b3 4 ∧ be4 b0 b1 b2 b3 4 ≤ 4294967295 := by
 have h0 := hB b0 (by simp); have h1 := hB b1 (by simp); have h2 := hB b2 (by simp); have h3 := hB b3 (by simp)
 show 0 ≤ b0 * 16777216 + (b1 * 65536 + (b2 * 256 + b3)) ∧ b0 * 16777216 + (b1 * 65536 + (b2 * 256 + b3)) ≤ 4294967295
 omega
theorem u32_any {r : Nat} {b0 b1 b2 b3 : Int} {rest : List Int} (w : World) (h : Rd w r (b0 :: b1 :: b2 :: b3 :: rest)) (hB : Bytes [b0, b1, b2, b3]) :
  Calls Tryz.prog 193 #[.pointer (some ⟨r, 0, none⟩)] w fun e w' => e = .returned (.int .u32 (be4 b0 b1 b2 b3 4)) ∧ Rd w' r rest ∧ Upd (fun k => k = r) w w' := by
 have HC := Lib.hid (bits_any w h hB)
 have hb := be4_bound hB
 obtain ⟨x, hx⟩ : ∃ x, x = be4 b0 b1 b2 b3 4 := ⟨_, rfl⟩
 rw [← hx] at HC hb ⊢
 have hcv : IntKind.u32.wrap x = x := by rw [IntKind.wrap_u32]; omega
 clear h hB hb hx
 go_enter Tryz.func193, Tryz.ntmps193
 go_wp2_with (go_at_call 148; fail)
 refine HC.out.mono ?_
 rintro e w2 ⟨rfl, h1, h2⟩
 have H1 := Lib.hid h1; have H2 := Lib.hid h2
 clear h1 h2 HC
 simp only []
 go_wp2
 go_ret
 exact ⟨rfl, H1.out, H2.out⟩
theorem oread_any {v : Value} {bs : List Int} (w : World) (hv : BytesIn w v bs) (hne : bs ≠ []) (hl : bs.length ≤ 1099511627776) :
  Calls Tryz.prog 88 #[v] w fun e w' => e = .returned (.pointer (some ⟨w.heap.size, 0, none⟩)) ∧ Rd w' w.heap.size bs ∧ Upd (fun _ => False) w w' := by
 have hu0 : Upd (fun _ => False) w (w.alloc (.cells #[.slice none 0 0, .int .i64 0] 236)) := (Upd.refl _ w).alloc _
 have HC := Lib.hid (clone_any (w.alloc (.cells #[.slice none 0 0, .int .i64 0] 236)) hl (hv.kept hu0))
 clear hv
 go_enter Tryz.func88, Tryz.ntmps88
 go_wp2_with (go_at_call 99; fail)
 refine HC.out.mono ?_
 rintro e w1 ⟨u, rfl, ho, hu, hU⟩
 have hn : u ≠ .slice none 0 0 := by
  rintro rfl
  rcases ho.2 with ⟨_, h2⟩ | ⟨g, cap, cur, h1, _⟩
  ·exact hne (List.length_eq_zero_iff.1 h2)
  ·cases h1
 have hb1 : w1.heap[w.heap.size]? = some (.cells #[.slice none 0 0, .int .i64 0] 236 (0, 0)) := (hU.block _ (by simp) (fun e => e)).trans (alloc_at rfl)
 have f0 : w1.frozen? ⟨w.heap.size, 0, none⟩ = false := frozen_of_heap hb1
 have c0 : w1.cell? ⟨w.heap.size, 0, none⟩ = some (.slice none 0 0) := by simp [World.cell?, hb1]
 have HO := Lib.hid ho
 rcases ho.2 with ⟨h1, _⟩ | ⟨g, cap, cur, rfl, hgb, hg, h1, h2, h3, h4⟩
 ·exact absurd h1 hn
 have hgr : g ≠ w.heap.size := by simp at hgb; omega
 have HB := Lib.hid hb1; have HU := Lib.hid (hu0.trans hU); have HG := Lib.hid hgr; have H1 := Lib.hid h1; have H2 := Lib.hid h2
 clear hb1 ho hu hU hu0 hn hne HC hgb hg h1 h2 h3 h4 hgr
 simp only []
 go_wp2
 go_ret
 have hu9 : Upd (fun k => k = w.heap.size) w1 (w1.setCell ⟨w.heap.size, 0, none⟩ (.slice (some ⟨g, 0, none⟩) bs.length cap)) := upd_own _ _ _ _
 refine ⟨rfl, ⟨g, 0, cap, ?_, HG.out, H1.out, H2.out, fun i v hi => ?_⟩, HU.out.step hu9 (fun k hk e => by omega)⟩
 ·have := blk_set (i := 0) (v := .slice (some ⟨g, 0, none⟩) bs.length cap) HB.out
  simpa using this
 ·have := World.ownsRow.cells HO.out rfl i v hi
  exact cell_keptF hu9 (x := ⟨g, 0 + i, none⟩) (by exact HG.out) (by rw [Addr.add_mid] at this; exact this)
end
end Go.Proofs.YtbimkhdiplnbfaaGreat
