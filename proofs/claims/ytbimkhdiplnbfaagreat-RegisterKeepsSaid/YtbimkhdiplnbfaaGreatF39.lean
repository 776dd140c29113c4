/- append([]bool{}, l...): booleans in a row of one's own. -/
import Derived.Test.YtbimkhdiplnbfaaGreatF28
import Derived.Test.YtbimkhdiplnbfaaGreatF33
import Derived.Test.YtbimkhdiplnbfaaGreatF34
import Derived.Test.YtbimkhdiplnbfaaGreatF38
import Derived.Maps.AppendAt
set_option linter.unusedVariables false
set_option linter.unusedSimpArgs false

section
namespace Go.Proofs.YtbimkhdiplnbfaaGreat
set_option maxRecDepth 100000
open Go.RowKit Go.Shelf

theorem run_keeps {ty : TypeId} {w : World} {g kc : Nat} {ka : Option Addr} {K : List Bool} (hg : w.heap[g]? = some (.cells #[] 4 (0, 0))) (hk : BoolsIn w ka K) (hl : K.length ≤ 140737488351232) :
  ∃ a' c' w', (Builtin.append_ #[40, 40] ty #[.slice (some ⟨g, 0, none⟩) 0 0, .slice ka K.length kc]).run Tryz.prog w = .ok (.slice a' K.length c') w' ∧ BoolsAt w' a' K ∧ Upd (fun k => k = g) w w' := by
 obtain ⟨i, hi, hz, hsz, hb⟩ := info_parts Tryz.info4q
 cases K with
 |nil =>
  refine ⟨some ⟨g, 0, none⟩, 0, w, ?_, fun i b h => by simp at h, Upd.refl _ _⟩
  cases ka with
  |none => simp [Builtin.append_, run_underlying Tryz.underlying40, hi, typeInfo, sizeOf, Builtin.lenOf, Builtin.firstCells, hsz, loadCells, loadCellsFrom, storeCells, Result.andThen]
  |some ad => simp [Builtin.append_, run_underlying Tryz.underlying40, hi, typeInfo, sizeOf, Builtin.lenOf, Builtin.firstCells, hsz, loadCells, loadCellsFrom, storeCells, Result.andThen]
 |cons b0 K0 =>
  obtain ⟨kb, ko, rfl, h0⟩ := hk 0 b0 rfl
  have hown : w.ownsRow 0 4 1 (.slice (some ⟨g, 0, none⟩) 0 0) 0 [] := ⟨rfl, .inr ⟨g, 0, _, rfl, Nat.zero_le _, hg, Nat.le_refl _, by unfold maxLen; omega, rfl, rfl⟩⟩
  have hc : ∀ (j : Nat) (u : Value), ((b0 :: K0).map Value.bool)[j]? = some u → w.cell? ((⟨kb, ko, none⟩ : Addr).add j) = some u := fun j u hu => by
   rw [List.getElem?_map, Option.map_eq_some_iff] at hu
   obtain ⟨b, hb1, rfl⟩ := hu
   obtain ⟨kb2, ko2, e, h2⟩ := hk j b hb1
   injection e with e
   injection e with e1 e2
   subst e1 e2
   rw [add_none]
   exact h2
  obtain ⟨v', w', hr, g1, g2, _, g3⟩ := run_append_own_at (P := Tryz.prog) w 0 40 ty 4 i (.bool false) 1 1 Tryz.underlying40 hi hz hsz hb rfl (by omega) (.slice (some ⟨g, 0, none⟩) 0 0) 0 [] hown ⟨kb, ko, none⟩ (b0 :: K0).length kc ((b0 :: K0).map Value.bool) (by simp) hc (fun u hu => by
   rw [List.mem_map] at hu
   obtain ⟨b, _, rfl⟩ := hu
   rfl) (by unfold maxLen; omega) (by omega) (Nat.zero_le _)
  rw [Nat.zero_add, List.nil_append] at g1
  obtain ⟨a', c', rfl⟩ := rowV g1
  refine ⟨a', c', w', hr, fun j b hj => ?_, Upd.of_grown g2 (fun k hk => by simpa [Value.ownBlock] using hk.symm)⟩
  have hjl : ((b0 :: K0).map Value.bool)[j]? = some (.bool b) := by rw [List.getElem?_map, hj]; rfl
  rcases g1.2 with ⟨h1, _⟩ | ⟨gg, cap, cur, h1, _, h3, _⟩
  ·simp at h1
  ·injection h1 with h1 _ _
   subst h1
   have := World.ownsRow.cells (g := gg) g1 rfl j _ hjl
   refine ⟨gg, 0, rfl, lt_of_heap h3, ?_⟩
   rwa [add_none] at this

theorem wpList_keeps {ops : Array Oper} {rest : List Oper} {o : Oper} {a : Act} {w : World} {Q : Exit → Act → World → Prop} (hgd : o.guard = none) (s x : Operand) (ho : o.op = .call { callee := .builtin .append, args := #[s, x], argTypes := #[40, 40] })
  {g kc : Nat} {ka : Option Addr} {K : List Bool} (hs : a.eval s = .slice (some ⟨g, 0, none⟩) 0 0) (hx : a.eval x = .slice ka K.length kc) (hg : w.heap[g]? = some (.cells #[] 4 (0, 0))) (hk : BoolsIn w ka K) (hl : K.length ≤ 140737488351232)
  (h : ∀ a' c' w', BoolsAt w' a' K → Upd (fun k => k = g) w w' → wpList Tryz.prog ops Q rest (a.put o.dst (.slice a' K.length c')) w') : wpList Tryz.prog ops Q (o :: rest) a w := by
 obtain ⟨a', c', w', hr, g1, g2⟩ := run_keeps (ty := o.type) (kc := kc) hg hk hl
 exact Lib.wpList_append_run w hgd s x 40 40 ho _ _ hs hx _ w' hr (h a' c' w' g1 g2)
end Go.Proofs.YtbimkhdiplnbfaaGreat
end

section
namespace Go.Proofs.YtbimkhdiplnbfaaGreat
set_option maxRecDepth 100000
open Go.RowKit Go.Shelf

theorem OpIn.klen' {w : World} {B : BatchV} {a : Option Addr} {c : Nat} {ra : Option Addr} {R : List Bool} {rc : Nat} {ka : Option Addr} {K : List Bool} {kc : Nat} (h : OpIn w B a c ra R rc ka K kc) : K.length ≤ 140737488351232 := Nat.le_trans h.klen.1 h.klen.2

structure RestA (D : Dk) (ev : Int) (l : KV) (T M : Int) : Prop where
 armed : D.Armed 62
 row : D.row = []
 law : ∃ Y τ, LawD Y τ D.S ∧ τ ≤ Y.h.turn + 1 ∧ Y.h.area = 30 ∧ SaysS Y.parts ev l ∧ Y.h.turn ≤ T ∧ Y.h.number + Y.parts.length ≤ M

theorem crash_calm3 (D : Dk) (keep : List Bool) (hl : D.arr.length = 62) : (D.crash keep).Armed 62 ∧ (D.crash keep).row = [] ∧ (D.crash keep).arm = -1 := ⟨⟨rfl, rfl, by simp [Dk.crash, Dk.arrive]; exact hl⟩, rfl, rfl⟩

theorem ShakyN.rest {D : Dk} {P1 P2 : List (List Int)} {T M : Int} (h : ShakyN 62 30 D P1 P2 T M) (keep : List Bool) : ∃ P, (P = P1 ∨ P = P2) ∧ ∀ ev l, SaysS P ev l → RestA (D.crash keep) ev l T M := by
 obtain ⟨Y, τ, h1, h2, h3, h4, h5, h6⟩ := h.2 keep
 obtain ⟨c1, c2, _⟩ := crash_calm3 D keep h.1
 exact ⟨Y.parts, h4, fun ev l hs => ⟨c1, c2, Y, τ, h1, h2, h3, hs, h5, h6⟩⟩

theorem doArm_same {D : Dk} (h : D.dead = false) (m : Int) : D.doArm m = { D with arm := max m (-1) } := by
 unfold Dk.doArm
 rw [h]
 rfl
theorem RestA.arm {D : Dk} {ev : Int} {l : KV} {T M : Int} (h : RestA D ev l T M) (m : Int) : RestA (D.doArm m) ev l T M := by
 rw [doArm_same h.armed.dead]
 exact ⟨⟨h.armed.dead, h.armed.fail, h.armed.len⟩, h.row, h.law⟩
theorem RestA.mono {D : Dk} {ev : Int} {l : KV} {T T' M : Int} (h : RestA D ev l T M) (hT : T ≤ T') : RestA D ev l T' M := by
 obtain ⟨Y, τ, h1, h2, h3, h4, h5, h6⟩ := h.law
 exact ⟨h.armed, h.row, Y, τ, h1, h2, h3, h4, by omega, h6⟩

theorem RestA.opens {D : Dk} {ev : Int} {l : KV} {T M : Int} {K : Nat} (h : RestA D ev l T M) (hok : D.Ok K) (hT : T < 1073741824) :
  (∃ Y, (openD D).1 = some Y ∧ SaysS Y.parts ev l ∧ RestA (openD D).2.2 ev l (T + 1) M) ∨ ((openD D).1 = none ∧ (openD D).2.1 = 9 ∧ D.arm ≠ -1 ∧ ∀ keep, RestA ((openD D).2.2.crash keep) ev l (T + 1) M ∧ ((openD D).2.2.crash keep).arm = -1) := by
 obtain ⟨Y, τ, h1, h2, h3, h4, h5, h6⟩ := h.law
 obtain ⟨D2, a1, a2, a3⟩ := openD_armed h1 h.armed hok (by omega) (by omega) h2
 have hbd : ∀ x ∈ raw [headSc Y.on.h], 0 ≤ x.1 ∧ x.1 < (62 : Nat) := headSc_bound (by omega)
 have hlen2 : D2.arr.length = 62 := a1.len
 rcases a3 with ⟨e1, e2, e3⟩ | ⟨e1, e2⟩
 ·left
  rw [e2]
  obtain ⟨s1, r1, d1⟩ := lays_done _ _ e1
  refine ⟨Y.on, rfl, h4, e3, r1, Y.on, Y.h.turn + 1, (h1.opened (by omega) h2).congr (fun i g1 g2 => ?_), by show Y.h.turn + 1 ≤ Y.h.turn + 1 + 1; omega, h3, h4, by show Y.h.turn + 1 ≤ T + 1; omega, h6⟩
  have g2' : i < 2 + 2 * Y.h.area := g2
  show (D2.lays (raw [headSc Y.on.h])).S i = _
  rw [s1 i g1 (by omega), a2.S]
  rfl
 ·right
  rw [e2]
  refine ⟨rfl, rfl, fun ha => ?_, fun keep => ?_⟩
  ·have hg : D.Good 62 := ⟨h.armed.dead, ha, h.armed.fail, h.armed.len⟩
   obtain ⟨D', f1, _⟩ := openD_law h1 hg hok (by omega) (by omega) h2
   rw [f1] at e2
   cases e2
  ·have hv : (D2.lays (raw [headSc Y.on.h])).Vers D2.S (raw [headSc Y.on.h]) := Dk.Vers.lays _ (Dk.Vers.start (a2.2.trans h.row) _) (fun x hx => ⟨hx, (hbd x hx).1⟩)
   have hlen : (D2.lays (raw [headSc Y.on.h])).arr.length = 62 := by rw [lays_len]; exact hlen2
   have hm := mix_crashN (A := 30) (N := 62) (by omega) hv hlen keep
   rw [a2.S, ← h3] at hm
   obtain ⟨c1, c2, c3⟩ := crash_calm3 (D2.lays (raw [headSc Y.on.h])) keep hlen
   refine ⟨⟨c1, c2, ?_⟩, c3⟩
   rcases h1.crash_open (by omega) h2 hm with q | q
   ·exact ⟨Y, τ, q, h2, h3, h4, by omega, h6⟩
   ·exact ⟨Y.on, Y.h.turn + 1, q, by show Y.h.turn + 1 ≤ Y.h.turn + 1 + 1; omega, h3, h4, by show Y.h.turn + 1 ≤ T + 1; omega, h6⟩

structure FdAt (w0 ws : World) (F0 : Nat → Prop) (p K : Nat) (ev : Int) (l : KV) (T M : Int) (i : Nat) (W : World) : Prop where
 out : ∃ D F, Dsk W p D F ∧ D.Ok (K + 2000000 * i) ∧ RestA D ev l (T + i) M ∧ D.arm = -1 ∧ (∀ k, F k → w0.heap.size ≤ k) ∧ ∀ k, F k → F0 k ∨ ws.heap.size ≤ k
 upd : Upd (fun _ => False) w0 W
 upd2 : Upd F0 ws W

def RegTold (W : World) (r : Nat) (ev : Int) (l : KV) : Prop := ∃ lg b n C area, RegAt W r lg ev (.map (some b)) area ∧ MapKV W b n C l ∧ l.Fine

theorem RestA.ropen {w0 W : World} {p K : Nat} {ev : Int} {l : KV} {T M : Int} {D : Dk} {F : Nat → Prop} (hd : Dsk W p D F) (hok : D.Ok K) (hK : K ≤ 100000000) (h : RestA D ev l T M) (hT : T < 1073741824) (hF : ∀ k, F k → w0.heap.size ≤ k) (hu : Upd (fun _ => False) w0 W) :
  Calls Tryz.prog 35 #[.pointer (some ⟨p, 0, none⟩)] W fun e W' => ∃ D' F', Dsk W' p D' F' ∧ D'.Ok (K + 1002000) ∧ (∀ k, F' k → w0.heap.size ≤ k) ∧ Upd (fun _ => False) w0 W' ∧ (Upd F W W' ∧ ∀ k, F' k → F k ∨ W.heap.size ≤ k) ∧
   ((∃ r, e = .returned (.tuple #[.pointer (some ⟨r, 0, none⟩), .int .i64 0]) ∧ RegTold W' r ev l ∧ RestA D' ev l (T + 1) M) ∨
    (e = .returned (.tuple #[.pointer none, .int .i64 9]) ∧ D.arm ≠ -1 ∧ ∀ keep, RestA (D'.crash keep) ev l (T + 1) M ∧ (D'.crash keep).arm = -1)) := by
 refine (ropen_any W hd hok (by omega)).mono ?_
 rintro e W' ⟨F', h1, h2, h3, h4, h5⟩
 have hsz := hu.size
 refine ⟨_, F', h1, h4, fun k hk => ?_, hu.step h3 (fun k hk e => by have := hF k e; omega), ⟨h3, h2⟩, ?_⟩
 ·rcases h2 k hk with q | q
  ·exact hF k q
  ·omega
 rcases h.opens hok hT with ⟨Y, g1, g2, g3⟩ | ⟨g1, g2, g4, g3⟩
 ·rw [g1] at h5
  obtain ⟨k1, k2, p0, txs, k3, k4⟩ := h5
  obtain ⟨p0', txs', q1, q2⟩ := g2
  rw [k3] at q1
  injection q1 with q1 q1'
  subst q1 q1'
  rcases k4 with ⟨k5, _⟩ | ⟨_, r, q, b, n, C, G', k6, k7, k8, _⟩
  ·rw [q2] at k5; cases k5
  ·rw [q2] at k7 k8
   exact .inl ⟨r, k6, ⟨_, b, n, C, _, k7.reg, k7.map, k8⟩, g3⟩
 ·rw [g1] at h5
  have h5' : e = .returned (.tuple #[.pointer none, .int .i64 (openD D).2.1]) := h5
  rw [g2] at h5'
  exact .inr ⟨h5', g4, g3⟩

set_option maxHeartbeats 8000000 in
theorem found_run {w0 : World} {F0 : Nat → Prop} {la : Option Addr} {ln lc p K : Nat} {ev : Int} {l : KV} {T M : Int} (w : World) (hops : OpsIn w0 la ln) (hl : ln ≤ lc) (hc : lc ≤ maxLen) (hf : FdAt w0 w F0 p K ev l T M 0 w) (hK : K ≤ 50000000) (hT : T ≤ 1000000) :
  Calls Tryz.prog 40 #[.pointer (some ⟨p, 0, none⟩), .slice la ln lc] w fun e w' => ∃ r, e = .returned (.pointer (some ⟨r, 0, none⟩)) ∧ RegTold w' r ev l ∧ Upd (fun _ => False) w0 w' ∧ Upd F0 w w' := by
 have HO := Lib.hid hops; have HL := Lib.hid hl; have HC := Lib.hid hc; have HF := Lib.hid hf; have HK := Lib.hid hK; have HT := Lib.hid hT
 have hmx : maxLen = 9223372036854775807 := rfl
 clear hops hl hc hf hK hT
 go_enter Tryz.func40, Tryz.ntmps40
 go_upto_block 0 with fail
 go_upto_region 2 with fail
 go_loopg [13] ln (fun gk i wr => ∃ k : Nat, k ≤ ln ∧ k ≤ 4 ∧ gk = ln - k ∧ i = .int .i64 k ∧ FdAt w0 w F0 p K ev l T M k wr)
 case atStart => exact ⟨0, Nat.zero_le _, Nat.zero_le _, rfl, rfl, HF.out⟩
 case round =>
  obtain ⟨k, hk, hk4, rfl, rfl, hfa⟩ := hrel
  have HFA := Lib.hid hfa
  clear hfa
  by_cases hkn : k < ln
  ·have hkni : (k : Int) < ln := by omega
   obtain ⟨b, o, kd, on, B, a, c, ra, R, rc, ka, KK, kc, rfl, hin, hcell⟩ := HO.out k hkn
   have kc0 : ∀ {ad : Addr} {v : Value}, w0.cell? ad = some v → wr.cell? ad = some v := fun h => cell_keptF HFA.out.upd (fun e => e) h
   have q0 := hcell 0 (by omega); have q1 := hcell 1 (by omega); have q2 := hcell 2 (by omega); have q3 := hcell 3 (by omega); have q4 := hcell 4 (by omega); have q5 := hcell 5 (by omega); have q6 := hcell 6 (by omega)
   simp only [opC, ← Nat.add_assoc, Nat.add_zero] at q0 q1 q2 q3 q4 q5 q6
   simp at q0 q1 q2 q3 q4 q5 q6
   replace q0 := kc0 q0; replace q1 := kc0 q1; replace q2 := kc0 q2; replace q3 := kc0 q3; replace q4 := kc0 q4; replace q5 := kc0 q5; replace q6 := kc0 q6
   have HIN0 := Lib.hid hin
   clear hin hcell kc0
   go_upto_region 4 with fail
   by_cases h44 : k = 4
   ·have h44i : (k : Int) = 4 := by omega
    have h44b : ((k : Int) == 4) = true := by simp [h44]
    clear h44
    go_upto_region 12 with fail
    have hu9 : Upd (fun _ => False) wr (wr.alloc (.cells #[.int .i64 kd, .int .i64 on, .int .u64 B.epoch, .bool B.large, .slice a B.sets.length c, .slice ra R.length rc, .slice ka KK.length kc] 58)) := (Upd.refl _ wr).alloc _
    obtain ⟨D9, F9, d1, d2, d3, d4, d5, d6⟩ := HFA.out.out
    have HUU := Lib.hid (HFA.out.upd2.trans (hu9.mono (F := fun _ => False) (fun _ _ e => e.elim))); have HF6 := Lib.hid d6
    have hro := RestA.ropen (w0 := w0) (d1.kept hu9 (fun _ _ e => e)) d2 (by have := HK.out; omega) d3 (by have := HT.out; omega) d5 (HFA.out.upd.trans hu9)
    have HRO := Lib.hid hro; have HARM := Lib.hid d4
    clear d1 d2 d3 d4 d5 d6 hro
    go_wp2_with (go_at_call 35; fail)
    refine HRO.out.mono ?_
    rintro e wy ⟨D8, F8, k1, k2, k3, k4, k44, k5⟩
    rcases k5 with ⟨r9, rfl, h1, h2⟩ | ⟨_, h1, _⟩
    ·have HU := Lib.hid k4; have HR := Lib.hid h1; have HUV := Lib.hid (HUU.out.step k44.1 (fun k hk e => (HF6.out k e).resolve_right (by omega)))
     clear k1 k2 k3 k4 k44 h1 h2
     simp only []
     go_wp2
     go_ret
     exact ⟨r9, rfl, HR.out, HU.out, HUV.out⟩
    ·exact absurd HARM.out h1
   ·have h44i : ¬ (k : Int) = 4 := by omega
    have h44b : ((k : Int) == 4) = false := by simpa using h44i
    obtain ⟨wa, hwa⟩ : ∃ wa, wa = wr.alloc (.cells #[.int .i64 kd, .int .i64 on, .int .u64 B.epoch, .bool B.large, .slice a B.sets.length c, .slice ra R.length rc, .slice ka KK.length kc] 58) := ⟨_, rfl⟩
    refine (?_ : Code.wp _ _ _ _ (wr.alloc (.cells #[.int .i64 kd, .int .i64 on, .int .u64 B.epoch, .bool B.large, .slice a B.sets.length c, .slice ra R.length rc, .slice ka KK.length kc] 58)))
    rw [← hwa]
    have hua : Upd (fun _ => False) wr wa := by rw [hwa]; exact (Upd.refl _ wr).alloc _
    have hxa : wa.heap[wr.heap.size]? = some (.cells #[.int .i64 kd, .int .i64 on, .int .u64 B.epoch, .bool B.large, .slice a B.sets.length c, .slice ra R.length rc, .slice ka KK.length kc] 58 (0, 0)) := by rw [hwa]; exact alloc_at rfl
    obtain ⟨ob, hob⟩ : ∃ ob, ob = wr.heap.size := ⟨_, rfl⟩
    rw [← hob] at hxa ⊢
    obtain ⟨D, F, d1, d2, d3, d4, d5, d6⟩ := HFA.out.out
    have HFC := Lib.hid d6; have HUC := Lib.hid (HFA.out.upd2.trans (hua.mono (F := fun _ => False) (fun _ _ e => e.elim)))
    have d1a := d1.kept hua (fun _ _ e => e)
    have c1 : wa.cell? ⟨ob, 1, none⟩ = some (.int .i64 on) := by rw [cell_of_heap hxa]; rfl
    have HNF := Lib.hid (show ¬ F ob by intro e; have := d1.lt _ e; omega)
    have HXA := Lib.hid hxa; have HUA := Lib.hid (HFA.out.upd.trans hua); have HD := Lib.hid d1a; have HOK := Lib.hid d2; have HRA := Lib.hid d3; have HFB := Lib.hid d5; have HUA0 := Lib.hid (show w0.heap.size ≤ ob by rw [hob]; exact HFA.out.upd.size)
    clear hwa hua hxa hob d1 d2 d3 d4 d5 d6 d1a q0 q1 q2 q3 q4 q5 q6 HFA
    obtain ⟨m, hm1, hm2⟩ : ∃ m : Int, wrap64 ((IntKind.u64.wrap on).tmod 12) = m ∧ 0 ≤ m ∧ m ≤ 11 := by
     have h0 : 0 ≤ IntKind.u64.wrap on := by rw [IntKind.wrap_u64]; omega
     rw [Int.tmod_eq_emod_of_nonneg h0]
     have h1 := Int.emod_nonneg (IntKind.u64.wrap on) (b := 12) (by decide)
     have h2 := Int.emod_lt_of_pos (IntKind.u64.wrap on) (b := 12) (by decide)
     exact ⟨_, IntWalk.wrap64_in _ (by omega), by omega, by omega⟩
    have HM1 := Lib.hid hm1; have HM2 := Lib.hid hm2
    clear hm1 hm2
    go_wp2_with (go_at_call 39; fail)
    rw [HM1.out]
    refine (doArm_any m wa HD.out).mono ?_
    rintro e wb ⟨rfl, hdb, hub⟩
    have hpF : ∀ k, k = p → F k := fun k e => by rw [e]; exact HD.out.mem
    have HUC2 := Lib.hid (HUC.out.step hub (fun k hk e => (HFC.out k (hpF k e)).resolve_right (by omega)))
    have hub0 := HUA.out.step hub (fun k hk e => by have := HFB.out k (hpF k e); omega)
    have hokb : (D.doArm m).Ok (K + 2000000 * k) := by
     rw [doArm_same HRA.out.armed.dead]
     have h := HOK.out
     have h2 := HM2.out
     exact ⟨h.len, h.blks, h.rblks, h.sorted, h.sent, h.ops, by show -1 ≤ max m (-1) ∧ max m (-1) ≤ 9223372036854775807; omega, h.fail, h.rowlen⟩
    have hxb := (hub.block _ (lt_of_heap HXA.out) (fun e => HNF.out (hpF _ e))).trans HXA.out
    have hro := RestA.ropen (w0 := w0) hdb hokb (by have := HK.out; omega) (HRA.out.arm m) (by have := HT.out; omega) HFB.out hub0
    have HRO := Lib.hid hro; have HXB := Lib.hid hxb
    have HINB := Lib.hid (HIN0.out.kept hub0)
    clear hdb hub hpF hub0 hokb hxb hro HD HOK HRA HXA HM1 c1
    simp only []
    go_wp2_with (go_at_call 35; fail)
    refine HRO.out.mono ?_
    rintro e wc ⟨D8, F8, k1, k2, k3, k4, k44, k5⟩
    have HUC3 := Lib.hid (HUC2.out.step k44.1 (fun k hk e => (HFC.out k e).resolve_right (by omega)))
    have HF8C := Lib.hid (show ∀ k, F8 k → F0 k ∨ w.heap.size ≤ k from fun k hk => (k44.2 k hk).elim (HFC.out k) (fun e => .inr (by have := HUC2.out.size; omega)))
    rcases k5 with ⟨r9, rfl, h1, h2⟩ | ⟨rfl, _, h1⟩
    ·have HD8 := Lib.hid k1; have HOK8 := Lib.hid k2; have HF8 := Lib.hid k3; have HU8 := Lib.hid k4; have HR8 := Lib.hid h2
     clear k1 k2 k3 k4 k44 h1 h2 HRO
     simp only []
     go_wp2_with (go_at_call 39; fail)
     refine (doArm_any (-1) wc HD8.out).mono ?_
     rintro e wd ⟨rfl, hdd, hud⟩
     have hpF : ∀ k, k = p → F8 k := fun k e => by rw [e]; exact HD8.out.mem
     have HUZ := Lib.hid (HU8.out.step hud (fun k hk e => by have := HF8.out k (hpF k e); omega))
     have hokz : (D8.doArm (-1)).Ok (K + 2000000 * k + 1002000) := by
      rw [doArm_same HR8.out.armed.dead]
      have h := HOK8.out
      exact ⟨h.len, h.blks, h.rblks, h.sorted, h.sent, h.ops, by show -1 ≤ max (-1) (-1 : Int) ∧ max (-1) (-1 : Int) ≤ 9223372036854775807; omega, h.fail, h.rowlen⟩
     have HUU := Lib.hid (HUC3.out.step hud (fun k hk e => (HF8C.out k (hpF k e)).resolve_right (by omega))); have HF6 := HF8C
     have HDZ := Lib.hid hdd; have HOKZ := Lib.hid hokz; have HRZ := Lib.hid (HR8.out.arm (-1)); have HFZ := HF8
     have HARMZ := Lib.hid (show (D8.doArm (-1)).arm = -1 by rw [doArm_same HR8.out.armed.dead]; show max (-1) (-1 : Int) = -1; omega)
     clear hdd hud hpF hokz
     simp only []
     go_upto_region 12 with fail
     have hro := RestA.ropen (w0 := w0) HDZ.out HOKZ.out (by have := HK.out; omega) HRZ.out (by have := HT.out; omega) HFZ.out HUZ.out
     have HRO := Lib.hid hro
     clear hro
     go_wp2_with (go_at_call 35; fail)
     refine HRO.out.mono ?_
     rintro e wy ⟨D8, F8, k1, k2, k3, k4, k44, k5⟩
     rcases k5 with ⟨r9, rfl, h1, h2⟩ | ⟨_, h1, _⟩
     ·have HU := Lib.hid k4; have HR := Lib.hid h1; have HUV := Lib.hid (HUU.out.step k44.1 (fun k hk e => (HF6.out k e).resolve_right (by omega)))
      clear k1 k2 k3 k4 k44 h1 h2
      simp only []
      go_wp2
      go_ret
      exact ⟨r9, rfl, HR.out, HU.out, HUV.out⟩
     ·exact absurd HARMZ.out h1
    ·have hu9 : Upd (fun _ => False) wc (wc.alloc (.cells #[] 4)) := (Upd.refl _ wc).alloc _
     have hg9 : (wc.alloc (.cells #[] 4)).heap[wc.heap.size]? = some (.cells #[] 4 (0, 0)) := alloc_at rfl
     have hxc := (hu9.block _ (lt_of_heap ((k44.1.block _ (lt_of_heap HXB.out) HNF.out).trans HXB.out)) (fun e => e)).trans ((k44.1.block _ (lt_of_heap HXB.out) HNF.out).trans HXB.out)
     have c6 : (wc.alloc (.cells #[] 4)).cell? ⟨ob, 6, none⟩ = some (.slice ka KK.length kc) := by rw [cell_of_heap hxc]; rfl
     have hkc : BoolsIn (wc.alloc (.cells #[] 4)) ka KK := HIN0.out.keep.kept (k4.trans hu9)
     have HD8 := Lib.hid k1; have HOK8 := Lib.hid k2; have HF8 := Lib.hid k3; have HU8 := Lib.hid k4; have HR8 := Lib.hid h1; have HKC := Lib.hid hkc; have HG9 := Lib.hid hg9; have HU9 := Lib.hid hu9
     clear k1 k2 k3 k4 k44 h1 HRO hxc hkc hg9 hu9
     simp only []
     go_upto_region 9 with fail
     iterate 13 go_step
     refine wpList_keeps rfl (.tmp 37) (.tmp 39) rfl rfl rfl HG9.out HKC.out HIN0.out.klen' (fun a9 c9 wd hb9 hu9 => ?_)
     have hd9 := HD8.out.kept (HU9.out.mono (F := fun _ => False) (G := fun k => wc.heap.size ≤ k) (fun _ _ e => e.elim)) (fun k hk e => by have := HD8.out.lt k hk; omega)
     have hd9' := hd9.kept hu9 (fun k hk e => by have := HD8.out.lt k hk; omega)
     have hcr := crash_anyW (kc := c9) wd a9 KK hb9 (Nat.le_trans HIN0.out.klen' (by omega)) hd9' (HOK8.out.mono (by have := HK.out; omega))
     have HCR := Lib.hid hcr; have HUD := Lib.hid ((HU8.out.trans HU9.out).step hu9 (fun k hk e => by have := HU8.out.size; omega)); have HUD2 := Lib.hid ((HUC3.out.trans (HU9.out.mono (F := fun _ => False) (fun _ _ e => e.elim))).step hu9 (fun k hk e => by have := HUC3.out.size; omega))
     clear hd9 hd9' hcr hb9 hu9
     have hcv2 : IntKind.i64.wrap ((k : Int) + 1) = (k : Int) + 1 := by rw [IntKind.wrap_i64]; omega
     go_wp2_with (go_at_call 16; fail)
     refine HCR.out.mono ?_
     rintro e we ⟨rfl, F9, g1, g2, g3⟩
     have hF9 : ∀ j, F9 j → w0.heap.size ≤ j := fun j hj => by
      rcases g2 j hj with q | q
      ·exact HF8.out j q
      ·have := HUD.out.size; omega
     have hst : FdAt w0 w F0 p K ev l T M (k + 1) we := ⟨⟨_, F9, g1, Dk.Ok.mono (HOK8.out.crash KK) (by omega), RestA.mono (HR8.out KK).1 (by omega), (HR8.out KK).2, hF9, fun j hj => (g2 j hj).elim (HF8C.out j) (fun e => .inr (by have := HUD2.out.size; omega))⟩, HUD.out.step g3 (fun j hj e => by have := HF8.out j e; omega), HUD2.out.step g3 (fun j hj e => (HF8C.out j e).resolve_right (by omega))⟩
     have HST := Lib.hid hst
     clear g1 g2 g3 hF9 hst
     simp only []
     go_wp2
     go_roundg (ln - (k + 1))
     case measure => omega
     case rel => exact ⟨k + 1, by omega, by omega, rfl, by go_num, HST.out⟩
  ·obtain rfl : ln = k := by omega
   go_upto_region 12 with fail
   obtain ⟨D9, F9, d1, d2, d3, d4, d5, d6⟩ := HFA.out.out
   have HUU := Lib.hid HFA.out.upd2; have HF6 := Lib.hid d6
   have hro := RestA.ropen (w0 := w0) d1 d2 (by have := HK.out; omega) d3 (by have := HT.out; omega) d5 HFA.out.upd
   have HRO := Lib.hid hro; have HARM := Lib.hid d4
   clear d1 d2 d3 d4 d5 d6 hro
   go_wp2_with (go_at_call 35; fail)
   refine HRO.out.mono ?_
   rintro e wy ⟨D8, F8, k1, k2, k3, k4, k44, k5⟩
   rcases k5 with ⟨r9, rfl, h1, h2⟩ | ⟨_, h1, _⟩
   ·have HU := Lib.hid k4; have HR := Lib.hid h1; have HUV := Lib.hid (HUU.out.step k44.1 (fun k hk e => (HF6.out k e).resolve_right (by omega)))
    clear k1 k2 k3 k4 k44 h1 h2
    simp only []
    go_wp2
    go_ret
    exact ⟨r9, rfl, HR.out, HU.out, HUV.out⟩
   ·exact absurd HARM.out h1
end Go.Proofs.YtbimkhdiplnbfaaGreat
end

section
namespace Go.Proofs.YtbimkhdiplnbfaaGreat
set_option maxRecDepth 100000
open Go.RowKit Go.Shelf

structure RgXH (X : Lg) (H : Nat → Prop) (w0 W : World) (p r N : Nat) (area : Int) (t : Nat) (ev : Int) (l : KV) : Prop where
 out : ∃ (q b n : Nat) (C : Nat → Prop) (D : Dk) (G F : Nat → Prop) (τ : Int), RegG W r q p ev b n C l area X D G F N (20000 + 2000 * t) τ ∧ D.row = [] ∧ τ ≤ X.h.turn ∧ X.h.turn ≤ 1 + t ∧ X.h.number + X.parts.length ≤ 2 + t ∧ n ≤ 48 * t ∧
  (∀ k, G k → w0.heap.size ≤ k) ∧ (∀ k, F k → w0.heap.size ≤ k) ∧ (∀ k, C k → w0.heap.size ≤ k) ∧ w0.heap.size ≤ b ∧ w0.heap.size ≤ r ∧ (∀ k, G k → H k) ∧ (∀ k, F k → H k) ∧ H r ∧ (∀ k, C k → H k) ∧ H b
 upd : Upd (fun _ => False) w0 W

theorem RgXH.rgx {X : Lg} {H : Nat → Prop} {w0 W : World} {p r N t : Nat} {area ev : Int} {l : KV} (h : RgXH X H w0 W p r N area t ev l) : RgX X w0 W p r N area t ev l := by
 obtain ⟨⟨q, b, n, C, D, G, F, τ, h1, h2, h3, h4, h5, h6, h7, h8, h9, h10, h11, _⟩, hu⟩ := h
 exact ⟨⟨q, b, n, C, D, G, F, τ, h1, h2, h3, h4, h5, h6, h7, h8, h9, h10, h11⟩, hu⟩
theorem RgXH.rgc {X : Lg} {H : Nat → Prop} {w0 W : World} {p r N t : Nat} {area ev : Int} {l : KV} (h : RgXH X H w0 W p r N area t ev l) : RgC w0 W p r N area t ev l := by
 obtain ⟨⟨q, b, n, C, D, G, F, τ, h1, h2, h3, h4, h5, h6, h7, h8, h9, h10, h11, _⟩, hu⟩ := h
 exact ⟨⟨q, b, n, C, X, D, G, F, τ, h1, by omega, h4, h5, h6, h7, h8, h9, h10, h11⟩, hu⟩
theorem RgR.holdX {w0 W : World} {p r N t : Nat} {area ev : Int} {l : KV} (h : RgR w0 W p r N area t ev l) : ∃ X, RgXH X (fun k => k < W.heap.size) w0 W p r N area t ev l := by
 obtain ⟨⟨q, b, n, C, X, D, G, F, τ, h1, h2, h3, h4, h5, h6, h7, h8, h9, h10, h11⟩, hu⟩ := h
 have hlt := h1.mem.lt
 exact ⟨X, ⟨q, b, n, C, D, G, F, τ, h1, h2, h3, h4, h5, h6, h7, h8, h9, h10, h11, hlt.2.2.2.1, hlt.2.2.2.2, hlt.1, hlt.2.2.1, hlt.2.1⟩, hu⟩
theorem RgXH.kept0 {X : Lg} {H : Nat → Prop} {w0 W W' : World} {p r N t : Nat} {area ev : Int} {l : KV} (h : RgXH X H w0 W p r N area t ev l) (hu : Upd (fun _ => False) W W') : RgXH X H w0 W' p r N area t ev l := by
 obtain ⟨⟨q, b, n, C, D, G, F, τ, h1, h2⟩, h3⟩ := h
 exact ⟨⟨q, b, n, C, D, G, F, τ, h1.kept0 hu, h2⟩, h3.trans hu⟩
theorem RgXH.mono {X : Lg} {H H' : Nat → Prop} {w0 W : World} {p r N t : Nat} {area ev : Int} {l : KV} (h : RgXH X H w0 W p r N area t ev l) (hH : ∀ k, H k → k < W.heap.size → H' k) : RgXH X H' w0 W p r N area t ev l := by
 obtain ⟨⟨q, b, n, C, D, G, F, τ, h1, h2, h3, h4, h5, h6, h7, h8, h9, h10, h11, h12, h13, h14, h15, h16⟩, hu⟩ := h
 have hlt := h1.mem.lt
 exact ⟨⟨q, b, n, C, D, G, F, τ, h1, h2, h3, h4, h5, h6, h7, h8, h9, h10, h11, fun k hk => hH k (h12 k hk) (hlt.2.2.2.1 k hk), fun k hk => hH k (h13 k hk) (hlt.2.2.2.2 k hk), hH r h14 hlt.1, fun k hk => hH k (h15 k hk) (hlt.2.2.1 k hk), hH b h16 hlt.2.1⟩, hu⟩

theorem RgXH.keptH {X : Lg} {H Z : Nat → Prop} {w0 W W' : World} {p r N t : Nat} {area ev : Int} {l : KV} (h : RgXH X H w0 W p r N area t ev l) (hu2 : Upd Z W W') (hz : ∀ k, Z k → ¬ H k ∧ w0.heap.size ≤ k) : RgXH X H w0 W' p r N area t ev l := by
 obtain ⟨⟨q, b, n, C, D, G, F, τ, h1, h2, h3, h4, h5, h6, h7, h8, h9, h10, h11, h12, h13, h14, h15, h16⟩, hu⟩ := h
 have hG : ∀ k, G k → ¬ Z k := fun k hk e => (hz k e).1 (h12 k hk)
 have hF : ∀ k, F k → ¬ Z k := fun k hk e => (hz k e).1 (h13 k hk)
 have hmem : RegMem W' r q p ev b n C l area X D G F := ⟨(hu2.block _ (lt_of_heap h1.mem.reg) (fun e => (hz _ e).1 h14)).trans h1.mem.reg, h1.mem.map.kept hu2 (fun e => (hz _ e).1 h16) (fun k hk e => (hz k e).1 (h15 k hk)), ⟨h1.mem.wal.1.kept hu2 hG, h1.mem.wal.2.1.kept hu2 hF, h1.mem.wal.2.2⟩, h1.mem.nr, h1.mem.nb, h1.mem.nC⟩
 exact ⟨⟨q, b, n, C, D, G, F, τ, ⟨hmem, h1.good.kept hu2 hG hF, h1.law, h1.fine, h1.hev, h1.har, h1.says⟩, h2, h3, h4, h5, h6, h7, h8, h9, h10, h11, h12, h13, h14, h15, h16⟩, hu.step hu2 (fun k hk e => by have := (hz k e).2; omega)⟩

theorem RgXH.commit {X : Lg} {H : Nat → Prop} {w0 W : World} {p r N t c : Nat} {area ev : Int} {l : KV} {a : Option Addr} {B : BatchV} (h : RgXH X H w0 W p r N area t ev l) (ht : t ≤ 900) (hs : SetsIn W a B.sets) (hsl : B.sets.length ≤ 900) (hk : B.Ok) (hal : ∀ b o, a = some ⟨b, o, none⟩ → b < W.heap.size) :
  Calls Tryz.prog 31 #[.pointer (some ⟨r, 0, none⟩), batchV B a c] W fun e W' => ∃ E ev' l' X', e = .returned (.int .i64 E) ∧ RgXH X' (fun k => H k ∨ W.heap.size ≤ k) w0 W' p r N area (t + 1) ev' l' ∧ ev ≤ ev' ∧ Upd H W W' := by
 obtain ⟨⟨q, b, n, C, D, G, F, τ, h1, h2, h3, h4, h5, h6, h7, h8, h9, h10, h11, h12, h13, h14, h15, h16⟩, hu⟩ := h
 have hnum := h1.good.ok.number
 refine (commit_row (c := c) W h1 h3 h2 (by omega) (by omega) (by omega) (by omega) (by omega) hs hsl hk hal).mono ?_
 rintro e W' ⟨rfl, ev', b', n', C', l', X', D', G', F', τ', k1, k2, k3, k4, ⟨k5, k55⟩, k6, k7, k8, k9, k10, k11, k12, k13⟩
 have hsz := hu.size
 refine ⟨_, ev', l', X', rfl, ⟨⟨q, b', n', C', D', G', F', τ', by rw [show 20000 + 2000 * (t + 1) = 20000 + 2000 * t + 2000 by omega]; exact k1, k55, k5, by omega, by omega, by omega, fun k hk => ?_, fun k hk => ?_, fun k hk => ?_, ?_, h11, fun k hk => ?_, fun k hk => ?_, .inl h14, fun k hk => (k10 k hk).imp_left (h15 k), ?_⟩, hu.step k13 (fun k hk e => ?_)⟩, ?_, k13.mono (fun k hk e => ?_)⟩
 ·rcases k11 k hk with e | e
  ·exact h7 k e
  ·omega
 ·rcases k12 k hk with e | e
  ·exact h8 k e
  ·omega
 ·rcases k10 k hk with e | e
  ·exact h9 k e
  ·omega
 ·rcases k9 with e | e
  ·rw [e]; exact h10
  ·omega
 ·rcases k11 k hk with e | e
  ·exact .inl (h12 k e)
  ·exact .inr e
 ·rcases k12 k hk with e | e
  ·exact .inl (h13 k e)
  ·exact .inr e
 ·rcases k9 with e | e
  ·rw [e]; exact .inl h16
  ·exact .inr e
 ·rcases e with e | e | e
  ·have := h7 k e; omega
  ·have := h8 k e; omega
  ·omega
 ·by_cases h0 : goodE ev area l X B = 0
  ·rw [(k2 h0).1]; exact goodE_epoch h0
  ·rw [(k3 h0).1]; exact Int.le_refl _
 ·rcases e with e | e | e
  ·exact h12 k e
  ·exact h13 k e
  ·rw [e]; exact h14

theorem RgT.commit2 {X : Lg} {w0 W0 W : World} {p r N t c : Nat} {area ev : Int} {l : KV} {a : Option Addr} {B : BatchV} (h : RgT X w0 W0 p r N area t ev l) (hW : Upd (fun _ => False) W0 W) (ht : t ≤ 900) (hs : SetsIn W a B.sets) (hsl : B.sets.length ≤ 900) (hk : B.Ok) (hal : ∀ b o, a = some ⟨b, o, none⟩ → b < W.heap.size) :
  Calls Tryz.prog 31 #[.pointer (some ⟨r, 0, none⟩), batchV B a c] W fun e W' => ∃ ev' l', e = .returned (.int .i64 (goodE ev area l X B)) ∧ RgC w0 W' p r N area (t + 1) ev' l' ∧ (goodE ev area l X B = 0 → ev' = B.epoch ∧ l' = l.withs B.sets) ∧ (goodE ev area l X B ≠ 0 → ev' = ev ∧ l' = l) ∧ Upd (fun k => w0.heap.size ≤ k ∧ k < W0.heap.size) W W' := by
 obtain ⟨⟨q, b, n, C, D, G, F, τ, h0, h2, h3, h4, h5, h6, h7, h8, h9, h10⟩, hu0⟩ := h
 have hlt := h0.mem.lt
 have h1 := h0.kept0 hW
 have hu := hu0.trans hW
 have hnum := h1.good.ok.number
 refine (commit_good (c := c) W h1 h2 (by omega) (by omega) (by omega) (by omega) (by omega) hs hsl hk hal).mono ?_
 rintro e W' ⟨rfl, ev', b', n', C', l', X', D', G', F', τ', k1, k2, k3, k4, k5, k6, k7, k8, k9, k10, k11, k12, k13⟩
 have hsz := hu.size
 refine ⟨ev', l', rfl, ⟨⟨q, b', n', C', X', D', G', F', τ', by rw [show 20000 + 2000 * (t + 1) = 20000 + 2000 * t + 2000 by omega]; exact k1, k5, by omega, by omega, by omega, fun k hk => ?_, fun k hk => ?_, fun k hk => ?_, ?_, h10⟩, hu.step k13 (fun k hk e => ?_)⟩, k2, k3, k13.mono (fun k hk e => ?_)⟩
 ·rcases k11 k hk with e | e
  ·exact h6 k e
  ·omega
 ·rcases k12 k hk with e | e
  ·exact h7 k e
  ·omega
 ·rcases k10 k hk with e | e
  ·exact h8 k e
  ·omega
 ·rcases k9 with e | e
  ·rw [e]; exact h9
  ·omega
 ·rcases e with e | e | e
  ·have := h6 k e; omega
  ·have := h7 k e; omega
  ·omega
 ·rcases e with e | e | e
  ·exact ⟨h6 k e, hlt.2.2.2.1 k e⟩
  ·exact ⟨h7 k e, hlt.2.2.2.2 k e⟩
  ·rw [e]; exact ⟨h10, hlt.1⟩

structure RgLH (X : Lg) (H : Nat → Prop) (w0 W : World) (p r t : Nat) (ev : Int) (l : KV) : Prop where
 out : ∃ (q b n : Nat) (C : Nat → Prop) (D : Dk) (G F : Nat → Prop), RegL W r q p ev b n C l X D G F (20000 + 2000 * t) ∧ X.h.turn ≤ 1 + t ∧ X.h.number + X.parts.length ≤ 2 + t ∧ n ≤ 48 * t ∧
  (∀ k, G k → w0.heap.size ≤ k) ∧ (∀ k, F k → w0.heap.size ≤ k) ∧ w0.heap.size ≤ r ∧ (∀ k, G k → H k) ∧ (∀ k, F k → H k) ∧ H r
 upd : Upd (fun _ => False) w0 W

theorem RgXH.arm {X : Lg} {H : Nat → Prop} {w0 W : World} {p r t : Nat} {ev : Int} {l : KV} (h : RgXH X H w0 W p r 62 30 t ev l) (m : Int) (hm : 0 ≤ m ∧ m ≤ 1000) :
  Calls Tryz.prog 39 #[.pointer (some ⟨p, 0, none⟩), .int .i64 m] W fun e W' => (∃ x, e = .returned (.int .i64 x)) ∧ RgLH X H w0 W' p r t ev l ∧ Upd H W W' := by
 obtain ⟨⟨q, b, n, C, D, G, F, τ, h1, h2, h3, h4, h5, h6, h7, h8, h9, h10, h11, h12, h13, h14, h15, h16⟩, hu⟩ := h
 have hD := h1.mem.wal.2.1
 refine (doArm_any m W hD).mono ?_
 rintro e W' ⟨rfl, hd, hu2⟩
 have hp : F p := hD.mem
 have hG : ∀ k, G k → ¬ k = p := fun k hk e => h1.mem.wal.2.2 k hk (by rw [e]; exact hp)
 have hr : r ≠ p := fun e => h1.mem.nr.2 (by rw [e]; exact hp)
 have hb : b ≠ p := fun e => h1.mem.nb.2 (by rw [e]; exact hp)
 have hC : ∀ k, C k → ¬ k = p := fun k hk e => (h1.mem.nC k hk).2 (by rw [e]; exact hp)
 have hds := doArm_same h1.good.good.dead m
 have hmem : RegMem W' r q p ev b n C l 30 X (D.doArm m) G F := ⟨(hu2.block _ (lt_of_heap h1.mem.reg) hr).trans h1.mem.reg, h1.mem.map.kept hu2 hb hC, ⟨h1.mem.wal.1.kept hu2 hG, hd, h1.mem.wal.2.2⟩, h1.mem.nr, h1.mem.nb, h1.mem.nC⟩
 have hlive : LiveN 62 30 X (D.doArm m) := by
  rw [hds]
  refine ⟨h1.good.ok, h1.good.unbroken, ?_, h2, h1.good.good.dead, h1.good.good.len, by decide, h1.har.symm⟩
  exact h1.law.live h3
 have hok : (D.doArm m).Ok (20000 + 2000 * t) := by
  rw [hds]
  have h := h1.good.dok
  exact ⟨h.len, h.blks, h.rblks, h.sorted, h.sent, h.ops, by show -1 ≤ max m (-1) ∧ max m (-1) ≤ 9223372036854775807; omega, h.fail, h.rowlen⟩
 have harm : (D.doArm m).Armed 62 := by
  rw [hds]
  exact ⟨h1.good.good.dead, h1.good.good.fail, h1.good.good.len⟩
 refine ⟨⟨_, rfl⟩, ⟨⟨q, b, n, C, D.doArm m, G, F, ⟨hmem, hlive, harm, hok, h1.fine, h1.hev, h1.says⟩, h4, h5, h6, h7, h8, h11, h12, h13, h14⟩, hu.step hu2 (fun k hk e => by have := h8 k (by rw [e]; exact hp); omega)⟩, hu2.mono (fun k hk e => by rw [e]; exact h13 p hp)⟩
theorem RgLH.commit {X : Lg} {H : Nat → Prop} {w0 W : World} {p r t c : Nat} {ev : Int} {l : KV} {a : Option Addr} {B : BatchV} (h : RgLH X H w0 W p r t ev l) (ht : t ≤ 900) (hs : SetsIn W a B.sets) (hsl : B.sets.length ≤ 900) (hk : B.Ok) (hal : ∀ b o, a = some ⟨b, o, none⟩ → b < W.heap.size) :
  Calls Tryz.prog 31 #[.pointer (some ⟨r, 0, none⟩), batchV B a c] W fun e W' => ∃ E D' F' P1 P2, e = .returned (.int .i64 E) ∧ Dsk W' p D' F' ∧ D'.Ok (24000 + 2000 * t) ∧ (∀ k, F' k → w0.heap.size ≤ k) ∧ (∀ k, F' k → H k ∨ W.heap.size ≤ k) ∧ Upd (fun _ => False) w0 W' ∧ Upd H W W' ∧ ShakyN 62 30 D' P1 P2 (2 + t) (3 + t) ∧ LiveOut ev l X B E P1 P2 := by
 obtain ⟨⟨q, b, n, C, D, G, F, h1, h2, h3, h4, h5, h6, h7, h8, h9, h10⟩, hu⟩ := h
 have hnum := h1.live.ok.number
 refine (commit_live (c := c) W h1 (by omega) (by omega) (by omega) (by omega) (by omega) hs hsl hk hal).mono ?_
 rintro e W' ⟨E, D', F', P1, P2, rfl, k1, k2, k3, k4, k5, k6⟩
 have hsz := hu.size
 refine ⟨E, D', F', P1, P2, rfl, k1, k2.mono (by omega), fun k hk => ?_, fun k hk => ?_, hu.step k4 (fun k hk e => ?_), k4.mono (fun k hk e => ?_), ?_, k6⟩
 ·rcases k3 k hk with e | e
  ·exact h6 k e
  ·omega
 ·rcases k3 k hk with e | e
  ·exact .inl (h9 k e)
  ·exact .inr e
 ·rcases e with e | e | e
  ·have := h5 k e; omega
  ·have := h6 k e; omega
  ·omega
 ·rcases e with e | e | e
  ·exact h8 k e
  ·exact h9 k e
  ·rw [e]; exact h10
 ·refine ⟨k5.1, fun keep => ?_⟩
  obtain ⟨Y, τ, g1, g2, g3, g4, g5, g6⟩ := k5.2 keep
  exact ⟨Y, τ, g1, g2, g3, g4, by omega, by omega⟩
end Go.Proofs.YtbimkhdiplnbfaaGreat
end

section
namespace Go.Proofs.YtbimkhdiplnbfaaGreat
set_option maxRecDepth 100000
open Go.RowKit Go.Shelf

theorem told_vals {w wt : World} {TC : Nat → Prop} {a : Option Addr} {n c : Nat} {l : KV} (h1 : ValRow wt w.heap.size TC (.slice a n c) l) (h2 : ∀ k, TC k → w.heap.size ≤ k) (h3 : RowC wt TC) :
  ∃ C', ValsAt wt C' a l ∧ (∀ j, C' j → w.heap.size ≤ j ∧ j < wt.heap.size) ∧ ∀ g o, a = some ⟨g, o, none⟩ → C' g := by
 refine ⟨fun j => TC j ∨ (Value.slice a n c).ownBlock = some j, fun i p hi => ?_, fun j hj => ?_, fun g o e => .inr (by rw [e]; rfl)⟩
 ·obtain ⟨g, v, e, c1, c2, hb⟩ := h1.valsAt i p hi
  exact ⟨g, v, e, c1, c2, hb.mono (fun k hk => .inl hk)⟩
 ·rcases hj with hj | hj
  ·exact ⟨h2 j hj, h3.lt j hj⟩
  ·obtain ⟨L, _, h4, _⟩ := h1
   exact World.ownsRow.lt h4 j hj

structure ToldIn (W : World) (b : Nat) (ev : Int) (l : KV) (S : Nat → Prop) : Prop where
 out : ∃ a c C, W.heap[b]? = some (.cells #[.int .u64 ev, .slice a l.length c] 62 (0, 0)) ∧ ValsAt W C a l ∧ (∀ g o, a = some ⟨g, o, none⟩ → S g) ∧ (∀ j, C j → S j)
 own : S b
 fine : l.Fine
theorem ToldIn.kept {W W' : World} {b : Nat} {ev : Int} {l : KV} {S Z : Nat → Prop} (h : ToldIn W b ev l S) (hu : Upd Z W W') (hz : ∀ j, S j → ¬ Z j) : ToldIn W' b ev l S := by
 obtain ⟨⟨a, c, C, h1, h2, h3, h4⟩, h5, h6⟩ := h
 exact ⟨⟨a, c, C, (hu.block _ (lt_of_heap h1) (hz b h5)).trans h1, h2.kept hu (fun g o e => hz g (h3 g o e)) (fun j hj => hz j (h4 j hj)), h3, h4⟩, h5, h6⟩
theorem ToldIn.kept0 {W W' : World} {b : Nat} {ev : Int} {l : KV} {S : Nat → Prop} (h : ToldIn W b ev l S) (hu : Upd (fun _ => False) W W') : ToldIn W' b ev l S := h.kept hu (fun _ _ e => e)
theorem ToldIn.same {W : World} {b d : Nat} {e1 e2 : Int} {l m : KV} {S T : Nat → Prop} (h : ToldIn W b e1 l S) (k : ToldIn W d e2 m T) :
  ∃ a c a' c', W.heap[b]? = some (.cells #[.int .u64 e1, .slice a l.length c] 62 (0, 0)) ∧ W.heap[d]? = some (.cells #[.int .u64 e2, .slice a' m.length c'] 62 (0, 0)) ∧ Calls Tryz.prog 33 #[.agg #[.int .u64 e1, .slice a l.length c], .agg #[.int .u64 e2, .slice a' m.length c']] W fun e w' => e = .returned (.bool (decide (e1 = e2 ∧ l = m))) ∧ Upd (fun _ => False) W w' := by
 obtain ⟨⟨a, c, C, h1, h2, h3, h4⟩, h5, h6⟩ := h
 obtain ⟨⟨a', c', C', k1, k2, k3, k4⟩, k5, k6⟩ := k
 have hl := h6.len
 exact ⟨a, c, a', c', h1, k1, same_reg W h2 k2 (by omega) (fun p hp => (h6.each p hp).2.2.2) (fun p hp => (k6.each p hp).2.2.2)⟩
theorem goodE_on {ev area : Int} {l : KV} {X : Lg} {B : BatchV} (h : X.broken = false) : goodE ev area l X.on B = goodE ev area l X B := by
 unfold goodE planF Lg.on
 simp only [h]
theorem RgXH.unbroken {X : Lg} {H : Nat → Prop} {w0 W : World} {p r N t : Nat} {area ev : Int} {l : KV} (h : RgXH X H w0 W p r N area t ev l) : X.broken = false := by
 obtain ⟨⟨q, b, n, C, D, G, F, τ, h1, _⟩, hu⟩ := h
 exact h1.good.unbroken

structure KpR (w1 : World) (p r nb : Nat) (k : Nat) (ev : Int) (l : KV) (W : World) : Prop where
 out : ∃ X C na nc, RgXH X (fun j => j ≠ nb ∧ ¬ C j) w1 W p r 62 30 k ev l ∧ W.heap[nb]? = some (.cells #[.int .u64 ev, .slice na l.length nc] 62 (0, 0)) ∧ ValsAt W C na l ∧ (∀ j, C j → j < W.heap.size ∧ w1.heap.size ≤ j) ∧ (∀ g o, na = some ⟨g, o, none⟩ → C g) ∧ l.Fine

set_option maxHeartbeats 16000000 in
theorem regkeeps_run {la lb a0 ra0 ka0 : Option Addr} {ln lc bn bc c0 rc0 kc0 : Nat} {B0 : BatchV} {R0 K0 : List Bool} {kd0 on0 : Int} (w00 : World) (hops : OpsIn w00 la ln) (hl : ln ≤ lc) (hc : lc ≤ maxLen) (hop : OpIn w00 B0 a0 c0 ra0 R0 rc0 ka0 K0 kc0) (hcuts : OpsIn w00 lb bn) (hbl : bn ≤ bc) (hbc : bc ≤ maxLen) :
  Calls Tryz.prog 8 #[.slice la ln lc, .agg #[.int .i64 kd0, .int .i64 on0, .int .u64 B0.epoch, .bool B0.large, .slice a0 B0.sets.length c0, .slice ra0 R0.length rc0, .slice ka0 K0.length kc0], .slice lb bn bc] w00 fun e w' => e = .returned (.bool true) ∧ Upd (fun _ => False) w00 w' := by
 have hu00 : Upd (fun _ => False) w00 (w00.alloc (.cells #[.int .i64 kd0, .int .i64 on0, .int .u64 B0.epoch, .bool B0.large, .slice a0 B0.sets.length c0, .slice ra0 R0.length rc0, .slice ka0 K0.length kc0] 58)) := (Upd.refl _ w00).alloc _
 have hx00 : (w00.alloc (.cells #[.int .i64 kd0, .int .i64 on0, .int .u64 B0.epoch, .bool B0.large, .slice a0 B0.sets.length c0, .slice ra0 R0.length rc0, .slice ka0 K0.length kc0] 58)).heap[w00.heap.size]? = some (.cells #[.int .i64 kd0, .int .i64 on0, .int .u64 B0.epoch, .bool B0.large, .slice a0 B0.sets.length c0, .slice ra0 R0.length rc0, .slice ka0 K0.length kc0] 58 (0, 0)) := alloc_at rfl
 have HU0 := Lib.hid hu00; have HX0 := Lib.hid hx00; have HB0 := Lib.hid (hop.kept hu00)
 have HO := Lib.hid (hops.kept hu00); have HL := Lib.hid hl; have HC := Lib.hid hc; have HCU := Lib.hid (hcuts.kept hu00); have HBL := Lib.hid hbl; have HBC := Lib.hid hbc
 clear hops hl hc hu00 hx00 hop hcuts hbl hbc
 go_enter Tryz.func8, Tryz.ntmps8
 go_upto_region 1 with fail
 generalize w00.alloc (.cells #[.int .i64 kd0, .int .i64 on0, .int .u64 B0.epoch, .bool B0.large, .slice a0 B0.sets.length c0, .slice ra0 R0.length rc0, .slice ka0 K0.length kc0] 58) = w at HU0 HX0 HB0 HO HCU ⊢
 obtain ⟨bx0, hbx0⟩ : ∃ b, b = w00.heap.size := ⟨_, rfl⟩
 rw [← hbx0] at HX0 ⊢
 clear hbx0
 go_wp2_with (go_at_call 18; fail)
 refine (wakes_any w).mono ?_
 rintro e w1 ⟨rfl, hu1⟩
 have HU1 := Lib.hid hu1
 clear hu1
 simp only []
 go_wp2_with (go_at_call 28; fail)
 refine (made_row (area := 30) (N := 62) w1 (by omega) (by omega)).mono ?_
 rintro e w2 ⟨p, r, rfl, hrg, hpl⟩
 have HRG := Lib.hid hrg
 clear hrg hpl
 simp only []
 go_upto_region 7 with fail
 obtain ⟨w3, hw3⟩ : ∃ w3, w3 = w2.alloc (.cells #[.int .u64 0, .slice none 0 0] 62) := ⟨_, rfl⟩
 rw [← hw3]
 have hu3 : Upd (fun _ => False) w2 w3 := by rw [hw3]; exact (Upd.refl _ w2).alloc _
 have hx3 : w3.heap[w2.heap.size]? = some (.cells #[.int .u64 0, .slice none 0 0] 62 (0, 0)) := by rw [hw3]; exact alloc_at rfl
 obtain ⟨nb, hnb⟩ : ∃ nb, nb = w2.heap.size := ⟨_, rfl⟩
 rw [← hnb] at hx3 ⊢
 obtain ⟨X0, hX0⟩ := HRG.out.holdX
 have hk0 : KpR w1 p r nb 0 0 [] w3 := ⟨X0, fun _ => False, none, 0, (hX0.mono (H' := fun j => j ≠ nb ∧ ¬ False) (fun k hk _ => ⟨by omega, fun e => e⟩)).kept0 hu3, hx3, fun i p h => by simp at h, fun j hj => hj.elim, (fun g o e => by cases e), KV.Fine.nil⟩
 have HK0 := Lib.hid hk0; have HU3 := Lib.hid (HRG.out.rgc.upd.trans hu3); have HNB := Lib.hid (show w1.heap.size ≤ nb by have := HRG.out.rgc.upd.size; omega)
 clear hw3 hu3 hx3 hnb hX0 hk0 HRG
 go_wp2_with (go_at_call 29; fail)
 refine (few_any w3 HO.out HL.out HC.out).mono ?_
 rintro e w4 ⟨la', kn, rfl, hops, hk20, rfl⟩
 have HOP := Lib.hid (hops); have HK20 := Lib.hid hk20
 clear hops hk20
 simp only []
 go_upto_block 0 with fail
 go_upto_region 8 with fail
 go_loopg [35] kn (fun gk i wr => ∃ (k : Nat) (ev : Int) (l : KV), k ≤ kn ∧ gk = kn - k ∧ i = .int .i64 k ∧ KpR w1 p r nb k ev l wr)
 case atStart => exact ⟨0, 0, [], Nat.zero_le _, rfl, rfl, HK0.out⟩
 case round =>
  obtain ⟨k, ev, l, hk, rfl, rfl, hkp⟩ := hrel
  have HKP := Lib.hid hkp
  clear hkp
  by_cases hkn : k < kn
  ·have hkni : (k : Int) < kn := by omega
   have hk20 : k < 20 := by have := HK20.out; omega
   obtain ⟨X, C, na, nc, hrx, hnx, hvx, hcx, hgx, hfx⟩ := HKP.out.out
   have huw := HU1.out.trans hrx.upd
   obtain ⟨b, o, kd, on, B, a, c, ra, R, rc, ka, K, kc, rfl, hin, hcell⟩ := HOP.out k hkn
   have kc0 : ∀ {ad : Addr} {v : Value}, w.cell? ad = some v → wr.cell? ad = some v := fun h => cell_keptF huw (fun e => e) h
   have q0 := hcell 0 (by omega); have q1 := hcell 1 (by omega); have q2 := hcell 2 (by omega); have q3 := hcell 3 (by omega); have q4 := hcell 4 (by omega); have q5 := hcell 5 (by omega); have q6 := hcell 6 (by omega)
   simp only [opC, ← Nat.add_assoc, Nat.add_zero] at q0 q1 q2 q3 q4 q5 q6
   simp at q0 q1 q2 q3 q4 q5 q6
   replace q0 := kc0 q0; replace q1 := kc0 q1; replace q2 := kc0 q2; replace q3 := kc0 q3; replace q4 := kc0 q4; replace q5 := kc0 q5; replace q6 := kc0 q6
   have HIN := Lib.hid (hin.kept huw); have HRX := Lib.hid hrx; have HNX := Lib.hid hnx; have HVX := Lib.hid hvx; have HCX := Lib.hid hcx; have HGX := Lib.hid hgx; have HFX := Lib.hid hfx
   clear hin hcell kc0 hrx hnx hvx hcx hgx hfx huw HKP
   go_upto_region 10 with fail
   obtain ⟨wa, hwa⟩ : ∃ wa, wa = wr.alloc (.cells #[.int .i64 kd, .int .i64 on, .int .u64 B.epoch, .bool B.large, .slice a B.sets.length c, .slice ra R.length rc, .slice ka K.length kc] 58) := ⟨_, rfl⟩
   rw [← hwa]
   have hua : Upd (fun _ => False) wr wa := by rw [hwa]; exact (Upd.refl _ wr).alloc _
   have hxa : wa.heap[wr.heap.size]? = some (.cells #[.int .i64 kd, .int .i64 on, .int .u64 B.epoch, .bool B.large, .slice a B.sets.length c, .slice ra R.length rc, .slice ka K.length kc] 58 (0, 0)) := by rw [hwa]; exact alloc_at rfl
   obtain ⟨ob, hob⟩ : ∃ ob, ob = wr.heap.size := ⟨_, rfl⟩
   rw [← hob] at hxa ⊢
   have hna := (hua.block _ (lt_of_heap HNX.out) (fun e => e)).trans HNX.out
   obtain ⟨n0, n1⟩ := cells2_of hna
   have co : ∀ j v, #[Value.int .i64 kd, .int .i64 on, .int .u64 B.epoch, .bool B.large, .slice a B.sets.length c, .slice ra R.length rc, .slice ka K.length kc][j]? = some v → wa.cell? ⟨ob, j, none⟩ = some v := fun j v h => by rw [cell_of_heap hxa]; exact h
   clear q0 q1 q2 q3 q4 q5 q6
   have q0 := co 0 _ rfl; have q1 := co 1 _ rfl; have q2 := co 2 _ rfl; have q3 := co 3 _ rfl; have q4 := co 4 _ rfl; have q5 := co 5 _ rfl; have q6 := co 6 _ rfl
   have hina := HIN.out.kept hua
   have HOK := Lib.hid (batchR_ok (l := l) (R := R) HFX.out hina.batch.epoch hina.batch.bytes)
   have HBT := Lib.hid (batch_right (kd := kd) (on := on) (e0 := ev) (ka := ka) (kn := K.length) (kc := kc) (rc := rc) (pc := nc) (R := R) (l := l) wa hina.batch.sets hina.batch.bytes hina.batch.len (by have := hina.batch.cap; unfold maxLen; omega) hina.right.boolsR rfl (HVX.out.kept0 hua) rfl HFX.out)
   have HRA := Lib.hid (HRX.out.kept0 hua); have HNA := Lib.hid hna; have HUA := Lib.hid hua
   clear hwa hua hxa hob hna co hina HIN HRX
   go_wp2_with (go_at_call 19; fail)
   refine HBT.out.mono ?_
   rintro e wc ⟨a2, c2, rfl, ⟨SC, hs1, hs2, hs3⟩, hs4, hs5⟩
   have HCM := Lib.hid ((HRA.out.kept0 hs5).commit (c := c2) (by omega) hs1.setsAt.setsIn (by have := HOK.out.2; omega) HOK.out.1 (fun b o e => (hs1.addr b o e).2))
   have HUC := Lib.hid (HUA.out.trans hs5); have HNC := Lib.hid ((hs5.block _ (lt_of_heap HNA.out) (fun e => e)).trans HNA.out)
   clear hs1 hs2 hs3 hs4 hs5 HBT HRA n0 n1 q0 q1 q2 q3 q4 q5 q6
   simp only []
   go_wp2_with (go_at_call 31; fail)
   refine HCM.out.mono ?_
   rintro e wd ⟨E, ev', l', X', rfl, hrg, hle, hud⟩
   have hnd := (hud.block _ (lt_of_heap HNC.out) (fun e => e.1 rfl)).trans HNC.out
   have HRD := Lib.hid (hrg.mono (H' := fun j => j ≠ nb) (fun j hj _ => hj.elim (fun e => e.1) (fun e e2 => by have := lt_of_heap HNC.out; omega)))
   have HND := Lib.hid hnd; have HLE := Lib.hid hle
   clear hrg hle hud hnd HCM HOK
   simp only []
   go_wp2_with (go_at_call 30; fail)
   refine HRD.out.rgc.told.1.mono ?_
   rintro e wt ⟨ta, tc, TC, rfl, ht1, ht2, ht3, ht4⟩
   obtain ⟨C', hv1, hv2, hv3⟩ := told_vals ht1 ht2 ht3
   have HV1 := Lib.hid hv1; have HV2 := Lib.hid hv2; have HV3 := Lib.hid hv3; have HRT := Lib.hid (HRD.out.kept0 ht4); have HFT := Lib.hid HRD.out.rgc.told.2
   have HNT := Lib.hid ((ht4.block _ (lt_of_heap HND.out) (fun e => e)).trans HND.out); have HUT := Lib.hid ht4
   clear ht1 ht2 ht3 ht4 hv1 hv2 hv3
   simp only []
   go_upto_region 13 with fail
   obtain ⟨we, hwe⟩ : ∃ we, we = wt.alloc (.cells #[.int .u64 ev', .slice ta l'.length tc] 62) := ⟨_, rfl⟩
   rw [← hwe]
   have hue : Upd (fun _ => False) wt we := by rw [hwe]; exact (Upd.refl _ wt).alloc _
   have hxe : we.heap[wt.heap.size]? = some (.cells #[.int .u64 ev', .slice ta l'.length tc] 62 (0, 0)) := by rw [hwe]; exact alloc_at rfl
   obtain ⟨tb, htb⟩ : ∃ tb, tb = wt.heap.size := ⟨_, rfl⟩
   rw [← htb] at hxe ⊢
   obtain ⟨t0, t1⟩ := cells2_of hxe
   have hnbe := (hue.block _ (lt_of_heap HNT.out) (fun e => e)).trans HNT.out
   have frn0 : we.frozen? ⟨nb, 0, none⟩ = false := frozen_of_heap hnbe
   have frn1 : we.frozen? ⟨nb, 1, none⟩ = false := frozen_of_heap hnbe
   obtain ⟨m0, m1⟩ := cells2_of hnbe
   have HRE := Lib.hid (HRT.out.kept0 hue); have HVE := Lib.hid (HV1.out.kept0 hue); have HNE := Lib.hid hnbe
   have HC9 := Lib.hid (show ∀ j, C' j → j ≠ nb ∧ wd.heap.size ≤ j ∧ j < we.heap.size from fun j hj => by have h1 := HV2.out j hj; have h2 := lt_of_heap HND.out; have h3 := hue.size; exact ⟨by omega, by omega, by omega⟩)
   have HD9 := Lib.hid (show w1.heap.size ≤ wd.heap.size from HRD.out.upd.size)
   have HRW := Lib.hid (HRD.out.mono (H' := fun j => j ≠ nb ∧ j < wd.heap.size) (fun j hj hlt => ⟨hj, hlt⟩))
   have HDE := Lib.hid (HUT.out.trans hue)
   clear hwe hue hxe hnbe htb HRT HV1 HV2 HNT HUT HRD
   have hnl : ¬ ev' < ev := by have := HLE.out; omega
   go_upto_region 16 with fail
   obtain ⟨wf, hwf⟩ : ∃ wf, wf = (we.setCell ⟨nb, 0, none⟩ (.int .u64 ev')).setCell ⟨nb, 1, none⟩ (.slice ta l'.length tc) := ⟨_, rfl⟩
   rw [← hwf]
   have huf : Upd (fun j => j = nb) we wf := by rw [hwf]; exact (upd_own we nb 0 _).trans (upd_own _ nb 1 _)
   have hxf : wf.heap[nb]? = some (.cells #[.int .u64 ev', .slice ta l'.length tc] 62 (0, 0)) := by
    rw [hwf]
    have := blk_set (i := 1) (v := .slice ta l'.length tc) (blk_set (i := 0) (v := .int .u64 ev') HNE.out)
    simpa using this
   have hrf := (((HRW.out.kept0 HDE.out).keptH huf (fun j e => ⟨fun h => h.1 e, by rw [e]; exact HNB.out⟩)).mono (H' := fun j => j ≠ nb ∧ ¬ C' j) (fun j hj _ => ⟨hj.1, fun e => by have h1 := (HC9.out j e).2.1; have h2 := hj.2; omega⟩))
   have hkp : KpR w1 p r nb (k + 1) ev' l' wf := ⟨X', C', ta, tc, hrf, hxf, HVE.out.kept huf (fun g o e e2 => (HC9.out g (HV3.out g o e)).1 e2) (fun j hj e => (HC9.out j hj).1 e), fun j hj => ⟨Nat.lt_of_lt_of_le (HC9.out j hj).2.2 huf.size, by have h1 := (HC9.out j hj).2.1; have h2 := HD9.out; omega⟩, HV3.out, HFT.out⟩
   have HKQ := Lib.hid hkp
   have hcv2 : IntKind.i64.wrap ((k : Int) + 1) = (k : Int) + 1 := by rw [IntKind.wrap_i64]; omega
   clear hwf huf hxf hrf hkp hnl
   go_wp2
   go_roundg (kn - (k + 1))
   case measure => omega
   case rel => exact ⟨k + 1, ev', l', by omega, rfl, congrArg _ (by omega), HKQ.out⟩
  ·obtain rfl : kn = k := by omega
   obtain ⟨X, C, na, nc, hrx, hnx, hvx, hcx, hgx, hfx⟩ := HKP.out.out
   have HRX := Lib.hid hrx; have HNX := Lib.hid hnx; have HVX := Lib.hid hvx; have HCX := Lib.hid hcx; have HGX := Lib.hid hgx; have HFX := Lib.hid hfx
   have hk20 : kn ≤ 20 := HK20.out
   have HCP := Lib.hid (hrx.rgx.copy (by omega))
   clear hrx hnx hvx hcx hgx hfx HKP
   go_wp2_with (go_at_call 38; fail)
   refine HCP.out.mono ?_
   rintro e ws ⟨cd, rfl, hus, hop⟩
   have HUS := Lib.hid hus; have HOPN := Lib.hid hop
   clear hus hop HCP
   simp only []
   go_wp2_with (go_at_call 35; fail)
   refine HOPN.out.mono ?_
   rintro e wt ⟨rt, rfl, hrt⟩
   have HRT := Lib.hid hrt; have HUT := Lib.hid hrt.upd
   clear hrt HOPN
   simp only []
   go_upto_region 20 with fail
   have hu0t := (HU1.out.trans HRX.out.upd).trans HUT.out
   have hx0t := (hu0t.block _ (lt_of_heap HX0.out) (fun e => e)).trans HX0.out
   have hnbt := (HUT.out.block _ (lt_of_heap HNX.out) (fun e => e)).trans HNX.out
   have hopt := HB0.out.kept hu0t
   have co : ∀ j v, #[Value.int .i64 kd0, .int .i64 on0, .int .u64 B0.epoch, .bool B0.large, .slice a0 B0.sets.length c0, .slice ra0 R0.length rc0, .slice ka0 K0.length kc0][j]? = some v → wt.cell? ⟨bx0, j, none⟩ = some v := fun j v h => by rw [cell_of_heap hx0t]; exact h
   have q0 := co 0 _ rfl; have q1 := co 1 _ rfl; have q2 := co 2 _ rfl; have q3 := co 3 _ rfl; have q4 := co 4 _ rfl; have q5 := co 5 _ rfl; have q6 := co 6 _ rfl
   obtain ⟨n0, n1⟩ := cells2_of hnbt
   obtain ⟨B1, hB1⟩ : ∃ B1, B1 = batchR l R0 B0 := ⟨_, rfl⟩
   have hok := batchR_ok (l := l) (R := R0) HFX.out hopt.batch.epoch hopt.batch.bytes
   have hbt := batch_right (kd := kd0) (on := on0) (e0 := ev) (ka := ka0) (kn := K0.length) (kc := kc0) (rc := rc0) (pc := nc) (R := R0) (l := l) wt hopt.batch.sets hopt.batch.bytes hopt.batch.len (by have := hopt.batch.cap; unfold maxLen; omega) hopt.right.boolsR rfl (HVX.out.kept0 HUT.out) rfl HFX.out
   rw [← hB1] at hok hbt
   have hbt1 := hbt
   unfold CopyAns batchV at hbt1
   have HBT := Lib.hid hbt1; have HOK := Lib.hid hok
   clear hu0t hx0t hnbt hopt co hB1 hok hbt hbt1
   go_wp2_with (go_at_call 19; fail)
   refine HBT.out.mono ?_
   rintro e wu ⟨a2, c2, rfl, ⟨SC, hs1, hs2, hs3⟩, hs4, hs5⟩
   have HS1 := Lib.hid hs1; have HS2 := Lib.hid hs2; have HS3 := Lib.hid hs3; have HUU := Lib.hid hs5
   clear hs1 hs2 hs3 hs4 hs5 HBT q0 q1 q2 q3 q4 q5 q6 n0 n1
   simp only []
   go_upto_region 21 with fail
   obtain ⟨wv, hwv⟩ : ∃ wv, wv = wu.alloc (.cells #[.int .u64 B1.epoch, .bool B1.large, .slice a2 B1.sets.length c2] 56) := ⟨_, rfl⟩
   rw [← hwv]
   have huv : Upd (fun _ => False) wu wv := by rw [hwv]; exact (Upd.refl _ wu).alloc _
   have hxv : wv.heap[wu.heap.size]? = some (.cells #[.int .u64 B1.epoch, .bool B1.large, .slice a2 B1.sets.length c2] 56 (0, 0)) := by rw [hwv]; exact alloc_at rfl
   obtain ⟨bb, hbb⟩ : ∃ bb, bb = wu.heap.size := ⟨_, rfl⟩
   rw [← hbb] at hxv ⊢
   have hsv := HS1.out.kept huv (fun _ _ e => e) (fun _ _ e => e)
   have hcp := copied_any (c := c2) (B := B1) wv hsv.setsAt.setsIn (fun x hx => ⟨(HOK.out.1.sets x hx).old, (HOK.out.1.sets x hx).new⟩) (by have := HOK.out.2; omega)
   unfold CopyAns batchV at hcp
   have HCPY := Lib.hid hcp; have HSV := Lib.hid hsv; have HXV := Lib.hid hxv; have HUV := Lib.hid (HUU.out.trans huv); have HBB := Lib.hid (show wt.heap.size ≤ bb by have := HUU.out.size; omega)
   obtain ⟨v0, v1, v2⟩ := cells3_of hxv
   clear hwv huv hxv hbb hsv hcp HS1
   go_wp2_with (go_at_call 20; fail)
   refine HCPY.out.mono ?_
   rintro e wx ⟨a3, c3, rfl, ⟨TC3, hs1, hs2, hs3⟩, hs4, hs5⟩
   have hcm := HRT.out.commit2 (HUV.out.trans hs5) (c := c3) (B := B1) (by omega) hs1.setsAt.setsIn (by have := HOK.out.2; omega) HOK.out.1 (fun b o e => (hs1.addr b o e).2)
   rw [goodE_on HRX.out.unbroken] at hcm
   unfold batchV at hcm
   have HCM := Lib.hid hcm; have HUX := Lib.hid hs5
   clear hs1 hs2 hs3 hs4 hs5 hcm HCPY v0 v1 v2
   simp only []
   go_wp2_with (go_at_call 31; fail)
   refine HCM.out.mono ?_
   rintro e wy ⟨ev2, l2, rfl, hrg2, hg0, hg1, huy⟩
   obtain ⟨GE, hGE⟩ : ∃ GE, GE = goodE ev 30 l X B1 := ⟨_, rfl⟩
   rw [← hGE] at hg0 hg1 ⊢
   have HRY := Lib.hid hrg2; have HG0 := Lib.hid hg0; have HG1 := Lib.hid hg1; have HUY := Lib.hid huy; have HGE := Lib.hid hGE
   clear hrg2 hg0 hg1 huy hGE HCM
   simp only []
   go_wp2_with (go_at_call 30; fail)
   refine HRY.out.told.1.mono ?_
   rintro e wz ⟨ta, tc, TC, rfl, ht1, ht2, ht3, ht4⟩
   obtain ⟨C', hv1, hv2, hv3⟩ := told_vals ht1 ht2 ht3
   have HV1 := Lib.hid hv1; have HV2 := Lib.hid hv2; have HV3 := Lib.hid hv3; have HF2 := Lib.hid HRY.out.told.2; have HUZ := Lib.hid ht4
   clear ht1 ht2 ht3 ht4 hv1 hv2 hv3
   simp only []
   go_upto_region 25 with fail
   obtain ⟨w5, hw5⟩ : ∃ w5, w5 = wz.alloc (.cells #[.int .u64 ev2, .slice ta l2.length tc] 62) := ⟨_, rfl⟩
   rw [← hw5]
   have hu5 : Upd (fun _ => False) wz w5 := by rw [hw5]; exact (Upd.refl _ wz).alloc _
   have hx5 : w5.heap[wz.heap.size]? = some (.cells #[.int .u64 ev2, .slice ta l2.length tc] 62 (0, 0)) := by rw [hw5]; exact alloc_at rfl
   obtain ⟨af, haf⟩ : ∃ af, af = wz.heap.size := ⟨_, rfl⟩
   rw [← haf] at hx5 ⊢
   have hafl : wy.heap.size ≤ af := by have := HUZ.out.size; omega
   have haf5 : af < w5.heap.size := lt_of_heap hx5
   have hta : ToldIn w5 af ev2 l2 (fun j => j = af ∨ C' j) := ⟨⟨ta, tc, C', hx5, HV1.out.kept0 hu5, fun g o e => .inr (HV3.out g o e), fun j hj => .inr hj⟩, .inl rfl, HF2.out⟩
   have hry : Upd (fun _ => False) wr wy := ((HUT.out.trans HUV.out).trans HUX.out).step HUY.out (fun j hj e => by have := e.1; omega)
   have hr5 := (hry.trans HUZ.out).trans hu5
   have htn : ToldIn w5 nb ev l (fun j => j = nb ∨ C j) := (ToldIn.mk (W := wr) (b := nb) (ev := ev) (l := l) (S := fun j => j = nb ∨ C j) ⟨na, nc, C, HNX.out, HVX.out, fun g o e => .inr (HGX.out g o e), fun j hj => .inr hj⟩ (.inl rfl) HFX.out).kept0 hr5
   have hrx5 := (HRX.out.mono (H' := fun j => j ≠ nb ∧ ¬ C j ∧ j < wr.heap.size) (fun j hj hlt => ⟨hj.1, hj.2, hlt⟩)).kept0 hr5
   have hxy : Upd (fun k => k < wt.heap.size) wv w5 := ((HUX.out.mono (F := fun _ => False) (G := fun k => k < wt.heap.size) (fun _ _ e => e.elim)).trans (HUY.out.mono (fun k hk e => e.2))).trans ((HUZ.out.trans hu5).mono (F := fun _ => False) (fun _ _ e => e.elim))
   have hs5 := HSV.out.kept hxy (fun k hk e => by obtain ⟨L, _, h4, _⟩ := HSV.out; have := (World.ownsRow.lt h4 k hk).1; omega) (fun k hk e => by have := HS3.out k hk; omega)
   have hbb5 := (hxy.block _ (lt_of_heap HXV.out) (fun e => by have := HBB.out; omega)).trans HXV.out
   have hu05 := (HU1.out.trans HRX.out.upd).trans hr5
   have hx05 := (hu05.block _ (lt_of_heap HX0.out) (fun e => e)).trans HX0.out
   have d1 : w5.cell? ⟨bx0, 1, none⟩ = some (.int .i64 on0) := by rw [cell_of_heap hx05]; rfl
   have HTA := Lib.hid hta; have HTN := Lib.hid htn; have HR5 := Lib.hid hrx5; have HS5 := Lib.hid hs5; have HBB5 := Lib.hid hbb5; have HU05 := Lib.hid hu05; have HAF := Lib.hid hafl; have HAF5 := Lib.hid haf5
   have HSZ := Lib.hid (show wr.heap.size ≤ wt.heap.size ∧ wt.heap.size ≤ wy.heap.size from ⟨HUT.out.size, by have := (HUV.out.trans HUX.out).size; have := HUY.out.size; omega⟩)
   have HC2 := Lib.hid (show ∀ j, C' j → wy.heap.size ≤ j ∧ j < w5.heap.size from fun j hj => ⟨(HV2.out j hj).1, by have := (HV2.out j hj).2; have := hu5.size; omega⟩)
   have HC1 := Lib.hid (show ∀ j, C j → j < wr.heap.size from fun j hj => (HCX.out j hj).1)
   have HNW := Lib.hid (show nb < wr.heap.size from lt_of_heap HNX.out)
   clear hw5 hu5 hx5 haf hafl haf5 hta hry hr5 htn hrx5 hxy hs5 hbb5 hu05 hx05 HV1 HV2 HV3 HRT HRX HNX HVX HCX HGX HUT HUS HXV HSV HUV HUX HUY HUZ HRY
   obtain ⟨m, hm1, hm2⟩ : ∃ m : Int, wrap64 ((IntKind.u64.wrap on0).tmod 60) = m ∧ 0 ≤ m ∧ m ≤ 1000 := by
    have h0 : 0 ≤ IntKind.u64.wrap on0 := by rw [IntKind.wrap_u64]; omega
    rw [Int.tmod_eq_emod_of_nonneg h0]
    have h1 := Int.emod_nonneg (IntKind.u64.wrap on0) (b := 60) (by decide)
    have h2 := Int.emod_lt_of_pos (IntKind.u64.wrap on0) (b := 60) (by decide)
    exact ⟨_, IntWalk.wrap64_in _ (by omega), by omega, by omega⟩
   have HM1 := Lib.hid hm1; have HAR := Lib.hid (HR5.out.arm m hm2)
   clear hm1 hm2
   go_wp2_with (go_at_call 39; fail)
   rw [HM1.out]
   refine HAR.out.mono ?_
   rintro e w6 ⟨⟨xr, rfl⟩, hr6, hu6⟩
   have hbb6 := (hu6.block _ (lt_of_heap HBB5.out) (fun e => by have := e.2.2; have := HBB.out; have := HSZ.out; omega)).trans HBB5.out
   have hs6 := HS5.out.kept hu6 (fun k hk e => by obtain ⟨L, _, h4, _⟩ := HS5.out; have h5 := (World.ownsRow.lt h4 k hk).1; have := e.2.2; have := HSZ.out; omega) (fun k hk e => by have := HS3.out k hk; have := e.2.2; have := HSZ.out; omega)
   have hcm := hr6.commit (c := c2) (B := B1) (by omega) hs6.setsAt.setsIn (by have := HOK.out.2; omega) HOK.out.1 (fun b o e => (hs6.addr b o e).2)
   unfold batchV at hcm
   have HCM := Lib.hid hcm
   have HTA6 := Lib.hid (HTA.out.kept hu6 (fun j hj e => hj.elim (fun hj => by have := HAF.out; have := e.2.2; have := HSZ.out; omega) (fun hj => by have := (HC2.out j hj).1; have := e.2.2; have := HSZ.out; omega)))
   have HTN6 := Lib.hid (HTN.out.kept hu6 (fun j hj e => hj.elim (fun hj => e.1 hj) (fun hj => e.2.1 hj)))
   have HU06 := Lib.hid (show Upd (fun _ => False) w w6 from HU1.out.trans hr6.upd); have HSZ6 := Lib.hid (show w5.heap.size ≤ w6.heap.size from hu6.size)
   obtain ⟨v0, v1, v2⟩ := cells3_of hbb6
   clear hr6 hu6 hbb6 hs6 hcm HAR HM1 HTA HTN HR5 HS5 HBB5 d1
   simp only []
   go_wp2_with (go_at_call 31; fail)
   refine HCM.out.mono ?_
   rintro e w7 ⟨E, D', F', P1, P2, rfl, hd7, hok7, hF1, hF2, hu70, hu7, hsh, hout⟩
   rw [LiveOut, ← HGE.out] at hout
   have HD7 := Lib.hid hd7; have HOK7 := Lib.hid hok7; have HF1 := Lib.hid hF1; have HSH := Lib.hid hsh; have HOUT := Lib.hid hout; have HU7 := Lib.hid (HU1.out.trans hu70)
   have HFS := Lib.hid (show ∀ j, (j = nb ∨ C j ∨ j = af ∨ C' j) → ¬ F' j ∧ j < w7.heap.size from fun j hj => by
    have hz := hu7.size; have hz6 := HSZ6.out; have hz5 := HAF5.out; have hz1 := HSZ.out; have hz2 := HAF.out
    have hjl : j < w6.heap.size := by
     rcases hj with hj | hj | hj | hj
     ·have := HNW.out; omega
     ·have := HC1.out j hj; omega
     ·omega
     ·have := HC2.out j hj; omega
    refine ⟨fun e => ?_, by omega⟩
    rcases hF2 j e with e | e
    ·rcases hj with hj | hj | hj | hj
     ·exact e.1 hj
     ·exact e.2.1 hj
     ·have := HAF.out; have := e.2.2; omega
     ·have := (HC2.out j hj).1; have := e.2.2; omega
    ·omega)
   have HTA7 := Lib.hid (HTA6.out.kept hu7 (fun j hj e => hj.elim (fun hj => by have := HAF.out; have := e.2.2; have := HSZ.out; omega) (fun hj => by have := (HC2.out j hj).1; have := e.2.2; have := HSZ.out; omega)))
   have HTN7 := Lib.hid (HTN6.out.kept hu7 (fun j hj e => hj.elim (fun hj => e.1 hj) (fun hj => e.2.1 hj)))
   clear hd7 hok7 hF1 hF2 hu70 hu7 hsh hout HCM HTA6 HTN6 HU06 v0 v1 v2
   simp only []
   by_cases hE : E = 0
   ·subst hE
    obtain ⟨hge, hq1, hq2⟩ : GE = 0 ∧ SaysS P1 B1.epoch (l.withs B1.sets) ∧ SaysS P2 B1.epoch (l.withs B1.sets) := by
     rcases HOUT.out with ⟨_, h, _⟩ | ⟨h1, _, h2, h3⟩ | ⟨_, h, _⟩
     ·exact absurd rfl h
     ·exact ⟨h1, h2, h3⟩
     ·cases h
    obtain ⟨he2, hl2⟩ := HG0.out hge
    rw [← he2, ← hl2] at hq1 hq2
    subst hge
    obtain ⟨P, hP, hrest⟩ := HSH.out.rest K0
    have hsp : SaysS P ev2 l2 := by rcases hP with rfl | rfl; exact hq1; exact hq2
    have HREST := Lib.hid hrest; have HSP := Lib.hid hsp
    clear he2 hl2 hq1 hq2 hP hrest hsp
    obtain ⟨xa, xc, XC, hxa1, hxa2, hxa3, hxa4⟩ := HTA7.out.out
    obtain ⟨ya, yc, YC, hya1, hya2, hya3, hya4⟩ := HTN7.out.out
    obtain ⟨x0, x1⟩ := cells2_of hxa1
    obtain ⟨y0, y1⟩ := cells2_of hya1
    have frn0 : w7.frozen? ⟨nb, 0, none⟩ = false := frozen_of_heap hya1
    have frn1 : w7.frozen? ⟨nb, 1, none⟩ = false := frozen_of_heap hya1
    have HXA1 := Lib.hid hxa1; have HXA2 := Lib.hid hxa2; have HXA3 := Lib.hid hxa3; have HXA4 := Lib.hid hxa4; have HYA1 := Lib.hid hya1
    clear hxa1 hxa2 hxa3 hxa4 hya1 hya2 hya3 hya4
    go_upto_region 31 with fail
    obtain ⟨w8, hw8⟩ : ∃ w8, w8 = (w7.setCell ⟨nb, 0, none⟩ (.int .u64 ev2)).setCell ⟨nb, 1, none⟩ (.slice xa l2.length xc) := ⟨_, rfl⟩
    rw [← hw8]
    have hu8 : Upd (fun j => j = nb) w7 w8 := by rw [hw8]; exact (upd_own w7 nb 0 _).trans (upd_own _ nb 1 _)
    have hx8 : w8.heap[nb]? = some (.cells #[.int .u64 ev2, .slice xa l2.length xc] 62 (0, 0)) := by
     rw [hw8]
     have := blk_set (i := 1) (v := .slice xa l2.length xc) (blk_set (i := 0) (v := .int .u64 ev2) HYA1.out)
     simpa using this
    have hnaf : ∀ j, (j = af ∨ C' j) → j ≠ nb := fun j hj e => by
     have h0 := HNW.out; have h1 := HSZ.out; have h2 := HAF.out
     rcases hj with hj | hj
     ·omega
     ·have := (HC2.out j hj).1; omega
    obtain ⟨SN, hSN⟩ : ∃ SN : Nat → Prop, SN = fun j => j = nb ∨ j = af ∨ C' j := ⟨_, rfl⟩
    have HNW9 := Lib.hid (show ToldIn w8 nb ev2 l2 SN from ⟨⟨xa, xc, XC, hx8, HXA2.out.kept hu8 (fun g o e e2 => hnaf g (HXA3.out g o e) e2) (fun j hj e => hnaf j (HXA4.out j hj) e), fun g o e => by rw [hSN]; exact .inr (HXA3.out g o e), fun j hj => by rw [hSN]; exact .inr (HXA4.out j hj)⟩, by rw [hSN]; exact .inl rfl, HTA7.out.fine⟩)
    have HSN := Lib.hid (show ∀ j, SN j → ¬ F' j ∧ j < w8.heap.size from fun j hj => by
     rw [hSN] at hj
     have h := HFS.out j (hj.elim .inl (fun h => .inr (.inr h)))
     exact ⟨h.1, Nat.lt_of_lt_of_le h.2 hu8.size⟩)
    have HDW := Lib.hid (HD7.out.kept hu8 (fun k hk e => (HFS.out k (.inl e)).1 hk))
    have HUW := Lib.hid (HU7.out.step hu8 (fun k hk e => by have := HNB.out; have := HU1.out.size; omega))
    clear hw8 hu8 hx8 hnaf hSN x0 x1 y0 y1 frn0 frn1 HXA1 HXA2 HXA3 HXA4 HYA1
    have hu9 : Upd (fun _ => False) w8 (w8.alloc (.cells #[] 4)) := (Upd.refl _ w8).alloc _
    have hg9 : (w8.alloc (.cells #[] 4)).heap[w8.heap.size]? = some (.cells #[] 4 (0, 0)) := alloc_at rfl
    have hxc := ((HUW.out.trans hu9).block _ (lt_of_heap HX0.out) (fun e => e)).trans HX0.out
    have c6 : (w8.alloc (.cells #[] 4)).cell? ⟨bx0, 6, none⟩ = some (.slice ka0 K0.length kc0) := by rw [cell_of_heap hxc]; rfl
    have HKC := Lib.hid ((HB0.out.kept (HUW.out.trans hu9)).keep); have HG9 := Lib.hid hg9; have HU9 := Lib.hid hu9
    clear hu9 hg9 hxc
    iterate 13 go_step
    refine wpList_keeps rfl (.tmp 103) (.tmp 105) rfl rfl rfl HG9.out HKC.out HB0.out.klen' (fun a9 c9 wA hb9 hu9b => ?_)
    have hdA := (HDW.out.kept HU9.out (fun _ _ e => e)).kept hu9b (fun k hk e => by have := HDW.out.lt k hk; omega)
    have hcr := crash_anyW (kc := c9) wA a9 K0 hb9 (Nat.le_trans HB0.out.klen' (by omega)) hdA (HOK7.out.mono (by omega))
    have huA : Upd (fun k => w8.heap.size ≤ k) w8 wA := (HU9.out.mono (F := fun _ => False) (G := fun k => w8.heap.size ≤ k) (fun _ _ e => e.elim)).trans (hu9b.mono (fun k hk e => by omega))
    have HCR := Lib.hid hcr; have HUA := Lib.hid huA
    have HUWA := Lib.hid (HUW.out.step huA (fun k hk e => by have := HUW.out.size; omega))
    have HNA := Lib.hid (HNW9.out.kept huA (fun j hj e => by have := (HSN.out j hj).2; omega))
    clear hdA hcr huA hb9 hu9b HKC HG9 HU9 c6
    go_wp2_with (go_at_call 16; fail)
    refine HCR.out.mono ?_
    rintro e wB ⟨rfl, F9, g1, g2, g3⟩
    have hfd := found_run (w0 := w) (F0 := F9) (p := p) (K := 24000 + 2000 * kn) (ev := ev2) (l := l2) (T := 2 + kn) (M := 3 + kn) wB HCU.out HBL.out HBC.out ⟨⟨D'.crash K0, F9, g1, by simpa using HOK7.out.crash K0, by simpa using HREST.out ev2 l2 HSP.out, rfl, fun k hk => by
      rcases g2 k hk with q | q
      ·have := HF1.out k q; have := HU1.out.size; omega
      ·have := HUWA.out.size; omega, fun k hk => .inl hk⟩, HUWA.out.step g3 (fun k hk e => by have := HF1.out k e; have := HU1.out.size; omega), Upd.refl _ _⟩ (by omega) (by omega)
    have HFD := Lib.hid hfd
    have HFS9 := Lib.hid (show ∀ j, SN j → ¬ F9 j from fun j hj e => by
     rcases g2 j e with q | q
     ·exact (HSN.out j hj).1 q
     ·have h1 := (HSN.out j hj).2; have h2 := HUA.out.size; omega)
    have HNB9 := Lib.hid (HNA.out.kept g3 (fun j hj e => (HSN.out j hj).1 e))
    clear g1 g2 g3 hfd HCR HNA
    simp only []
    go_wp2_with (go_at_call 40; fail)
    refine HFD.out.mono ?_
    rintro e wC ⟨r9, rfl, ⟨lg9, b9, n9, C9, ar9, hreg, hmap, hfine⟩, hu0, hu9c⟩
    have HU0C := Lib.hid hu0; have HREG := Lib.hid hreg; have HMAP := Lib.hid hmap; have HFIN := Lib.hid hfine
    have HNC := Lib.hid (HNB9.out.kept hu9c (fun j hj e => HFS9.out j hj e))
    clear hu0 hu9c hreg hmap hfine HFD HNB9
    simp only []
    go_wp2_with (go_at_call 30; fail)
    refine (told_any wC HREG.out HMAP.out HFIN.out).mono ?_
    rintro e wD ⟨ga, gc, GC, rfl, ht1, ht2, ht3, ht4⟩
    obtain ⟨C9', hv1, hv2, hv3⟩ := told_vals ht1 ht2 ht3
    have HGV1 := Lib.hid hv1; have HGV3 := Lib.hid hv3; have HUD := Lib.hid ht4
    clear ht1 ht2 ht3 ht4 hv1 hv2 hv3
    simp only []
    go_upto_region 37 with fail
    obtain ⟨wE, hwE⟩ : ∃ wE, wE = wD.alloc (.cells #[.int .u64 ev2, .slice ga (l2).length gc] 62) := ⟨_, rfl⟩
    rw [← hwE]
    have huE : Upd (fun _ => False) wD wE := by rw [hwE]; exact (Upd.refl _ wD).alloc _
    have hxE : wE.heap[wD.heap.size]? = some (.cells #[.int .u64 ev2, .slice ga (l2).length gc] 62 (0, 0)) := by rw [hwE]; exact alloc_at rfl
    obtain ⟨gt, hgt⟩ : ∃ gt, gt = wD.heap.size := ⟨_, rfl⟩
    rw [← hgt] at hxE ⊢
    have HGT := Lib.hid (show ToldIn wE gt ev2 l2 (fun j => j = gt ∨ C9' j) from ⟨⟨ga, gc, C9', hxE, HGV1.out.kept0 huE, fun g o e => .inr (HGV3.out g o e), fun j hj => .inr hj⟩, .inl rfl, HFIN.out⟩)
    have HUE := Lib.hid ((HU0C.out.trans HUD.out).trans huE)
    have HNE := Lib.hid (HNC.out.kept0 (HUD.out.trans huE))
    clear hwE huE hxE hgt HGV1 HGV3 HNC HUD HREG HMAP
    obtain ⟨sa, sc, sa', sc', hs1, hs2, hs3⟩ := HGT.out.same HNE.out
    obtain ⟨s0, s1⟩ := cells2_of hs1
    obtain ⟨s2, s3⟩ := cells2_of hs2
    rw [decide_eq_true (show ev2 = ev2 ∧ l2 = l2 from ⟨rfl, rfl⟩)] at hs3
    have HS33 := Lib.hid hs3
    clear hs1 hs2 hs3
    go_wp2_with (go_at_call 33; fail)
    refine HS33.out.mono ?_
    rintro e wF ⟨rfl, huF⟩
    have HUF := Lib.hid huF
    clear huF
    simp only []
    go_wp2
    go_ret
    exact ⟨rfl, HU0.out.trans (HUE.out.trans HUF.out)⟩
   ·have hEb : (E == 0) = false := by simpa using hE
    obtain ⟨SN, hSN⟩ : ∃ SN : Nat → Prop, SN = fun j => j = nb ∨ C j := ⟨_, rfl⟩
    have HNW9 := Lib.hid (show ToldIn w7 nb ev l SN by rw [hSN]; exact HTN7.out)
    have HSN := Lib.hid (show ∀ j, SN j → ¬ F' j ∧ j < w7.heap.size from fun j hj => by
     rw [hSN] at hj
     exact HFS.out j (hj.elim .inl (fun h => .inr (.inl h))))
    have HDW := HD7; have HUW := HU7
    obtain ⟨P, hP, hrest⟩ := HSH.out.rest K0
    have HREST := Lib.hid hrest
    have hcase : SaysS P ev l ∨ (E = 9 ∧ GE = 0 ∧ SaysS P ev2 l2) := by
     rcases HOUT.out with ⟨_, _, h2, h3⟩ | ⟨_, h, _⟩ | ⟨h1, h2, h3, h4⟩
     ·rcases hP with rfl | rfl
      ·exact .inl h2
      ·exact .inl h3
     ·exact absurd h hE
     ·rcases hP with rfl | rfl
      ·exact .inl h3
      ·obtain ⟨he2, hl2⟩ := HG0.out h1
       rw [← he2, ← hl2] at h4
       exact .inr ⟨h2, h1, h4⟩
    clear hSN hP hrest
    rcases hcase with hsp | ⟨rfl, rfl, hsp⟩
    ·have HSP := Lib.hid hsp
     clear hsp
     go_upto_region 31 with fail
     have hu9 : Upd (fun _ => False) w7 (w7.alloc (.cells #[] 4)) := (Upd.refl _ w7).alloc _
     have hg9 : (w7.alloc (.cells #[] 4)).heap[w7.heap.size]? = some (.cells #[] 4 (0, 0)) := alloc_at rfl
     have hxc := ((HUW.out.trans hu9).block _ (lt_of_heap HX0.out) (fun e => e)).trans HX0.out
     have c6 : (w7.alloc (.cells #[] 4)).cell? ⟨bx0, 6, none⟩ = some (.slice ka0 K0.length kc0) := by rw [cell_of_heap hxc]; rfl
     have HKC := Lib.hid ((HB0.out.kept (HUW.out.trans hu9)).keep); have HG9 := Lib.hid hg9; have HU9 := Lib.hid hu9
     clear hu9 hg9 hxc
     iterate 13 go_step
     refine wpList_keeps rfl (.tmp 103) (.tmp 105) rfl rfl rfl HG9.out HKC.out HB0.out.klen' (fun a9 c9 wA hb9 hu9b => ?_)
     have hdA := (HDW.out.kept HU9.out (fun _ _ e => e)).kept hu9b (fun k hk e => by have := HDW.out.lt k hk; omega)
     have hcr := crash_anyW (kc := c9) wA a9 K0 hb9 (Nat.le_trans HB0.out.klen' (by omega)) hdA (HOK7.out.mono (by omega))
     have huA : Upd (fun k => w7.heap.size ≤ k) w7 wA := (HU9.out.mono (F := fun _ => False) (G := fun k => w7.heap.size ≤ k) (fun _ _ e => e.elim)).trans (hu9b.mono (fun k hk e => by omega))
     have HCR := Lib.hid hcr; have HUA := Lib.hid huA
     have HUWA := Lib.hid (HUW.out.step huA (fun k hk e => by have := HUW.out.size; omega))
     have HNA := Lib.hid (HNW9.out.kept huA (fun j hj e => by have := (HSN.out j hj).2; omega))
     clear hdA hcr huA hb9 hu9b HKC HG9 HU9 c6
     go_wp2_with (go_at_call 16; fail)
     refine HCR.out.mono ?_
     rintro e wB ⟨rfl, F9, g1, g2, g3⟩
     have hfd := found_run (w0 := w) (F0 := F9) (p := p) (K := 24000 + 2000 * kn) (ev := ev) (l := l) (T := 2 + kn) (M := 3 + kn) wB HCU.out HBL.out HBC.out ⟨⟨D'.crash K0, F9, g1, by simpa using HOK7.out.crash K0, by simpa using HREST.out ev l HSP.out, rfl, fun k hk => by
       rcases g2 k hk with q | q
       ·have := HF1.out k q; have := HU1.out.size; omega
       ·have := HUWA.out.size; omega, fun k hk => .inl hk⟩, HUWA.out.step g3 (fun k hk e => by have := HF1.out k e; have := HU1.out.size; omega), Upd.refl _ _⟩ (by omega) (by omega)
     have HFD := Lib.hid hfd
     have HFS9 := Lib.hid (show ∀ j, SN j → ¬ F9 j from fun j hj e => by
      rcases g2 j e with q | q
      ·exact (HSN.out j hj).1 q
      ·have h1 := (HSN.out j hj).2; have h2 := HUA.out.size; omega)
     have HNB9 := Lib.hid (HNA.out.kept g3 (fun j hj e => (HSN.out j hj).1 e))
     clear g1 g2 g3 hfd HCR HNA
     simp only []
     go_wp2_with (go_at_call 40; fail)
     refine HFD.out.mono ?_
     rintro e wC ⟨r9, rfl, ⟨lg9, b9, n9, C9, ar9, hreg, hmap, hfine⟩, hu0, hu9c⟩
     have HU0C := Lib.hid hu0; have HREG := Lib.hid hreg; have HMAP := Lib.hid hmap; have HFIN := Lib.hid hfine
     have HNC := Lib.hid (HNB9.out.kept hu9c (fun j hj e => HFS9.out j hj e))
     clear hu0 hu9c hreg hmap hfine HFD HNB9
     simp only []
     go_wp2_with (go_at_call 30; fail)
     refine (told_any wC HREG.out HMAP.out HFIN.out).mono ?_
     rintro e wD ⟨ga, gc, GC, rfl, ht1, ht2, ht3, ht4⟩
     obtain ⟨C9', hv1, hv2, hv3⟩ := told_vals ht1 ht2 ht3
     have HGV1 := Lib.hid hv1; have HGV3 := Lib.hid hv3; have HUD := Lib.hid ht4
     clear ht1 ht2 ht3 ht4 hv1 hv2 hv3
     simp only []
     go_upto_region 37 with fail
     obtain ⟨wE, hwE⟩ : ∃ wE, wE = wD.alloc (.cells #[.int .u64 ev, .slice ga (l).length gc] 62) := ⟨_, rfl⟩
     rw [← hwE]
     have huE : Upd (fun _ => False) wD wE := by rw [hwE]; exact (Upd.refl _ wD).alloc _
     have hxE : wE.heap[wD.heap.size]? = some (.cells #[.int .u64 ev, .slice ga (l).length gc] 62 (0, 0)) := by rw [hwE]; exact alloc_at rfl
     obtain ⟨gt, hgt⟩ : ∃ gt, gt = wD.heap.size := ⟨_, rfl⟩
     rw [← hgt] at hxE ⊢
     have HGT := Lib.hid (show ToldIn wE gt ev l (fun j => j = gt ∨ C9' j) from ⟨⟨ga, gc, C9', hxE, HGV1.out.kept0 huE, fun g o e => .inr (HGV3.out g o e), fun j hj => .inr hj⟩, .inl rfl, HFIN.out⟩)
     have HUE := Lib.hid ((HU0C.out.trans HUD.out).trans huE)
     have HNE := Lib.hid (HNC.out.kept0 (HUD.out.trans huE))
     clear hwE huE hxE hgt HGV1 HGV3 HNC HUD HREG HMAP
     obtain ⟨sa, sc, sa', sc', hs1, hs2, hs3⟩ := HGT.out.same HNE.out
     obtain ⟨s0, s1⟩ := cells2_of hs1
     obtain ⟨s2, s3⟩ := cells2_of hs2
     rw [decide_eq_true (show ev = ev ∧ l = l from ⟨rfl, rfl⟩)] at hs3
     have HS33 := Lib.hid hs3
     clear hs1 hs2 hs3
     go_wp2_with (go_at_call 33; fail)
     refine HS33.out.mono ?_
     rintro e wF ⟨rfl, huF⟩
     have HUF := Lib.hid huF
     clear huF
     simp only []
     go_wp2
     go_ret
     exact ⟨rfl, HU0.out.trans (HUE.out.trans HUF.out)⟩
    ·have HSP := Lib.hid hsp
     clear hsp hE hEb
     go_upto_region 31 with fail
     have hu9 : Upd (fun _ => False) w7 (w7.alloc (.cells #[] 4)) := (Upd.refl _ w7).alloc _
     have hg9 : (w7.alloc (.cells #[] 4)).heap[w7.heap.size]? = some (.cells #[] 4 (0, 0)) := alloc_at rfl
     have hxc := ((HUW.out.trans hu9).block _ (lt_of_heap HX0.out) (fun e => e)).trans HX0.out
     have c6 : (w7.alloc (.cells #[] 4)).cell? ⟨bx0, 6, none⟩ = some (.slice ka0 K0.length kc0) := by rw [cell_of_heap hxc]; rfl
     have HKC := Lib.hid ((HB0.out.kept (HUW.out.trans hu9)).keep); have HG9 := Lib.hid hg9; have HU9 := Lib.hid hu9
     clear hu9 hg9 hxc
     iterate 13 go_step
     refine wpList_keeps rfl (.tmp 103) (.tmp 105) rfl rfl rfl HG9.out HKC.out HB0.out.klen' (fun a9 c9 wA hb9 hu9b => ?_)
     have hdA := (HDW.out.kept HU9.out (fun _ _ e => e)).kept hu9b (fun k hk e => by have := HDW.out.lt k hk; omega)
     have hcr := crash_anyW (kc := c9) wA a9 K0 hb9 (Nat.le_trans HB0.out.klen' (by omega)) hdA (HOK7.out.mono (by omega))
     have huA : Upd (fun k => w7.heap.size ≤ k) w7 wA := (HU9.out.mono (F := fun _ => False) (G := fun k => w7.heap.size ≤ k) (fun _ _ e => e.elim)).trans (hu9b.mono (fun k hk e => by omega))
     have HCR := Lib.hid hcr; have HUA := Lib.hid huA
     have HUWA := Lib.hid (HUW.out.step huA (fun k hk e => by have := HUW.out.size; omega))
     have HNA := Lib.hid (HNW9.out.kept huA (fun j hj e => by have := (HSN.out j hj).2; omega))
     have HAA := Lib.hid (HTA7.out.kept huA (fun j hj e => by have := (HFS.out j (.inr (.inr hj))).2; omega))
     clear hdA hcr huA hb9 hu9b HKC HG9 HU9 c6
     go_wp2_with (go_at_call 16; fail)
     refine HCR.out.mono ?_
     rintro e wB ⟨rfl, F9, g1, g2, g3⟩
     have hfd := found_run (w0 := w) (F0 := F9) (p := p) (K := 24000 + 2000 * kn) (ev := ev2) (l := l2) (T := 2 + kn) (M := 3 + kn) wB HCU.out HBL.out HBC.out ⟨⟨D'.crash K0, F9, g1, by simpa using HOK7.out.crash K0, by simpa using HREST.out ev2 l2 HSP.out, rfl, fun k hk => by
       rcases g2 k hk with q | q
       ·have := HF1.out k q; have := HU1.out.size; omega
       ·have := HUWA.out.size; omega, fun k hk => .inl hk⟩, HUWA.out.step g3 (fun k hk e => by have := HF1.out k e; have := HU1.out.size; omega), Upd.refl _ _⟩ (by omega) (by omega)
     have HFD := Lib.hid hfd
     have HFS9 := Lib.hid (show ∀ j, SN j → ¬ F9 j from fun j hj e => by
      rcases g2 j e with q | q
      ·exact (HSN.out j hj).1 q
      ·have h1 := (HSN.out j hj).2; have h2 := HUA.out.size; omega)
     have HNB9 := Lib.hid (HNA.out.kept g3 (fun j hj e => (HSN.out j hj).1 e))
     have HAB := Lib.hid (HAA.out.kept g3 (fun j hj e => (HFS.out j (.inr (.inr hj))).1 e)); have HFA9 := Lib.hid (show ∀ j, (j = af ∨ C' j) → ¬ F9 j from fun j hj e => by
      rcases g2 j e with q | q
      ·exact (HFS.out j (.inr (.inr hj))).1 q
      ·have h1 := (HFS.out j (.inr (.inr hj))).2; have h2 := HUA.out.size; omega)
     clear g1 g2 g3 hfd HCR HNA
     simp only []
     go_wp2_with (go_at_call 40; fail)
     refine HFD.out.mono ?_
     rintro e wC ⟨r9, rfl, ⟨lg9, b9, n9, C9, ar9, hreg, hmap, hfine⟩, hu0, hu9c⟩
     have HU0C := Lib.hid hu0; have HREG := Lib.hid hreg; have HMAP := Lib.hid hmap; have HFIN := Lib.hid hfine
     have HNC := Lib.hid (HNB9.out.kept hu9c (fun j hj e => HFS9.out j hj e))
     have HAC := Lib.hid (HAB.out.kept hu9c (fun j hj e => HFA9.out j hj e))
     clear hu0 hu9c hreg hmap hfine HFD HNB9
     simp only []
     go_wp2_with (go_at_call 30; fail)
     refine (told_any wC HREG.out HMAP.out HFIN.out).mono ?_
     rintro e wD ⟨ga, gc, GC, rfl, ht1, ht2, ht3, ht4⟩
     obtain ⟨C9', hv1, hv2, hv3⟩ := told_vals ht1 ht2 ht3
     have HGV1 := Lib.hid hv1; have HGV3 := Lib.hid hv3; have HUD := Lib.hid ht4
     clear ht1 ht2 ht3 ht4 hv1 hv2 hv3
     simp only []
     go_upto_region 37 with fail
     obtain ⟨wE, hwE⟩ : ∃ wE, wE = wD.alloc (.cells #[.int .u64 ev2, .slice ga (l2).length gc] 62) := ⟨_, rfl⟩
     rw [← hwE]
     have huE : Upd (fun _ => False) wD wE := by rw [hwE]; exact (Upd.refl _ wD).alloc _
     have hxE : wE.heap[wD.heap.size]? = some (.cells #[.int .u64 ev2, .slice ga (l2).length gc] 62 (0, 0)) := by rw [hwE]; exact alloc_at rfl
     obtain ⟨gt, hgt⟩ : ∃ gt, gt = wD.heap.size := ⟨_, rfl⟩
     rw [← hgt] at hxE ⊢
     have HGT := Lib.hid (show ToldIn wE gt ev2 l2 (fun j => j = gt ∨ C9' j) from ⟨⟨ga, gc, C9', hxE, HGV1.out.kept0 huE, fun g o e => .inr (HGV3.out g o e), fun j hj => .inr hj⟩, .inl rfl, HFIN.out⟩)
     have HUE := Lib.hid ((HU0C.out.trans HUD.out).trans huE)
     have HNE := Lib.hid (HNC.out.kept0 (HUD.out.trans huE))
     have HAE := Lib.hid (HAC.out.kept0 (HUD.out.trans huE))
     clear hwE huE hxE hgt HGV1 HGV3 HNC HUD HREG HMAP
     obtain ⟨sa, sc, sa', sc', hs1, hs2, hs3⟩ := HGT.out.same HNE.out
     obtain ⟨s0, s1⟩ := cells2_of hs1
     obtain ⟨s2, s3⟩ := cells2_of hs2
     by_cases heq : ev2 = ev ∧ l2 = l
     ·rw [decide_eq_true heq] at hs3
      have HS33 := Lib.hid hs3
      clear hs1 hs2 hs3 heq
      go_wp2_with (go_at_call 33; fail)
      refine HS33.out.mono ?_
      rintro e wF ⟨rfl, huF⟩
      have HUF := Lib.hid huF
      clear huF
      simp only []
      go_wp2
      go_ret
      exact ⟨rfl, HU0.out.trans (HUE.out.trans HUF.out)⟩
     ·rw [decide_eq_false heq] at hs3
      have HS33 := Lib.hid hs3
      clear hs1 hs2 hs3 heq
      go_wp2_with (go_at_call 33; fail)
      refine HS33.out.mono ?_
      rintro e wF ⟨rfl, huF⟩
      obtain ⟨ra, rc, ra', rc', hq1, hq2, hq3⟩ := (HGT.out.kept0 huF).same (HAE.out.kept0 huF)
      rw [decide_eq_true (show ev2 = ev2 ∧ l2 = l2 from ⟨rfl, rfl⟩)] at hq3
      have HQ3 := Lib.hid hq3
      have HUF := Lib.hid huF
      obtain ⟨p0, p1⟩ := cells2_of hq1
      obtain ⟨p2, p3⟩ := cells2_of hq2
      clear huF hq1 hq2 hq3 s0 s1 s2 s3
      simp only []
      go_wp2_with (go_at_call 33; fail)
      refine HQ3.out.mono ?_
      rintro e wG ⟨rfl, huG⟩
      have HUG := Lib.hid huG
      clear huG
      simp only []
      go_wp2
      go_ret
      exact ⟨rfl, HU0.out.trans (HUE.out.trans (HUF.out.trans HUG.out))⟩
end Go.Proofs.YtbimkhdiplnbfaaGreat
end

