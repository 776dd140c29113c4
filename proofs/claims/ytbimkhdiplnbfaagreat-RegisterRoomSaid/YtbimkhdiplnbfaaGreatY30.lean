/- Ops that came in: opened, within the form's reach. -/
import Derived.Test.YtbimkhdiplnbfaaGreatY23
import Derived.Test.YtbimkhdiplnbfaaGreatY27
import Derived.Test.YtbimkhdiplnbfaaGreatY31
set_option linter.unusedVariables false
set_option linter.unusedSimpArgs false

section
namespace Go.Proofs.YtbimkhdiplnbfaaGreat
set_option maxRecDepth 100000
open Go.ChangeShapes Go.WideShapes Go.ChangeAt Go.RowKit Go.Joins Go.Deep

theorem Tryz.cells40 : Tryz.prog.cellsOf 40 = 1 := by kernel_rfl
theorem Tryz.cells3 : Tryz.prog.cellsOf 3 = 1 := by kernel_rfl
theorem Tryz.cells58 : Tryz.prog.cellsOf 58 = 7 := by kernel_rfl
theorem Tryz.bytes4 : Tryz.prog.bytesOf 4 = 1 := by kernel_rfl
/-- The row of booleans at an address. -/
def BoolsIn (w : World) (ka : Option Addr) (keep : List Bool) : Prop := ∀ i b, keep[i]? = some b → ∃ kb ko, ka = some ⟨kb, ko, none⟩ ∧ w.cell? ⟨kb, ko + i, none⟩ = some (.bool b)

section
variable {H : Type} {enc : TypeId × Value → H} {w : World} {base : Nat} {held : Bool} {n : Nat} {cs : List Value} {y : DataW H × List MemPlace}

theorem open_boolsU (h : DataW.trod enc Tryz.prog w base (fun _ => true) held n 40 cs = some y) (hS : Sized 40 y.1) :
    ∃ a c keep, cs = [.slice a keep.length c] ∧ BoolsIn w a keep ∧ keep.length ≤ c ∧ c ≤ 140737488351232 := by
  rcases open_slice Tryz.underlying40 h with ⟨rfl, rfl⟩ | ⟨a', len, cap, m, n', D, Pl, rfl, hb, hl, hm, hmm, rfl, hel⟩
  · exact ⟨none, 0, [], rfl, fun i x hx => by simp at hx, by simp, by omega⟩
  · simp only [if_true] at hmm
    subst hmm
    rw [Tryz.cells4] at hel
    obtain ⟨hb1, _⟩ := hS.slice Tryz.underlying40
    rw [Tryz.bytes4] at hb1
    simp only [List.length_map, List.length_range] at hb1
    obtain ⟨f, hf⟩ := choose_lt (α := Bool) (n := len) (p := fun i z => w.cells? base (a'.add (i * 1)) 1 = some [.bool z]) (fun i hi => by
      obtain ⟨cs', h1, h2⟩ := hel i (by omega)
      obtain ⟨g, e1, _⟩ := DataW.trod_bool Tryz.underlying4b h2
      subst e1
      exact ⟨g, h1⟩)
    have hget : ∀ i x, ((List.range len).map f)[i]? = some x → i < len ∧ x = f i := fun i x hx => by
      rw [List.getElem?_map, Option.map_eq_some_iff] at hx
      obtain ⟨j, hj, rfl⟩ := hx
      obtain ⟨h1, h2⟩ := List.getElem?_eq_some_iff.1 hj
      simp at h1 h2
      exact ⟨h1, by rw [h2]⟩
    refine ⟨some a', m, (List.range len).map f, by simp, fun i x hx => ?_, by simp; omega, by omega⟩
    obtain ⟨hi, rfl⟩ := hget i x hx
    obtain ⟨b, o, sp⟩ := a'
    have hsp : sp = none := spot_none (n := 0) (by have := hf 0 (by omega); rwa [Nat.zero_mul] at this)
    subst hsp
    obtain ⟨_, _, h3⟩ := World.cells?_some (hf i hi)
    have h4 := h3 0 (by omega)
    rw [Nat.mul_one, add_none, add_none] at h4
    exact ⟨b, o, rfl, by rw [Nat.add_zero] at h4; exact h4⟩

/-- An op that came in: its kind, its number, its batch, its Right, its Keep. -/
structure OpIn (w : World) (B : BatchV) (a : Option Addr) (c : Nat) (ra : Option Addr) (R : List Bool) (rc : Nat) (ka : Option Addr) (K : List Bool) (kc : Nat) : Prop where
  batch : BatchIn w B a c
  right : BoolsIn w ra R
  keep : BoolsIn w ka K
  rlen : R.length ≤ rc ∧ rc ≤ 140737488351232
  klen : K.length ≤ kc ∧ kc ≤ 140737488351232
def opC (kd on : Int) (B : BatchV) (a : Option Addr) (c : Nat) (ra : Option Addr) (rn rc : Nat) (ka : Option Addr) (kn kc : Nat) : List Value := [.int .i64 kd, .int .i64 on, .int .u64 B.epoch, .bool B.large, .slice a B.sets.length c, .slice ra rn rc, .slice ka kn kc]

theorem open_opU (h : DataW.trod enc Tryz.prog w base (fun _ => true) held n 58 cs = some y) (hS : Sized 58 y.1) :
    ∃ kd on B a c ra R rc ka K kc, cs = opC kd on B a c ra R.length rc ka K.length kc ∧ OpIn w B a c ra R rc ka K kc := by
  obtain ⟨xs, m, _, rfl, hll, hlen, hff⟩ := DataW.trod_struct Tryz.underlying58 h
  have hl : cs.length = 7 := by rw [hll, Tryz.cells58]
  match cs, hl with
  | [c0, c1, c2, c3, c4, c5, c6], _ =>
    match xs, hlen with
    | [y0, y1, y2, y3, y4], _ =>
      have k3 := Tryz.cells3; have k40 := Tryz.cells40; have k56 := Tryz.cells56
      have h0 : DataW.trod enc Tryz.prog w base (fun _ => true) held m 3 [c0] = some y0 := by simpa [k3] using hff 0 _ rfl
      have h1 : DataW.trod enc Tryz.prog w base (fun _ => true) held m 3 [c1] = some y1 := by simpa [k3] using hff 1 _ rfl
      have h2 : DataW.trod enc Tryz.prog w base (fun _ => true) held m 56 [c2, c3, c4] = some y2 := by simpa [k3, k56] using hff 2 _ rfl
      have h3 : DataW.trod enc Tryz.prog w base (fun _ => true) held m 40 [c5] = some y3 := by simpa [k3, k56, k40] using hff 3 _ rfl
      have h4 : DataW.trod enc Tryz.prog w base (fun _ => true) held m 40 [c6] = some y4 := by simpa [k3, k56, k40] using hff 4 _ rfl
      have s2 : Sized 56 y2.1 := hS.field Tryz.underlying58 (i := 2) rfl rfl
      have s3 : Sized 40 y3.1 := hS.field Tryz.underlying58 (i := 3) rfl rfl
      have s4 : Sized 40 y4.1 := hS.field Tryz.underlying58 (i := 4) rfl rfl
      obtain ⟨kd, e0, _⟩ := DataW.trod_int Tryz.underlying3 h0
      obtain ⟨on, e1, _⟩ := DataW.trod_int Tryz.underlying3 h1
      obtain ⟨B, a, c, e2, g⟩ := open_batchU h2 s2
      obtain ⟨ra, rc, R, e3, r1, r2, r3⟩ := open_boolsU h3 s3
      obtain ⟨ka, kc, K, e4, q1, q2, q3⟩ := open_boolsU h4 s4
      unfold batchC at e2
      simp at e0 e1 e2 e3 e4
      obtain ⟨e5, e6, e7⟩ := e2
      subst e0 e1 e3 e4 e5 e6 e7
      exact ⟨kd, on, B, a, c, ra, R, rc, ka, K, kc, rfl, g, r1, q1, ⟨r2, r3⟩, ⟨q2, q3⟩⟩

/-- Ops that came in a row. -/
def OpsIn (w : World) (la : Option Addr) (n : Nat) : Prop := ∀ i, i < n → ∃ b o kd on B a c ra R rc ka K kc, la = some ⟨b, o, none⟩ ∧ OpIn w B a c ra R rc ka K kc ∧
  ∀ t, t < 7 → w.cell? ⟨b, o + (i * 7 + t), none⟩ = (opC kd on B a c ra R.length rc ka K.length kc)[t]?

theorem open_opsU (h : DataW.trod enc Tryz.prog w base (fun _ => true) held n 75 cs = some y) (hS : Sized 75 y.1) :
    ∃ a k c, cs = [.slice a k c] ∧ OpsIn w a k ∧ k ≤ c ∧ c ≤ maxLen := by
  rcases open_slice Tryz.underlying75 h with ⟨rfl, rfl⟩ | ⟨a', len, cap, m, n', D, Pl, rfl, hb, hl, hm, hmm, rfl, hel⟩
  · exact ⟨none, 0, 0, rfl, fun i hi => by omega, Nat.le_refl _, by unfold maxLen; omega⟩
  · simp only [if_true] at hmm
    subst hmm
    rw [Tryz.cells58] at hel
    obtain ⟨_, hb2⟩ := hS.slice Tryz.underlying75
    refine ⟨some a', len, m, rfl, fun i hi => ?_, hl, hm⟩
    obtain ⟨cs', h1, h2⟩ := hel i (by omega)
    obtain ⟨kd, on, B, a, c, ra, R, rc, ka, K, kc, rfl, g⟩ := open_opU h2 (hb2 _ (List.mem_map.2 ⟨i, List.mem_range.2 hi, rfl⟩))
    have hcell : ∀ t, t < 7 → w.cell? (a'.add (i * 7 + t)) = (opC kd on B a c ra R.length rc ka K.length kc)[t]? := fun t ht => by
      obtain ⟨_, _, h3⟩ := World.cells?_some h1
      rw [← Addr.add_add, h3 t ht]
    obtain ⟨b, o, sp⟩ := a'
    have hsp : sp = none := by
      obtain ⟨cs0, h10, _⟩ := hel 0 (by omega)
      exact spot_none (n := 6) (by rwa [Nat.zero_mul] at h10)
    subst hsp
    exact ⟨b, o, kd, on, B, a, c, ra, R, rc, ka, K, kc, rfl, g, fun t ht => by rw [← add_none]; exact hcell t ht⟩
end

theorem BoolsIn.kept {w w' : World} {ka : Option Addr} {K : List Bool} (h : BoolsIn w ka K) (hu : Upd (fun _ => False) w w') : BoolsIn w' ka K := fun i b hb => by
  obtain ⟨kb, ko, e, hc⟩ := h i b hb
  exact ⟨kb, ko, e, cell_keptF hu (fun e => e) hc⟩
theorem BoolsIn.boolsR {w : World} {ka : Option Addr} {K : List Bool} (h : BoolsIn w ka K) : BoolsR w ka K := fun i b hb => by
  obtain ⟨kb, ko, e, hc⟩ := h i b hb
  refine ⟨kb, ko, e, ?_, hc⟩
  rcases Nat.lt_or_ge kb w.heap.size with h' | h'
  · exact h'
  · simp [World.cell?, Array.getElem?_eq_none h'] at hc
theorem OpIn.kept {w w' : World} {B : BatchV} {a ra ka : Option Addr} {c rc kc : Nat} {R K : List Bool} (h : OpIn w B a c ra R rc ka K kc) (hu : Upd (fun _ => False) w w') : OpIn w' B a c ra R rc ka K kc := ⟨h.batch.kept hu, h.right.kept hu, h.keep.kept hu, h.rlen, h.klen⟩
theorem OpsIn.kept {w w' : World} {la : Option Addr} {n : Nat} (h : OpsIn w la n) (hu : Upd (fun _ => False) w w') : OpsIn w' la n := fun i hi => by
  obtain ⟨b, o, kd, on, B, a, c, ra, R, rc, ka, K, kc, e, h1, h2⟩ := h i hi
  refine ⟨b, o, kd, on, B, a, c, ra, R, rc, ka, K, kc, e, h1.kept hu, fun t ht => ?_⟩
  have h3 := h2 t ht
  have hl : t < (opC kd on B a c ra R.length rc ka K.length kc).length := ht
  rw [List.getElem?_eq_getElem hl] at h3 ⊢
  exact cell_keptF hu (fun e => e) h3

theorem batchR_ok {l : KV} {R : List Bool} {B : BatchV} (hl : l.Fine) (he : 0 ≤ B.epoch ∧ B.epoch ≤ 18446744073709551615) (hb : ∀ x ∈ B.sets, Bytes x.old ∧ Bytes x.new) : (batchR l R B).Ok ∧ (batchR l R B).sets.length ≤ 49 := by
  refine ⟨⟨he, fun x hx => ?_⟩, by simp [batchR]; omega⟩
  simp only [batchR, List.mem_mapIdx] at hx
  obtain ⟨i, hi, rfl⟩ := hx
  have hm := hb _ (List.mem_of_mem_take (List.getElem_mem hi))
  have hc : ∀ y : SetV, Bytes y.old ∧ Bytes y.new → (clipV y).Ok := fun y hy => ⟨fun z hz => hy.1 z (List.mem_of_mem_take hz), fun z hz => hy.2 z (List.mem_of_mem_take hz)⟩
  unfold rightV
  split
  · refine ⟨?_, (hc _ hm).new⟩
    intro z hz
    simp only at hz
    revert hz
    cases e : l.get (clipV (B.sets.take 49)[i]).name with
    | none => intro hz; simp at hz
    | some v => exact fun hz => (hl.each _ ((KV.get_some hl.rising).1 e)).2.2.2 z hz
  · exact hc _ hm
end Go.Proofs.YtbimkhdiplnbfaaGreat
end

section
namespace Go.Proofs.YtbimkhdiplnbfaaGreat
set_option maxRecDepth 100000
open Go.RowKit Go.Shelf

theorem elem75 : Tryz.prog.underlying 75 = some (.slice (Tryz.prog.elem 75)) := by kernel_rfl
theorem size75e (W : World) : (sizeOf (Tryz.prog.elem 75)).run Tryz.prog W = .ok 7 W := by kernel_rfl

set_option maxHeartbeats 4000000 in
theorem few_any {la : Option Addr} {n c : Nat} {w0 : World} (w : World) (h : OpsIn w0 la n) (hl : n ≤ c) (hc : c ≤ maxLen) :
    Calls Tryz.prog 29 #[.slice la n c] w fun e w' => ∃ la' k, e = .returned (.slice la' k c) ∧ OpsIn w0 la' k ∧ k ≤ 20 ∧ w = w' := by
  obtain ⟨m, hm⟩ : ∃ m, m = min n 20 := ⟨_, rfl⟩
  have hmn : min (n : Int) 20 = (m : Int) := by omega
  have hr : ∀ W, (Instr.slice 75 (.slice la n c) none (some (.int .i64 m)) none).run Tryz.prog W = .ok (sliced la 0 m c 7) W := fun W => by
    rw [run_slice_h W 75 la n c elem75 .i64 m (by omega) (by omega), size75e]
    simp [Result.andThen]
  have hx : ∃ la', sliced la 0 m c 7 = .slice la' m c ∧ OpsIn w0 la' m := by
    cases la with
    | none => exact ⟨none, by unfold sliced; simp, fun i hi => by
        obtain ⟨b, o, _, _, _, _, _, _, _, _, _, _, _, e, _⟩ := h i (by omega)
        cases e⟩
    | some ad =>
      refine ⟨some (if c = 0 then ad else ad.add 0), by unfold sliced; simp; split <;> rfl, fun i hi => ?_⟩
      obtain ⟨b, o, kd, on, B, a, c', ra, R, rc, ka, K, kc, e, h1, h2⟩ := h i (by omega)
      injection e with e
      subst e
      exact ⟨b, o, kd, on, B, a, c', ra, R, rc, ka, K, kc, by split <;> rfl, h1, h2⟩
  obtain ⟨la', e1, h1⟩ := hx
  rw [e1] at hr
  have H1 := Lib.hid h1
  have hm20 : m ≤ 20 := by omega
  have HM := Lib.hid hm20
  clear h h1 e1 hm hm20
  go_enter Tryz.func29, Tryz.ntmps29
  go_wp2
  go_ret
  exact ⟨_, _, rfl, H1.out, HM.out, rfl⟩
end Go.Proofs.YtbimkhdiplnbfaaGreat
end

section
namespace Go.Proofs.YtbimkhdiplnbfaaGreat
set_option maxRecDepth 100000
open Go.RowKit Go.Shelf

theorem one_in73 {W : World} {g : Nat} {nm : ByteArray} {bo : Bool} {od nw : List Int} {oa na : Option Addr} {oc : Nat} (h : W.heap[g]? = some (.cells #[.string nm, .bool bo, .bool true, .slice oa od.length oc, .slice na 1 1] 73 (0, 0))) (h1 : BytesIn W (.slice oa od.length oc) od) (h2 : BytesIn W (.slice na 1 1) nw) (hl : od.length ≤ 3000) (hb : Bytes od) (hn : nw.length = 1 := by rfl) (hnb : Bytes nw := by first | assumption | (intro y hy; simp at hy; omega)) (hnm : nm.size ≤ 24 := by decide) : SetsIn W (some ⟨g, 0, none⟩) [⟨nm, bo, true, od, nw⟩] := by
  intro i x hx
  have hi : i = 0 := by
    have := (List.getElem?_eq_some_iff.1 hx).1
    simp at this
    exact this
  subst hi
  simp at hx
  subst hx
  obtain ⟨c0, c1, c2, c3, c4⟩ := cells5_of h
  exact ⟨show nm.size ≤ 140737488351232 by omega, by show od.length ≤ _; omega, show nw.length ≤ 140737488351232 by omega, g, 0, rfl, oa, oc, na, 1, c0, c1, c2, c3, by show W.cell? _ = some (.slice na nw.length 1); rw [hn]; exact c4, h1, by show BytesIn W (.slice na nw.length 1) nw; rw [hn]; exact h2, hb, hnb⟩

set_option maxHeartbeats 8000000 in
theorem room_run {la a0 : Option Addr} {ln lc c0 : Nat} {B0 : BatchV} (w00 : World) (hops : OpsIn w00 la ln) (hl : ln ≤ lc) (hc : lc ≤ maxLen) (hb0 : BatchIn w00 B0 a0 c0) :
    Calls Tryz.prog 6 #[.slice la ln lc, .agg #[.int .u64 B0.epoch, .bool B0.large, .slice a0 B0.sets.length c0]] w00 fun e w' => e = .returned (.bool true) ∧ Upd (fun _ => False) w00 w' := by
  have hu00 : Upd (fun _ => False) w00 (w00.alloc (.cells #[.int .u64 B0.epoch, .bool B0.large, .slice a0 B0.sets.length c0] 56)) := (Upd.refl _ w00).alloc _
  have hx00 : (w00.alloc (.cells #[.int .u64 B0.epoch, .bool B0.large, .slice a0 B0.sets.length c0] 56)).heap[w00.heap.size]? = some (.cells #[.int .u64 B0.epoch, .bool B0.large, .slice a0 B0.sets.length c0] 56 (0, 0)) := alloc_at rfl
  have HU0 := Lib.hid hu00; have HX0 := Lib.hid hx00; have HB0 := Lib.hid (hb0.kept hu00)
  have HO := Lib.hid (hops.kept hu00); have HL := Lib.hid hl; have HC := Lib.hid hc
  clear hops hl hc hu00 hx00 hb0
  go_enter Tryz.func6, Tryz.ntmps6
  go_upto_region 1 with fail
  generalize w00.alloc (.cells #[.int .u64 B0.epoch, .bool B0.large, .slice a0 B0.sets.length c0] 56) = w at HU0 HX0 HB0 HO ⊢
  obtain ⟨bx0, hbx0⟩ : ∃ b, b = w00.heap.size := ⟨_, rfl⟩
  rw [← hbx0] at HX0 ⊢
  clear hbx0
  go_wp2_with (go_at_call 18; fail)
  refine (wakes_any w).mono ?_
  rintro e w1 ⟨rfl, hu1⟩
  have HU1 := Lib.hid hu1
  clear hu1
  simp only []
  go_wp2_with (go_at_call 28; fail)
  refine (made_any (area := 30) (N := 62) w1 (by omega) (by omega)).mono ?_
  rintro e w2 ⟨p, r, rfl, hrg, hpl⟩
  have HU2 := Lib.hid (HU1.out.trans hrg.upd); have HRG := Lib.hid hrg
  clear hrg hpl
  simp only []
  go_wp2_with (go_at_call 29; fail)
  refine (few_any w2 (HO.out.kept HU1.out) HL.out HC.out).mono ?_
  rintro e w3 ⟨la', kn, rfl, hops, hk20, rfl⟩
  have HOP := Lib.hid hops; have HK20 := Lib.hid hk20
  clear hops hk20
  simp only []
  go_upto_block 0 with fail
  go_upto_region 7 with fail
  go_loopg [29] kn (fun gk i wr => ∃ (k : Nat) (ev : Int) (l : KV), k ≤ kn ∧ gk = kn - k ∧ i = .int .i64 k ∧ RgC w1 wr p r 62 30 k ev l)
  case atStart => exact ⟨0, 0, [], Nat.zero_le _, rfl, rfl, HRG.out⟩
  case round =>
    obtain ⟨k, ev, l, hk, rfl, rfl, hrg⟩ := hrel
    have HU := Lib.hid hrg.upd; have HRK := Lib.hid hrg
    clear hrg
    by_cases hkn : k < kn
    · have hkni : (k : Int) < kn := by omega
      have hk20 : k < 20 := by have := HK20.out; omega
      obtain ⟨b, o, kd, on, B, a, c, ra, R, rc, ka, K, kc, rfl, hin, hcell⟩ := (HOP.out.kept HU.out) k hkn
      have q0 := hcell 0 (by omega); have q1 := hcell 1 (by omega); have q2 := hcell 2 (by omega); have q3 := hcell 3 (by omega); have q4 := hcell 4 (by omega); have q5 := hcell 5 (by omega); have q6 := hcell 6 (by omega)
      simp only [opC, ← Nat.add_assoc, Nat.add_zero] at q0 q1 q2 q3 q4 q5 q6
      simp at q0 q1 q2 q3 q4 q5 q6
      have HIN := Lib.hid hin
      clear hin hcell
      go_upto_region 9 with fail
      obtain ⟨wa, hwa⟩ : ∃ wa, wa = wr.alloc (.cells #[.int .i64 kd, .int .i64 on, .int .u64 B.epoch, .bool B.large, .slice a B.sets.length c, .slice ra R.length rc, .slice ka K.length kc] 58) := ⟨_, rfl⟩
      rw [← hwa]
      have hua : Upd (fun _ => False) wr wa := by rw [hwa]; exact (Upd.refl _ wr).alloc _
      have hxa : wa.heap[wr.heap.size]? = some (.cells #[.int .i64 kd, .int .i64 on, .int .u64 B.epoch, .bool B.large, .slice a B.sets.length c, .slice ra R.length rc, .slice ka K.length kc] 58 (0, 0)) := by rw [hwa]; exact alloc_at rfl
      have HUA := Lib.hid (HU.out.trans hua); have HXA := Lib.hid hxa; have HRA := Lib.hid (HRK.out.kept0 hua); have HINA := Lib.hid (HIN.out.kept hua)
      obtain ⟨ob, hob⟩ : ∃ ob, ob = wr.heap.size := ⟨_, rfl⟩
      rw [← hob] at HXA ⊢
      clear hwa hua hxa hob q0 q1 q2 q3 q4 q5 q6 HIN HRK HU
      go_wp2_with (go_at_call 30; fail)
      refine HRA.out.told.1.mono ?_
      rintro e wt ⟨ta, tc, TC, rfl, ht1, ht2, ht3, ht4⟩
      have HT1 := Lib.hid ht1; have HT4 := Lib.hid ht4
      clear ht1 ht2 ht3 ht4
      simp only []
      go_upto_region 10 with fail
      obtain ⟨wb, hwb⟩ : ∃ wb, wb = wt.alloc (.cells #[.int .u64 ev, .slice ta l.length tc] 62) := ⟨_, rfl⟩
      rw [← hwb]
      have hub : Upd (fun _ => False) wt wb := by rw [hwb]; exact (Upd.refl _ wt).alloc _
      have hxb : wb.heap[wt.heap.size]? = some (.cells #[.int .u64 ev, .slice ta l.length tc] 62 (0, 0)) := by rw [hwb]; exact alloc_at rfl
      have hab := HT4.out.trans hub
      have hxo := (hab.block _ (lt_of_heap HXA.out) (fun e => e)).trans HXA.out
      have co : ∀ j v, #[Value.int .i64 kd, .int .i64 on, .int .u64 B.epoch, .bool B.large, .slice a B.sets.length c, .slice ra R.length rc, .slice ka K.length kc][j]? = some v → wb.cell? ⟨ob, j, none⟩ = some v := fun j v h => by rw [cell_of_heap hxo]; exact h
      have q0 := co 0 _ rfl; have q1 := co 1 _ rfl; have q2 := co 2 _ rfl; have q3 := co 3 _ rfl; have q4 := co 4 _ rfl; have q5 := co 5 _ rfl; have q6 := co 6 _ rfl
      obtain ⟨z0, z1⟩ := cells2_of hxb
      have hinb := HINA.out.kept hab
      have hrb := HRA.out.kept0 hab
      have hfn := hrb.told.2
      have HUB := Lib.hid (HUA.out.trans hab); have HRB := Lib.hid hrb; have HFN := Lib.hid hfn
      have HOK := Lib.hid (batchR_ok (l := l) (R := R) hfn hinb.batch.epoch hinb.batch.bytes)
      have HBT := Lib.hid (batch_right (kd := kd) (on := on) (e0 := ev) (ka := ka) (kn := K.length) (kc := kc) (rc := rc) (pc := tc) (R := R) (l := l) wb hinb.batch.sets hinb.batch.bytes hinb.batch.len (by have := hinb.batch.cap; unfold maxLen; omega) hinb.right.boolsR rfl (HT1.out.valsAt.kept0 hub) rfl hfn)
      clear hwb hub hxb hab hxo co hinb hrb hfn HUA HXA HRA HINA HT1 HT4
      go_wp2_with (go_at_call 19; fail)
      refine HBT.out.mono ?_
      rintro e wc ⟨a2, c2, rfl, ⟨SC, hs1, hs2, hs3⟩, hs4, hs5⟩
      have HCM := Lib.hid ((HRB.out.kept0 hs5).commit (c := c2) (by omega) hs1.setsAt.setsIn (by have := HOK.out.2; omega) HOK.out.1 (fun b o e => (hs1.addr b o e).2))
      have HUC := Lib.hid (HUB.out.trans hs5)
      clear hs1 hs2 hs3 hs4 hs5 HBT HRB z0 z1 q0 q1 q2 q3 q4 q5 q6
      simp only []
      go_wp2_with (go_at_call 31; fail)
      refine HCM.out.mono ?_
      rintro e wd ⟨E, ev', l', rfl, hrg, _, _, _⟩
      have HRD := Lib.hid hrg
      have hcv2 : IntKind.i64.wrap ((k : Int) + 1) = (k : Int) + 1 := by rw [IntKind.wrap_i64]; omega
      clear hrg HCM HOK
      simp only []
      go_wp2
      go_roundg (kn - (k + 1))
      case measure => omega
      case rel => exact ⟨k + 1, ev', l', by omega, rfl, congrArg _ (by omega), HRD.out⟩
    · obtain rfl : k = kn := by omega
      go_wp2_with (go_at_call 30; fail)
      refine HRK.out.told.1.mono ?_
      rintro e wt ⟨ta, tc, TC, rfl, ht1, ht2, ht3, ht4⟩
      have HT1 := Lib.hid ht1; have HT4 := Lib.hid ht4; have HRT := Lib.hid (HRK.out.kept0 ht4); have HFN := Lib.hid HRK.out.told.2; have HTC := Lib.hid (show ∀ k, TC k → k < wt.heap.size from ht3.lt)
      have HTLO := Lib.hid ht2; have HTA := Lib.hid (show ∀ g o, ta = some ⟨g, o, none⟩ → wr.heap.size ≤ g from fun g o e => ht1.low_own (by rw [e]; rfl))
      have HTU := Lib.hid ht4
      clear ht1 ht2 ht3 ht4 HU
      simp only []
      go_upto_region 13 with fail
      obtain ⟨wb, hwb⟩ : ∃ wb, wb = wt.alloc (.cells #[.int .u64 ev, .slice ta l.length tc] 62) := ⟨_, rfl⟩
      rw [← hwb]
      have hub : Upd (fun _ => False) wt wb := by rw [hwb]; exact (Upd.refl _ wt).alloc _
      have hxb : wb.heap[wt.heap.size]? = some (.cells #[.int .u64 ev, .slice ta l.length tc] 62 (0, 0)) := by rw [hwb]; exact alloc_at rfl
      obtain ⟨sb, hsb⟩ : ∃ sb, sb = wt.heap.size := ⟨_, rfl⟩
      have HSL := Lib.hid (show wr.heap.size ≤ sb by have := HTU.out.size; omega)
      have HXB := Lib.hid hxb; have HVB := Lib.hid (HT1.out.valsAt.kept0 hub); have HUW := Lib.hid (HTU.out.trans hub); have HRB := Lib.hid (HRT.out.kept0 hub); have HTC := Lib.hid (show ∀ k, TC k → k < wb.heap.size from fun k hk => Nat.lt_of_lt_of_le (HTC.out k hk) hub.size)
      rw [← hsb] at HXB ⊢
      clear hwb hub hxb hsb HT1 HT4 HRT
      have hub0 := HU1.out.trans HRB.out.upd
      have hbx : wb.heap[bx0]? = some (.cells #[.int .u64 B0.epoch, .bool B0.large, .slice a0 B0.sets.length c0] 56 (0, 0)) := (hub0.block _ (lt_of_heap HX0.out) (fun e => e)).trans HX0.out
      obtain ⟨y0, y1, y2⟩ := cells3_of hbx
      have hin := HB0.out.kept hub0
      obtain ⟨wc, hwc⟩ : ∃ wc, wc = wb.alloc (.cells #[.bool true, .bool true, .bool true, .bool true] 4) := ⟨_, rfl⟩
      have huc : Upd (fun _ => False) wb wc := by rw [hwc]; exact (Upd.refl _ wb).alloc _
      have hxc : wc.heap[wb.heap.size]? = some (.cells #[.bool true, .bool true, .bool true, .bool true] 4 (0, 0)) := by rw [hwc]; exact alloc_at rfl
      have hbr : BoolsR wc (some ⟨wb.heap.size, 0, none⟩) [true, true, true, true] := fun i b hi => by
        have h4 : i < 4 := by have := (List.getElem?_eq_some_iff.1 hi).1; simpa using this
        refine ⟨wb.heap.size, 0, rfl, lt_of_heap hxc, ?_⟩
        rw [cell_of_heap hxc, Nat.zero_add]
        have : i = 0 ∨ i = 1 ∨ i = 2 ∨ i = 3 := by omega
        rcases this with rfl | rfl | rfl | rfl <;> (simp at hi; subst hi; rfl)
      obtain ⟨B2, hB2⟩ : ∃ B2, B2 = batchR l [true, true, true, true] B0 := ⟨_, rfl⟩
      have hbt : Calls Tryz.prog 19 #[.agg #[.int .i64 0, .int .i64 0, .int .u64 B0.epoch, .bool B0.large, .slice a0 B0.sets.length c0, .slice (some ⟨wb.heap.size, 0, none⟩) 4 4, .slice none 0 0], .agg #[.int .u64 ev, .slice ta l.length tc]] wc _ :=
        batch_right (kd := 0) (on := 0) (e0 := ev) (ka := none) (kn := 0) (kc := 0) (rc := 4) (rn := 4) (pc := tc) (R := [true, true, true, true]) (l := l) wc (hin.kept huc).sets hin.bytes hin.len (by have := hin.cap; unfold maxLen; omega) hbr rfl (HVB.out.kept0 huc) rfl HFN.out
      have hok := batchR_ok (l := l) (R := [true, true, true, true]) HFN.out hin.epoch hin.bytes
      rw [← hB2] at hbt hok
      unfold CopyAns batchV at hbt
      have HBT := Lib.hid hbt; have HOK := Lib.hid hok; have HWC := Lib.hid hwc; have HUC := Lib.hid huc; have HRC := Lib.hid (HRB.out.kept0 huc)
      clear hub0 hbx hin hwc huc hxc hbr hB2 hbt hok HVB
      iterate 10 go_step
      rw [← HWC.out]
      obtain ⟨z0, z1⟩ := cells2_of ((HUC.out.block _ (lt_of_heap HXB.out) (fun e => e)).trans HXB.out)
      go_wp2_with (go_at_call 19; fail)
      refine HBT.out.mono ?_
      rintro e wd ⟨a2, c2, rfl, ⟨SC, hs1, hs2, hs3⟩, hs4, hs5⟩
      have HRD := Lib.hid (HRC.out.kept0 hs5)
      have hsi := hs1.setsAt.setsIn
      have hsa : ∀ b o, a2 = some ⟨b, o, none⟩ → b < wd.heap.size := fun b o e => (hs1.addr b o e).2
      have HSI := Lib.hid hsi; have HSA := Lib.hid hsa
      clear hs1 hs2 hs3 hs4 hs5 hsi hsa HBT HRC y0 y1 y2 z0 z1
      simp only []
      go_upto_region 14 with fail
      obtain ⟨we, hwe⟩ : ∃ we, we = wd.alloc (.cells #[.int .u64 B2.epoch, .bool B2.large, .slice a2 B2.sets.length c2] 56) := ⟨_, rfl⟩
      rw [← hwe]
      have hue : Upd (fun _ => False) wd we := by rw [hwe]; exact (Upd.refl _ wd).alloc _
      have hxe : we.heap[wd.heap.size]? = some (.cells #[.int .u64 B2.epoch, .bool B2.large, .slice a2 B2.sets.length c2] 56 (0, 0)) := by rw [hwe]; exact alloc_at rfl
      obtain ⟨xb, hxb⟩ : ∃ xb, xb = wd.heap.size := ⟨_, rfl⟩
      rw [← hxb] at hxe ⊢
      have HXL := Lib.hid (show wd.heap.size ≤ xb by omega)
      have HXE := Lib.hid hxe; have HUE := Lib.hid hue; have HRE := Lib.hid (HRD.out.kept0 hue)
      clear hwe hue hxb
      obtain ⟨x0, x1, x2⟩ := cells3_of hxe
      have fr0 : we.frozen? ⟨xb, 0, none⟩ = false := frozen_of_heap hxe
      have fr1 : we.frozen? ⟨xb, 1, none⟩ = false := frozen_of_heap hxe
      clear hxe
      go_wp2_with (go_at_call 36; fail)
      refine HRE.out.epoch.mono ?_
      rintro e wf ⟨rfl, rfl⟩
      simp only []
      go_upto_region 15 with fail
      obtain ⟨wf, hwf⟩ : ∃ wf, wf = (we.setCell ⟨xb, 1, none⟩ (.bool true)).setCell ⟨xb, 0, none⟩ (.int .u64 ev) := ⟨_, rfl⟩
      rw [← hwf]
      have huf : Upd (fun k => k = xb) we wf := by rw [hwf]; exact (upd_own we xb 1 _).trans (upd_own _ xb 0 _)
      have hxf : wf.heap[xb]? = some (.cells #[.int .u64 ev, .bool true, .slice a2 B2.sets.length c2] 56 (0, 0)) := by
        rw [hwf]
        have := blk_set (i := 0) (v := .int .u64 ev) (blk_set (i := 1) (v := .bool true) HXE.out)
        simpa using this
      have hdf : Upd (fun _ => False) wd wf := HUE.out.step huf (fun j hj e => by have := HXL.out; omega)
      have HRF := Lib.hid (HRD.out.kept0 hdf)
      have hfi := HRF.out.fine
      have hk2 : (⟨ev, true, B2.sets⟩ : BatchV).Ok := ⟨by show 0 ≤ ev ∧ ev ≤ 18446744073709551615; omega, HOK.out.1.sets⟩
      have hcm := HRF.out.commit (c := c2) (B := ⟨ev, true, B2.sets⟩) (by have := HK20.out; omega) (HSI.out.kept hdf) (by show B2.sets.length ≤ 900; have := HOK.out.2; omega) hk2 (fun b o e => Nat.lt_of_lt_of_le (HSA.out b o e) hdf.size)
      unfold batchV at hcm
      have HCM := Lib.hid hcm; have HK2 := Lib.hid hk2
      obtain ⟨x0, x1, x2⟩ := cells3_of hxf
      clear hwf huf hxf hdf hfi hk2 hcm fr0 fr1 HRD HRE HXE HUE HSI HSA
      go_wp2_with (go_at_call 31; fail)
      refine HCM.out.mono ?_
      rintro e wg ⟨E, ev', l', rfl, hrg, hE0, hE1, ⟨X, hX1, hX2, hX3⟩⟩
      have HRG := Lib.hid hrg; have HE0 := Lib.hid hE0; have HX3 := Lib.hid hX3
      clear hrg hE0 hE1 hX1 hX2 hX3 HCM x0 x1 x2
      simp only []
      by_cases hE : E = 0
      · subst hE
        obtain ⟨h1, h2⟩ := HE0.out rfl
        obtain ⟨h3, h4, h5⟩ := large_fits (B := ⟨ev, true, B2.sets⟩) HFN.out rfl HK2.out HX3.out.symm
        have hep : ev ≤ 4611686018427387904 := (HRF.out.fine).2.2
        obtain ⟨m, hm⟩ : ∃ m, m = (l.withs B2.sets).heft := ⟨_, rfl⟩
        have h55 : fitsF (10 + m : Nat) 22 = true := by
          have h6 : fitsF (wholeF ev (l.withs B2.sets)).length 22 = true := h5
          rw [whole_len, ← hm] at h6
          exact h6
        have hrg2 : RgC w1 wg p r 62 30 (k + 1) ev l' := by
          have := HRG.out
          rw [h1] at this
          exact this
        have hroom : RoomI { data := #[115] } m 0 l' := ⟨fun _ => by rw [h2, hm]; exact Nat.le_refl _, fun h => by omega⟩
        have HRG2 := Lib.hid hrg2; have HRM := Lib.hid hroom; have H55 := Lib.hid h55; have HEP := Lib.hid hep
        clear hm h1 h2 h3 h4 h5 h55 hep hrg2 hroom HRG HE0 HX3 HRF
        go_upto_block 2 with fail
        go_upto_region 18 with fail
        obtain ⟨wo, hwo⟩ : ∃ wo : World, wo = wg := ⟨_, rfl⟩
        go_loopg [62] 20 (fun gk i wr => ∃ (j : Nat) (l2 : KV), j ≤ 20 ∧ gk = 20 - j ∧ i = .int .i64 j ∧ RgC w1 wr p r 62 30 (k + 1 + j) ev l2 ∧ RoomI { data := #[115] } m j l2)
        case atStart => exact ⟨0, l', Nat.zero_le _, rfl, rfl, HRG2.out, HRM.out⟩
        case round =>
          obtain ⟨j, l2, hj, rfl, rfl, hrj, hro⟩ := hrel
          have HRJ := Lib.hid hrj; have HRO := Lib.hid hro
          clear hrj hro
          by_cases hj20 : j < 20
          · have hji : (j : Int) < 20 := by omega
            have hcv8 : IntKind.u8.wrap (j : Int) = j := by rw [IntKind.wrap_u8]; omega
            go_upto_region 21 with fail
            obtain ⟨wc, hwc⟩ : ∃ wc, wc = (wr.alloc (.cells #[.int .u8 j] 5)).alloc (.cells #[.string { data := #[115] }, .bool false, .bool true, .slice none 0 0, .slice (some ⟨wr.heap.size, 0, none⟩) 1 1] 73) := ⟨_, rfl⟩
            rw [← hwc]
            have huc : Upd (fun _ => False) wr wc := by rw [hwc]; exact ((Upd.refl _ wr).alloc _).alloc _
            have hxc : wc.heap[wr.heap.size + 1]? = some (.cells #[.string { data := #[115] }, .bool false, .bool true, .slice none 0 0, .slice (some ⟨wr.heap.size, 0, none⟩) 1 1] 73 (0, 0)) := by rw [hwc]; exact alloc_at (by simp)
            have hnine : wc.heap[wr.heap.size]? = some (.cells #[.int .u8 j] 5 (0, 0)) := by rw [hwc, alloc_lt (by simp)]; exact alloc_at rfl
            obtain ⟨nb9, hnb⟩ : ∃ x, x = wr.heap.size := ⟨_, rfl⟩
            obtain ⟨xb, hxb⟩ : ∃ x, x = wr.heap.size + 1 := ⟨_, rfl⟩
            rw [← hxb, ← hnb] at hxc
            rw [← hnb] at hnine
            rw [← hxb, ← hnb]
            have HXC := Lib.hid hxc; have HNI := Lib.hid hnine; have HNX9 := Lib.hid (show nb9 ≠ xb by omega); have HRC := Lib.hid (HRJ.out.kept0 huc); have HXS := Lib.hid (show wr.heap.size ≤ xb by omega); have HUC := Lib.hid huc
            have HVL := Lib.hid ((HRJ.out.kept0 huc).value (s := { data := #[115] }) (by decide))
            clear hwc huc hxc hnine hnb hxb
            go_wp2_with (go_at_call 34; fail)
            refine HVL.out.mono ?_
            rintro e wd ⟨u, rfl, hown, hud⟩
            obtain ⟨bo, hbo⟩ : ∃ bo, bo = (l2.get { data := #[115] }).isSome := ⟨_, rfl⟩
            obtain ⟨od, hod⟩ : ∃ od, od = (l2.get { data := #[115] }).getD [] := ⟨_, rfl⟩
            rw [← hbo]
            rw [← hod] at hown
            obtain ⟨oa, oc, rfl, _⟩ := hown.bytesAt.1.slice
            have hob := hown.bytesAt.1.bytesIn
            have hon : ∀ k, (Value.slice oa od.length oc).ownBlock = some k → wc.heap.size ≤ k := hown.bytesAt.2.2
            have hxd := (hud.block _ (lt_of_heap HXC.out) (fun e => e)).trans HXC.out
            obtain ⟨x0, x1, x2, x3, x4⟩ := cells5_of hxd
            have fr1 : wd.frozen? ⟨xb, 1, none⟩ = false := frozen_of_heap hxd
            have fr3 : wd.frozen? ⟨xb, 3, none⟩ = false := frozen_of_heap hxd
            have HOA := Lib.hid hown.bytesAt.1; have HON := Lib.hid hon; have HXD := Lib.hid hxd; have HUD := Lib.hid hud; have HBO := Lib.hid hbo; have HOD := Lib.hid hod
            have hodf : od.length ≤ 3000 ∧ Bytes od := by
              rw [hod]
              cases e : l2.get { data := #[115] } with
              | none => exact ⟨by simp, fun y hy => by simp at hy⟩
              | some v =>
                have := HRJ.out.fine.1.each _ ((KV.get_some HRJ.out.fine.1.rising).1 e)
                exact ⟨this.2.2.1, this.2.2.2⟩
            have HODF := Lib.hid hodf
            clear hown hob hon hxd hud hbo hod hodf HVL
            simp only []
            go_upto_region 22 with fail
            obtain ⟨we, hwe⟩ : ∃ we, we = (wd.setCell ⟨xb, 3, none⟩ (.slice oa od.length oc)).setCell ⟨xb, 1, none⟩ (.bool bo) := ⟨_, rfl⟩
            rw [← hwe]
            have hue : Upd (fun k => k = xb) wd we := by rw [hwe]; exact (upd_own wd xb 3 _).trans (upd_own _ xb 1 _)
            have hxe : we.heap[xb]? = some (.cells #[.string { data := #[115] }, .bool bo, .bool true, .slice oa od.length oc, .slice (some ⟨nb9, 0, none⟩) 1 1] 73 (0, 0)) := by
              rw [hwe]
              have := blk_set (i := 1) (v := .bool bo) (blk_set (i := 3) (v := .slice oa od.length oc) HXD.out)
              simpa using this
            have hre : Upd (fun _ => False) wr we := (HUC.out.trans HUD.out).step hue (fun j hj e => by have := HXS.out; omega)
            have hob := (HOA.out.kept hue (fun k hk e => by have := HON.out k hk; have := lt_of_heap HXC.out; omega)).bytesIn
            have hni : we.heap[nb9]? = some (.cells #[.int .u8 j] 5 (0, 0)) := (hue.block _ (lt_of_heap ((HUD.out.block _ (lt_of_heap HNI.out) (fun e => e)).trans HNI.out)) HNX9.out).trans ((HUD.out.block _ (lt_of_heap HNI.out) (fun e => e)).trans HNI.out)
            have hnb : BytesIn we (.slice (some ⟨nb9, 0, none⟩) 1 1) [(j : Int)] := .inr ⟨⟨nb9, 0, none⟩, 1, rfl, Nat.le_refl _, by unfold maxLen; omega, fun i u hi => by
              have hi0 : i = 0 := by
                have := (List.getElem?_eq_some_iff.1 hi).1
                simp [bcells] at this
                exact this
              subst hi0
              rw [add_none, cell_of_heap hni]
              exact hi⟩
            have hrt := HRJ.out.kept0 hre
            have HNM := Lib.hid hrt.names; have HRE := Lib.hid hrt; have HXE := Lib.hid hxe; have HOB := Lib.hid hob; have HNB := Lib.hid hnb
            clear hwe hue hxe hre hob hni hnb hrt x0 x1 x2 x3 x4 fr1 fr3 HXC HXD HUD HOA HON HNI HNX9
            go_wp2_with (go_at_call 37; fail)
            refine HNM.out.mono ?_
            rintro e wq ⟨v, rfl, hrow, huq⟩
            obtain ⟨na, nc, rfl⟩ := rowV hrow
            have hxq := (huq.block _ (lt_of_heap HXE.out) (fun e => e)).trans HXE.out
            have HRQ := Lib.hid (HRE.out.kept0 huq); have HXQ := Lib.hid hxq; have HBQ := Lib.hid (HOB.out.kept huq); have HNQ := Lib.hid (HNB.out.kept huq)
            obtain ⟨x0, x1, x2, x3, x4⟩ := cells5_of hxq
            clear hrow huq hxq HNM HRE HXE HOB HNB
            simp only []
            have hgo : (l2.put { data := #[115] } [(j : Int)]).length ≤ 48 → od.length ≤ 1 → (∀ X : Lg, X.broken = false → goodE ev 30 l2 X ⟨ev, false, [⟨{ data := #[115] }, bo, true, od, [(j : Int)]⟩]⟩ = 0) ∧ RoomI { data := #[115] } m (j + 1) (l2.put { data := #[115] } [(j : Int)]) := fun h48 ho => by
              obtain ⟨q1, q2⟩ := HRO.out.next (x := (j : Int)) HRJ.out.fine.1 rfl (fun u hu => by rw [HOD.out, hu] at ho; exact ho)
              refine ⟨fun X hX => ?_, q1⟩
              rw [HBO.out, HOD.out]
              exact one_fits hX HRJ.out.fine.1 (by decide) (by simp) HEP.out h48 (room_fits (l' := l2) H55.out q2)
            have hlp := KV.length_put HRJ.out.fine.1.rising { data := #[115] } [(j : Int)]
            have hl48 := HRJ.out.fine.1.len
            have HGG := Lib.hid hgo; have HLP := Lib.hid hlp; have HL48 := Lib.hid hl48
            clear hgo hlp hl48
            cases bo with
            | false =>
              have hnone : l2.get { data := #[115] } = none := by
                cases e : l2.get { data := #[115] } with
                | none => rfl
                | some v => have := HBO.out; rw [e] at this; cases this
              have hod0 : od.length ≤ 1 := by rw [HOD.out, hnone]; simp
              by_cases h48 : l2.length = 48
              · have h48i : ((l2.length : Int) == 48) = true := by simp [h48]
                have h48j : (l2.length : Int) = 48 := by omega
                clear hnone hod0
                go_wp2
                go_ret
                exact ⟨rfl, HU0.out.trans (HU1.out.trans HRQ.out.upd)⟩
              · have h48i : ((l2.length : Int) == 48) = false := by simp; omega
                have h48j : ¬ (l2.length : Int) = 48 := by omega
                obtain ⟨hgo, hnx⟩ := HGG.out (by have := HLP.out; have := HL48.out; rw [hnone] at HLP; have h3 := HLP.out; simp only at h3; omega) hod0
                have HGO := Lib.hid hgo; have HNX := Lib.hid hnx
                clear hgo hnx hnone hod0
                go_upto_region 27 with fail
                have hA : Upd (fun _ => False) wq wq.drew := (Upd.refl _ wq).drew
                refine wp_region_G 6 (fun W => Upd (fun _ => False) wq W) [false, false, false, false, false, false, false, false] rfl (by kernel_rfl) ?_
                generalize wq.drew = wd0 at hA ⊢
                refine wpG_takeT (i := 0) (v := .pointer (some ⟨r, 0, none⟩)) rfl (fun L hc h => (hc.waits (n := 6) (i := 0) (by kernel_rfl) h)) (by kernel_rfl) (fun _ _ _ h => h) hA (.inl ⟨rfl, fun w5 q1 => ?_⟩) ?_
                · go_simp
                simp only [Act.put, List.setIfInBounds_toArray, List.set]
                refine wpG_takeT (i := 1) (v := .pointer (some ⟨r, 0, none⟩)) rfl (fun L hc h => (hc.waits (n := 6) (i := 2) (by kernel_rfl) (hc.waits (n := 2) (i := 1) (by kernel_rfl) h))) (by kernel_rfl) (fun _ _ _ h => h) hA (.inl ⟨rfl, fun w5 q1 => ?_⟩) ?_
                · go_simp
                simp only [Act.put, List.setIfInBounds_toArray, List.set]
                refine wpG_takeT (i := 3) (v := .agg #[.string { data := #[115] }, .bool false, .bool true, .slice oa od.length oc, .slice (some ⟨nb9, 0, none⟩) 1 1]) rfl (fun L hc h => (hc.waits (n := 6) (i := 5) (by kernel_rfl) (hc.waits (n := 5) (i := 4) (by kernel_rfl) (hc.waits (n := 4) (i := 3) (by kernel_rfl) h)))) (by kernel_rfl) (fun _ _ _ h => h) hA (.inl ⟨rfl, fun w5 q1 => ?_⟩) ?_
                · obtain ⟨c0, c1, c2, c3, c4⟩ := cells5_of ((q1.block _ (lt_of_heap HXQ.out) (fun e => e)).trans HXQ.out)
                  go_simp
                simp only [Act.put, List.setIfInBounds_toArray, List.set]
                refine wpG_do2 (i := 2) (j := 4) rfl rfl (by kernel_rfl) rfl rfl (fun K hK => ?_) (fun K hK => ?_)
                · have HKK := Lib.hid hK
                  clear hK
                  go_step
                  refine ((HRQ.out.kept0 hA).epoch).mono ?_
                  rintro e W3 ⟨rfl, rfl⟩
                  simp only []
                  refine HKK.out _ _ hA ?_
                  clear HKK
                  simp only [Act.put, List.setIfInBounds_toArray, List.set]
                  refine wpG_do (i := 4) rfl (by kernel_rfl) rfl (fun K hK => ?_)
                  have HKK := Lib.hid hK
                  clear hK
                  go_step
                  refine HKK.out _ _ (hA.alloc (.cells #[.string { data := #[115] }, .bool false, .bool true, .slice oa od.length oc, .slice (some ⟨nb9, 0, none⟩) 1 1] 73)) ?_
                  clear HKK
                  simp only [Act.put, List.setIfInBounds_toArray, List.set]
                  have hxs : (wd0.alloc (.cells #[.string { data := #[115] }, .bool false, .bool true, .slice oa od.length oc, .slice (some ⟨nb9, 0, none⟩) 1 1] 73)).heap[wd0.heap.size]? = some (.cells #[.string { data := #[115] }, .bool false, .bool true, .slice oa od.length oc, .slice (some ⟨nb9, 0, none⟩) 1 1] 73 (0, 0)) := alloc_at rfl
                  replace hA := hA.alloc (.cells #[.string { data := #[115] }, .bool false, .bool true, .slice oa od.length oc, .slice (some ⟨nb9, 0, none⟩) 1 1] 73)
                  generalize hb9 : wd0.heap.size = sb9 at hxs ⊢
                  clear hb9
                  generalize wd0.alloc (.cells #[.string { data := #[115] }, .bool false, .bool true, .slice oa od.length oc, .slice (some ⟨nb9, 0, none⟩) 1 1] 73) = wd1 at hxs hA ⊢
                  refine wpG_takeT (i := 5) (v := .agg #[.int .u64 ev, .bool false, .slice (some ⟨sb9, 0, none⟩) 1 1]) rfl (fun L hc h => (hc.waits (n := 6) (i := 5) (by kernel_rfl) h)) (by kernel_rfl) (fun _ _ _ h => h) hA (.inl ⟨rfl, fun w5 q1 => ?_⟩) ?_
                  · go_simp
                  simp only [Act.put, List.setIfInBounds_toArray, List.set]
                  refine wpG_tail_lit (k := 6) rfl rfl (by kernel_rfl) ?_
                  simp only [List.drop]
                  have hcm : Calls Tryz.prog 31 #[.pointer (some ⟨r, 0, none⟩), .agg #[.int .u64 ev, .bool false, .slice (some ⟨sb9, 0, none⟩) 1 1]] wd1 _ :=
                    (HRQ.out.kept0 hA).commit (c := 1) (B := ⟨ev, false, [⟨{ data := #[115] }, false, true, od, [(j : Int)]⟩]⟩) (by have := HK20.out; omega) (one_in73 hxs (HBQ.out.kept hA) (HNQ.out.kept hA) HODF.out.1 HODF.out.2) (by simp) ⟨by have := HRQ.out.fine.2; show 0 ≤ ev ∧ ev ≤ 18446744073709551615; omega, fun x hx => by
                      simp at hx
                      subst hx
                      exact ⟨HODF.out.2, fun y hy => by simp at hy; omega⟩⟩ (fun b o e => by
                      injection e with e
                      injection e with e
                      subst e
                      exact lt_of_heap hxs)
                  have HCM := Lib.hid hcm
                  clear hcm hxs hA
                  go_wp2_with (go_at_call 31; fail)
                  refine HCM.out.mono ?_
                  rintro e wz ⟨E9, ev9, l9, rfl, hrg, hE0, hE1, ⟨X9, hX1, hX2, hX3⟩⟩
                  have hE9 : E9 = 0 := by rw [hX3]; exact HGO.out X9 hX1
                  subst hE9
                  obtain ⟨rfl, rfl⟩ := hE0 rfl
                  have HRZ := Lib.hid hrg
                  clear hrg hE0 hE1 hX1 hX2 hX3 HCM
                  simp only []
                  go_wp2
                  go_roundg (20 - (j + 1))
                  case measure => omega
                  case rel => exact ⟨j + 1, _, by omega, rfl, by go_num, HRZ.out, HNX.out⟩
                · have HKK := Lib.hid hK
                  clear hK
                  go_step
                  refine HKK.out _ _ (hA.alloc (.cells #[.string { data := #[115] }, .bool false, .bool true, .slice oa od.length oc, .slice (some ⟨nb9, 0, none⟩) 1 1] 73)) ?_
                  clear HKK
                  simp only [Act.put, List.setIfInBounds_toArray, List.set]
                  have hxs : (wd0.alloc (.cells #[.string { data := #[115] }, .bool false, .bool true, .slice oa od.length oc, .slice (some ⟨nb9, 0, none⟩) 1 1] 73)).heap[wd0.heap.size]? = some (.cells #[.string { data := #[115] }, .bool false, .bool true, .slice oa od.length oc, .slice (some ⟨nb9, 0, none⟩) 1 1] 73 (0, 0)) := alloc_at rfl
                  replace hA := hA.alloc (.cells #[.string { data := #[115] }, .bool false, .bool true, .slice oa od.length oc, .slice (some ⟨nb9, 0, none⟩) 1 1] 73)
                  generalize hb9 : wd0.heap.size = sb9 at hxs ⊢
                  clear hb9
                  generalize wd0.alloc (.cells #[.string { data := #[115] }, .bool false, .bool true, .slice oa od.length oc, .slice (some ⟨nb9, 0, none⟩) 1 1] 73) = wd1 at hxs hA ⊢
                  refine wpG_do (i := 2) rfl (by kernel_rfl) rfl (fun K hK => ?_)
                  have HKK := Lib.hid hK
                  clear hK
                  go_step
                  refine ((HRQ.out.kept0 hA).epoch).mono ?_
                  rintro e W3 ⟨rfl, rfl⟩
                  simp only []
                  refine HKK.out _ _ hA ?_
                  clear HKK
                  simp only [Act.put, List.setIfInBounds_toArray, List.set]
                  refine wpG_takeT (i := 5) (v := .agg #[.int .u64 ev, .bool false, .slice (some ⟨sb9, 0, none⟩) 1 1]) rfl (fun L hc h => (hc.waits (n := 6) (i := 5) (by kernel_rfl) h)) (by kernel_rfl) (fun _ _ _ h => h) hA (.inl ⟨rfl, fun w5 q1 => ?_⟩) ?_
                  · go_simp
                  simp only [Act.put, List.setIfInBounds_toArray, List.set]
                  refine wpG_tail_lit (k := 6) rfl rfl (by kernel_rfl) ?_
                  simp only [List.drop]
                  have hcm : Calls Tryz.prog 31 #[.pointer (some ⟨r, 0, none⟩), .agg #[.int .u64 ev, .bool false, .slice (some ⟨sb9, 0, none⟩) 1 1]] wd1 _ :=
                    (HRQ.out.kept0 hA).commit (c := 1) (B := ⟨ev, false, [⟨{ data := #[115] }, false, true, od, [(j : Int)]⟩]⟩) (by have := HK20.out; omega) (one_in73 hxs (HBQ.out.kept hA) (HNQ.out.kept hA) HODF.out.1 HODF.out.2) (by simp) ⟨by have := HRQ.out.fine.2; show 0 ≤ ev ∧ ev ≤ 18446744073709551615; omega, fun x hx => by
                      simp at hx
                      subst hx
                      exact ⟨HODF.out.2, fun y hy => by simp at hy; omega⟩⟩ (fun b o e => by
                      injection e with e
                      injection e with e
                      subst e
                      exact lt_of_heap hxs)
                  have HCM := Lib.hid hcm
                  clear hcm hxs hA
                  go_wp2_with (go_at_call 31; fail)
                  refine HCM.out.mono ?_
                  rintro e wz ⟨E9, ev9, l9, rfl, hrg, hE0, hE1, ⟨X9, hX1, hX2, hX3⟩⟩
                  have hE9 : E9 = 0 := by rw [hX3]; exact HGO.out X9 hX1
                  subst hE9
                  obtain ⟨rfl, rfl⟩ := hE0 rfl
                  have HRZ := Lib.hid hrg
                  clear hrg hE0 hE1 hX1 hX2 hX3 HCM
                  simp only []
                  go_wp2
                  go_roundg (20 - (j + 1))
                  case measure => omega
                  case rel => exact ⟨j + 1, _, by omega, rfl, by go_num, HRZ.out, HNX.out⟩
            | true =>
              have hsome : ∃ v, l2.get { data := #[115] } = some v := by
                cases e : l2.get { data := #[115] } with
                | none => have := HBO.out; rw [e] at this; cases this
                | some v => exact ⟨v, rfl⟩
              by_cases ho1 : 1 < od.length
              · have ho1i : (od.length : Int) > 1 := by omega
                clear hsome
                go_wp2
                go_ret
                exact ⟨rfl, HU0.out.trans (HU1.out.trans HRQ.out.upd)⟩
              · have ho1i : ¬ (od.length : Int) > 1 := by omega
                obtain ⟨v, hv⟩ := hsome
                obtain ⟨hgo, hnx⟩ := HGG.out (by have := HL48.out; have h3 := HLP.out; rw [hv] at h3; simp only at h3; omega) (by omega)
                have HGO := Lib.hid hgo; have HNX := Lib.hid hnx
                clear hgo hnx hv
                go_upto_region 27 with fail
                have hA : Upd (fun _ => False) wq wq.drew := (Upd.refl _ wq).drew
                refine wp_region_G 6 (fun W => Upd (fun _ => False) wq W) [false, false, false, false, false, false, false, false] rfl (by kernel_rfl) ?_
                generalize wq.drew = wd0 at hA ⊢
                refine wpG_takeT (i := 0) (v := .pointer (some ⟨r, 0, none⟩)) rfl (fun L hc h => (hc.waits (n := 6) (i := 0) (by kernel_rfl) h)) (by kernel_rfl) (fun _ _ _ h => h) hA (.inl ⟨rfl, fun w5 q1 => ?_⟩) ?_
                · go_simp
                simp only [Act.put, List.setIfInBounds_toArray, List.set]
                refine wpG_takeT (i := 1) (v := .pointer (some ⟨r, 0, none⟩)) rfl (fun L hc h => (hc.waits (n := 6) (i := 2) (by kernel_rfl) (hc.waits (n := 2) (i := 1) (by kernel_rfl) h))) (by kernel_rfl) (fun _ _ _ h => h) hA (.inl ⟨rfl, fun w5 q1 => ?_⟩) ?_
                · go_simp
                simp only [Act.put, List.setIfInBounds_toArray, List.set]
                refine wpG_takeT (i := 3) (v := .agg #[.string { data := #[115] }, .bool true, .bool true, .slice oa od.length oc, .slice (some ⟨nb9, 0, none⟩) 1 1]) rfl (fun L hc h => (hc.waits (n := 6) (i := 5) (by kernel_rfl) (hc.waits (n := 5) (i := 4) (by kernel_rfl) (hc.waits (n := 4) (i := 3) (by kernel_rfl) h)))) (by kernel_rfl) (fun _ _ _ h => h) hA (.inl ⟨rfl, fun w5 q1 => ?_⟩) ?_
                · obtain ⟨c0, c1, c2, c3, c4⟩ := cells5_of ((q1.block _ (lt_of_heap HXQ.out) (fun e => e)).trans HXQ.out)
                  go_simp
                simp only [Act.put, List.setIfInBounds_toArray, List.set]
                refine wpG_do2 (i := 2) (j := 4) rfl rfl (by kernel_rfl) rfl rfl (fun K hK => ?_) (fun K hK => ?_)
                · have HKK := Lib.hid hK
                  clear hK
                  go_step
                  refine ((HRQ.out.kept0 hA).epoch).mono ?_
                  rintro e W3 ⟨rfl, rfl⟩
                  simp only []
                  refine HKK.out _ _ hA ?_
                  clear HKK
                  simp only [Act.put, List.setIfInBounds_toArray, List.set]
                  refine wpG_do (i := 4) rfl (by kernel_rfl) rfl (fun K hK => ?_)
                  have HKK := Lib.hid hK
                  clear hK
                  go_step
                  refine HKK.out _ _ (hA.alloc (.cells #[.string { data := #[115] }, .bool true, .bool true, .slice oa od.length oc, .slice (some ⟨nb9, 0, none⟩) 1 1] 73)) ?_
                  clear HKK
                  simp only [Act.put, List.setIfInBounds_toArray, List.set]
                  have hxs : (wd0.alloc (.cells #[.string { data := #[115] }, .bool true, .bool true, .slice oa od.length oc, .slice (some ⟨nb9, 0, none⟩) 1 1] 73)).heap[wd0.heap.size]? = some (.cells #[.string { data := #[115] }, .bool true, .bool true, .slice oa od.length oc, .slice (some ⟨nb9, 0, none⟩) 1 1] 73 (0, 0)) := alloc_at rfl
                  replace hA := hA.alloc (.cells #[.string { data := #[115] }, .bool true, .bool true, .slice oa od.length oc, .slice (some ⟨nb9, 0, none⟩) 1 1] 73)
                  generalize hb9 : wd0.heap.size = sb9 at hxs ⊢
                  clear hb9
                  generalize wd0.alloc (.cells #[.string { data := #[115] }, .bool true, .bool true, .slice oa od.length oc, .slice (some ⟨nb9, 0, none⟩) 1 1] 73) = wd1 at hxs hA ⊢
                  refine wpG_takeT (i := 5) (v := .agg #[.int .u64 ev, .bool false, .slice (some ⟨sb9, 0, none⟩) 1 1]) rfl (fun L hc h => (hc.waits (n := 6) (i := 5) (by kernel_rfl) h)) (by kernel_rfl) (fun _ _ _ h => h) hA (.inl ⟨rfl, fun w5 q1 => ?_⟩) ?_
                  · go_simp
                  simp only [Act.put, List.setIfInBounds_toArray, List.set]
                  refine wpG_tail_lit (k := 6) rfl rfl (by kernel_rfl) ?_
                  simp only [List.drop]
                  have hcm : Calls Tryz.prog 31 #[.pointer (some ⟨r, 0, none⟩), .agg #[.int .u64 ev, .bool false, .slice (some ⟨sb9, 0, none⟩) 1 1]] wd1 _ :=
                    (HRQ.out.kept0 hA).commit (c := 1) (B := ⟨ev, false, [⟨{ data := #[115] }, true, true, od, [(j : Int)]⟩]⟩) (by have := HK20.out; omega) (one_in73 hxs (HBQ.out.kept hA) (HNQ.out.kept hA) HODF.out.1 HODF.out.2) (by simp) ⟨by have := HRQ.out.fine.2; show 0 ≤ ev ∧ ev ≤ 18446744073709551615; omega, fun x hx => by
                      simp at hx
                      subst hx
                      exact ⟨HODF.out.2, fun y hy => by simp at hy; omega⟩⟩ (fun b o e => by
                      injection e with e
                      injection e with e
                      subst e
                      exact lt_of_heap hxs)
                  have HCM := Lib.hid hcm
                  clear hcm hxs hA
                  go_wp2_with (go_at_call 31; fail)
                  refine HCM.out.mono ?_
                  rintro e wz ⟨E9, ev9, l9, rfl, hrg, hE0, hE1, ⟨X9, hX1, hX2, hX3⟩⟩
                  have hE9 : E9 = 0 := by rw [hX3]; exact HGO.out X9 hX1
                  subst hE9
                  obtain ⟨rfl, rfl⟩ := hE0 rfl
                  have HRZ := Lib.hid hrg
                  clear hrg hE0 hE1 hX1 hX2 hX3 HCM
                  simp only []
                  go_wp2
                  go_roundg (20 - (j + 1))
                  case measure => omega
                  case rel => exact ⟨j + 1, _, by omega, rfl, by go_num, HRZ.out, HNX.out⟩
                · have HKK := Lib.hid hK
                  clear hK
                  go_step
                  refine HKK.out _ _ (hA.alloc (.cells #[.string { data := #[115] }, .bool true, .bool true, .slice oa od.length oc, .slice (some ⟨nb9, 0, none⟩) 1 1] 73)) ?_
                  clear HKK
                  simp only [Act.put, List.setIfInBounds_toArray, List.set]
                  have hxs : (wd0.alloc (.cells #[.string { data := #[115] }, .bool true, .bool true, .slice oa od.length oc, .slice (some ⟨nb9, 0, none⟩) 1 1] 73)).heap[wd0.heap.size]? = some (.cells #[.string { data := #[115] }, .bool true, .bool true, .slice oa od.length oc, .slice (some ⟨nb9, 0, none⟩) 1 1] 73 (0, 0)) := alloc_at rfl
                  replace hA := hA.alloc (.cells #[.string { data := #[115] }, .bool true, .bool true, .slice oa od.length oc, .slice (some ⟨nb9, 0, none⟩) 1 1] 73)
                  generalize hb9 : wd0.heap.size = sb9 at hxs ⊢
                  clear hb9
                  generalize wd0.alloc (.cells #[.string { data := #[115] }, .bool true, .bool true, .slice oa od.length oc, .slice (some ⟨nb9, 0, none⟩) 1 1] 73) = wd1 at hxs hA ⊢
                  refine wpG_do (i := 2) rfl (by kernel_rfl) rfl (fun K hK => ?_)
                  have HKK := Lib.hid hK
                  clear hK
                  go_step
                  refine ((HRQ.out.kept0 hA).epoch).mono ?_
                  rintro e W3 ⟨rfl, rfl⟩
                  simp only []
                  refine HKK.out _ _ hA ?_
                  clear HKK
                  simp only [Act.put, List.setIfInBounds_toArray, List.set]
                  refine wpG_takeT (i := 5) (v := .agg #[.int .u64 ev, .bool false, .slice (some ⟨sb9, 0, none⟩) 1 1]) rfl (fun L hc h => (hc.waits (n := 6) (i := 5) (by kernel_rfl) h)) (by kernel_rfl) (fun _ _ _ h => h) hA (.inl ⟨rfl, fun w5 q1 => ?_⟩) ?_
                  · go_simp
                  simp only [Act.put, List.setIfInBounds_toArray, List.set]
                  refine wpG_tail_lit (k := 6) rfl rfl (by kernel_rfl) ?_
                  simp only [List.drop]
                  have hcm : Calls Tryz.prog 31 #[.pointer (some ⟨r, 0, none⟩), .agg #[.int .u64 ev, .bool false, .slice (some ⟨sb9, 0, none⟩) 1 1]] wd1 _ :=
                    (HRQ.out.kept0 hA).commit (c := 1) (B := ⟨ev, false, [⟨{ data := #[115] }, true, true, od, [(j : Int)]⟩]⟩) (by have := HK20.out; omega) (one_in73 hxs (HBQ.out.kept hA) (HNQ.out.kept hA) HODF.out.1 HODF.out.2) (by simp) ⟨by have := HRQ.out.fine.2; show 0 ≤ ev ∧ ev ≤ 18446744073709551615; omega, fun x hx => by
                      simp at hx
                      subst hx
                      exact ⟨HODF.out.2, fun y hy => by simp at hy; omega⟩⟩ (fun b o e => by
                      injection e with e
                      injection e with e
                      subst e
                      exact lt_of_heap hxs)
                  have HCM := Lib.hid hcm
                  clear hcm hxs hA
                  go_wp2_with (go_at_call 31; fail)
                  refine HCM.out.mono ?_
                  rintro e wz ⟨E9, ev9, l9, rfl, hrg, hE0, hE1, ⟨X9, hX1, hX2, hX3⟩⟩
                  have hE9 : E9 = 0 := by rw [hX3]; exact HGO.out X9 hX1
                  subst hE9
                  obtain ⟨rfl, rfl⟩ := hE0 rfl
                  have HRZ := Lib.hid hrg
                  clear hrg hE0 hE1 hX1 hX2 hX3 HCM
                  simp only []
                  go_wp2
                  go_roundg (20 - (j + 1))
                  case measure => omega
                  case rel => exact ⟨j + 1, _, by omega, rfl, by go_num, HRZ.out, HNX.out⟩
          · obtain rfl : j = 20 := by omega
            go_wp2
            go_ret
            exact ⟨rfl, HU0.out.trans (HU1.out.trans HRJ.out.upd)⟩
      · have hEb : (E == 0) = false := by simpa using hE
        go_wp2
        go_ret
        exact ⟨rfl, HU0.out.trans (HU1.out.trans HRG.out.upd)⟩
end Go.Proofs.YtbimkhdiplnbfaaGreat
end

