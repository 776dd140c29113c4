/- Ops that came in: opened, within the form's reach. -/
import Derived.Test.YtbimkhdiplnbfaaGreatU23
import Derived.Test.YtbimkhdiplnbfaaGreatU27
import Derived.Test.YtbimkhdiplnbfaaGreatU31
set_option linter.unusedVariables false
set_option linter.unusedSimpArgs false

section
namespace Go.Proofs.YtbimkhdiplnbfaaGreat
set_option maxRecDepth 100000
open Go.ChangeShapes Go.WideShapes Go.ChangeAt Go.RowKit Go.Joins Go.Deep

theorem Tryz.cells40 : Tryz.prog.cellsOf 40 = 1 := by kernel_rfl
theorem Tryz.cells3 : Tryz.prog.cellsOf 3 = 1 := by kernel_rfl
theorem Tryz.cells58 : Tryz.prog.cellsOf 58 = 7 := by kernel_rfl
theorem Tryz.bytes4 : Tryz.prog.bytesOf 4 = 1 := by kernel_rfl
/-- The row of booleans at an address. -/
def BoolsIn (w : World) (ka : Option Addr) (keep : List Bool) : Prop := ∀ i b, keep[i]? = some b → ∃ kb ko, ka = some ⟨kb, ko, none⟩ ∧ w.cell? ⟨kb, ko + i, none⟩ = some (.bool b)

section
variable {H : Type} {enc : TypeId × Value → H} {w : World} {base : Nat} {held : Bool} {n : Nat} {cs : List Value} {y : DataW H × List MemPlace}

theorem open_boolsU (h : DataW.trod enc Tryz.prog w base (fun _ => true) held n 40 cs = some y) (hS : Sized 40 y.1) :
    ∃ a c keep, cs = [.slice a keep.length c] ∧ BoolsIn w a keep ∧ keep.length ≤ c ∧ c ≤ 140737488351232 := by
  rcases open_slice Tryz.underlying40 h with ⟨rfl, rfl⟩ | ⟨a', len, cap, m, n', D, Pl, rfl, hb, hl, hm, hmm, rfl, hel⟩
  · exact ⟨none, 0, [], rfl, fun i x hx => by simp at hx, by simp, by omega⟩
  · simp only [if_true] at hmm
    subst hmm
    rw [Tryz.cells4] at hel
    obtain ⟨hb1, _⟩ := hS.slice Tryz.underlying40
    rw [Tryz.bytes4] at hb1
    simp only [List.length_map, List.length_range] at hb1
    obtain ⟨f, hf⟩ := choose_lt (α := Bool) (n := len) (p := fun i z => w.cells? base (a'.add (i * 1)) 1 = some [.bool z]) (fun i hi => by
      obtain ⟨cs', h1, h2⟩ := hel i (by omega)
      obtain ⟨g, e1, _⟩ := DataW.trod_bool Tryz.underlying4b h2
      subst e1
      exact ⟨g, h1⟩)
    have hget : ∀ i x, ((List.range len).map f)[i]? = some x → i < len ∧ x = f i := fun i x hx => by
      rw [List.getElem?_map, Option.map_eq_some_iff] at hx
      obtain ⟨j, hj, rfl⟩ := hx
      obtain ⟨h1, h2⟩ := List.getElem?_eq_some_iff.1 hj
      simp at h1 h2
      exact ⟨h1, by rw [h2]⟩
    refine ⟨some a', m, (List.range len).map f, by simp, fun i x hx => ?_, by simp; omega, by omega⟩
    obtain ⟨hi, rfl⟩ := hget i x hx
    obtain ⟨b, o, sp⟩ := a'
    have hsp : sp = none := spot_none (n := 0) (by have := hf 0 (by omega); rwa [Nat.zero_mul] at this)
    subst hsp
    obtain ⟨_, _, h3⟩ := World.cells?_some (hf i hi)
    have h4 := h3 0 (by omega)
    rw [Nat.mul_one, add_none, add_none] at h4
    exact ⟨b, o, rfl, by rw [Nat.add_zero] at h4; exact h4⟩

/-- An op that came in: its kind, its number, its batch, its Right, its Keep. -/
structure OpIn (w : World) (B : BatchV) (a : Option Addr) (c : Nat) (ra : Option Addr) (R : List Bool) (rc : Nat) (ka : Option Addr) (K : List Bool) (kc : Nat) : Prop where
  batch : BatchIn w B a c
  right : BoolsIn w ra R
  keep : BoolsIn w ka K
  rlen : R.length ≤ rc ∧ rc ≤ 140737488351232
  klen : K.length ≤ kc ∧ kc ≤ 140737488351232
def opC (kd on : Int) (B : BatchV) (a : Option Addr) (c : Nat) (ra : Option Addr) (rn rc : Nat) (ka : Option Addr) (kn kc : Nat) : List Value := [.int .i64 kd, .int .i64 on, .int .u64 B.epoch, .bool B.large, .slice a B.sets.length c, .slice ra rn rc, .slice ka kn kc]

theorem open_opU (h : DataW.trod enc Tryz.prog w base (fun _ => true) held n 58 cs = some y) (hS : Sized 58 y.1) :
    ∃ kd on B a c ra R rc ka K kc, cs = opC kd on B a c ra R.length rc ka K.length kc ∧ OpIn w B a c ra R rc ka K kc := by
  obtain ⟨xs, m, _, rfl, hll, hlen, hff⟩ := DataW.trod_struct Tryz.underlying58 h
  have hl : cs.length = 7 := by rw [hll, Tryz.cells58]
  match cs, hl with
  | [c0, c1, c2, c3, c4, c5, c6], _ =>
    match xs, hlen with
    | [y0, y1, y2, y3, y4], _ =>
      have k3 := Tryz.cells3; have k40 := Tryz.cells40; have k56 := Tryz.cells56
      have h0 : DataW.trod enc Tryz.prog w base (fun _ => true) held m 3 [c0] = some y0 := by simpa [k3] using hff 0 _ rfl
      have h1 : DataW.trod enc Tryz.prog w base (fun _ => true) held m 3 [c1] = some y1 := by simpa [k3] using hff 1 _ rfl
      have h2 : DataW.trod enc Tryz.prog w base (fun _ => true) held m 56 [c2, c3, c4] = some y2 := by simpa [k3, k56] using hff 2 _ rfl
      have h3 : DataW.trod enc Tryz.prog w base (fun _ => true) held m 40 [c5] = some y3 := by simpa [k3, k56, k40] using hff 3 _ rfl
      have h4 : DataW.trod enc Tryz.prog w base (fun _ => true) held m 40 [c6] = some y4 := by simpa [k3, k56, k40] using hff 4 _ rfl
      have s2 : Sized 56 y2.1 := hS.field Tryz.underlying58 (i := 2) rfl rfl
      have s3 : Sized 40 y3.1 := hS.field Tryz.underlying58 (i := 3) rfl rfl
      have s4 : Sized 40 y4.1 := hS.field Tryz.underlying58 (i := 4) rfl rfl
      obtain ⟨kd, e0, _⟩ := DataW.trod_int Tryz.underlying3 h0
      obtain ⟨on, e1, _⟩ := DataW.trod_int Tryz.underlying3 h1
      obtain ⟨B, a, c, e2, g⟩ := open_batchU h2 s2
      obtain ⟨ra, rc, R, e3, r1, r2, r3⟩ := open_boolsU h3 s3
      obtain ⟨ka, kc, K, e4, q1, q2, q3⟩ := open_boolsU h4 s4
      unfold batchC at e2
      simp at e0 e1 e2 e3 e4
      obtain ⟨e5, e6, e7⟩ := e2
      subst e0 e1 e3 e4 e5 e6 e7
      exact ⟨kd, on, B, a, c, ra, R, rc, ka, K, kc, rfl, g, r1, q1, ⟨r2, r3⟩, ⟨q2, q3⟩⟩

/-- Ops that came in a row. -/
def OpsIn (w : World) (la : Option Addr) (n : Nat) : Prop := ∀ i, i < n → ∃ b o kd on B a c ra R rc ka K kc, la = some ⟨b, o, none⟩ ∧ OpIn w B a c ra R rc ka K kc ∧
  ∀ t, t < 7 → w.cell? ⟨b, o + (i * 7 + t), none⟩ = (opC kd on B a c ra R.length rc ka K.length kc)[t]?

theorem open_opsU (h : DataW.trod enc Tryz.prog w base (fun _ => true) held n 75 cs = some y) (hS : Sized 75 y.1) :
    ∃ a k c, cs = [.slice a k c] ∧ OpsIn w a k ∧ k ≤ c ∧ c ≤ maxLen := by
  rcases open_slice Tryz.underlying75 h with ⟨rfl, rfl⟩ | ⟨a', len, cap, m, n', D, Pl, rfl, hb, hl, hm, hmm, rfl, hel⟩
  · exact ⟨none, 0, 0, rfl, fun i hi => by omega, Nat.le_refl _, by unfold maxLen; omega⟩
  · simp only [if_true] at hmm
    subst hmm
    rw [Tryz.cells58] at hel
    obtain ⟨_, hb2⟩ := hS.slice Tryz.underlying75
    refine ⟨some a', len, m, rfl, fun i hi => ?_, hl, hm⟩
    obtain ⟨cs', h1, h2⟩ := hel i (by omega)
    obtain ⟨kd, on, B, a, c, ra, R, rc, ka, K, kc, rfl, g⟩ := open_opU h2 (hb2 _ (List.mem_map.2 ⟨i, List.mem_range.2 hi, rfl⟩))
    have hcell : ∀ t, t < 7 → w.cell? (a'.add (i * 7 + t)) = (opC kd on B a c ra R.length rc ka K.length kc)[t]? := fun t ht => by
      obtain ⟨_, _, h3⟩ := World.cells?_some h1
      rw [← Addr.add_add, h3 t ht]
    obtain ⟨b, o, sp⟩ := a'
    have hsp : sp = none := by
      obtain ⟨cs0, h10, _⟩ := hel 0 (by omega)
      exact spot_none (n := 6) (by rwa [Nat.zero_mul] at h10)
    subst hsp
    exact ⟨b, o, kd, on, B, a, c, ra, R, rc, ka, K, kc, rfl, g, fun t ht => by rw [← add_none]; exact hcell t ht⟩
end

theorem BoolsIn.kept {w w' : World} {ka : Option Addr} {K : List Bool} (h : BoolsIn w ka K) (hu : Upd (fun _ => False) w w') : BoolsIn w' ka K := fun i b hb => by
  obtain ⟨kb, ko, e, hc⟩ := h i b hb
  exact ⟨kb, ko, e, cell_keptF hu (fun e => e) hc⟩
theorem BoolsIn.boolsR {w : World} {ka : Option Addr} {K : List Bool} (h : BoolsIn w ka K) : BoolsR w ka K := fun i b hb => by
  obtain ⟨kb, ko, e, hc⟩ := h i b hb
  refine ⟨kb, ko, e, ?_, hc⟩
  rcases Nat.lt_or_ge kb w.heap.size with h' | h'
  · exact h'
  · simp [World.cell?, Array.getElem?_eq_none h'] at hc
theorem OpIn.kept {w w' : World} {B : BatchV} {a ra ka : Option Addr} {c rc kc : Nat} {R K : List Bool} (h : OpIn w B a c ra R rc ka K kc) (hu : Upd (fun _ => False) w w') : OpIn w' B a c ra R rc ka K kc := ⟨h.batch.kept hu, h.right.kept hu, h.keep.kept hu, h.rlen, h.klen⟩
theorem OpsIn.kept {w w' : World} {la : Option Addr} {n : Nat} (h : OpsIn w la n) (hu : Upd (fun _ => False) w w') : OpsIn w' la n := fun i hi => by
  obtain ⟨b, o, kd, on, B, a, c, ra, R, rc, ka, K, kc, e, h1, h2⟩ := h i hi
  refine ⟨b, o, kd, on, B, a, c, ra, R, rc, ka, K, kc, e, h1.kept hu, fun t ht => ?_⟩
  have h3 := h2 t ht
  have hl : t < (opC kd on B a c ra R.length rc ka K.length kc).length := ht
  rw [List.getElem?_eq_getElem hl] at h3 ⊢
  exact cell_keptF hu (fun e => e) h3

theorem batchR_ok {l : KV} {R : List Bool} {B : BatchV} (hl : l.Fine) (he : 0 ≤ B.epoch ∧ B.epoch ≤ 18446744073709551615) (hb : ∀ x ∈ B.sets, Bytes x.old ∧ Bytes x.new) : (batchR l R B).Ok ∧ (batchR l R B).sets.length ≤ 49 := by
  refine ⟨⟨he, fun x hx => ?_⟩, by simp [batchR]; omega⟩
  simp only [batchR, List.mem_mapIdx] at hx
  obtain ⟨i, hi, rfl⟩ := hx
  have hm := hb _ (List.mem_of_mem_take (List.getElem_mem hi))
  have hc : ∀ y : SetV, Bytes y.old ∧ Bytes y.new → (clipV y).Ok := fun y hy => ⟨fun z hz => hy.1 z (List.mem_of_mem_take hz), fun z hz => hy.2 z (List.mem_of_mem_take hz)⟩
  unfold rightV
  split
  · refine ⟨?_, (hc _ hm).new⟩
    intro z hz
    simp only at hz
    revert hz
    cases e : l.get (clipV (B.sets.take 49)[i]).name with
    | none => intro hz; simp at hz
    | some v => exact fun hz => (hl.each _ ((KV.get_some hl.rising).1 e)).2.2.2 z hz
  · exact hc _ hm
end Go.Proofs.YtbimkhdiplnbfaaGreat
end

section
namespace Go.Proofs.YtbimkhdiplnbfaaGreat
set_option maxRecDepth 100000
open Go.RowKit Go.Shelf

theorem elem75 : Tryz.prog.underlying 75 = some (.slice (Tryz.prog.elem 75)) := by kernel_rfl
theorem size75e (W : World) : (sizeOf (Tryz.prog.elem 75)).run Tryz.prog W = .ok 7 W := by kernel_rfl

set_option maxHeartbeats 4000000 in
theorem few_any {la : Option Addr} {n c : Nat} {w0 : World} (w : World) (h : OpsIn w0 la n) (hl : n ≤ c) (hc : c ≤ maxLen) :
    Calls Tryz.prog 29 #[.slice la n c] w fun e w' => ∃ la' k, e = .returned (.slice la' k c) ∧ OpsIn w0 la' k ∧ k ≤ 20 ∧ w = w' := by
  obtain ⟨m, hm⟩ : ∃ m, m = min n 20 := ⟨_, rfl⟩
  have hmn : min (n : Int) 20 = (m : Int) := by omega
  have hr : ∀ W, (Instr.slice 75 (.slice la n c) none (some (.int .i64 m)) none).run Tryz.prog W = .ok (sliced la 0 m c 7) W := fun W => by
    rw [run_slice_h W 75 la n c elem75 .i64 m (by omega) (by omega), size75e]
    simp [Result.andThen]
  have hx : ∃ la', sliced la 0 m c 7 = .slice la' m c ∧ OpsIn w0 la' m := by
    cases la with
    | none => exact ⟨none, by unfold sliced; simp, fun i hi => by
        obtain ⟨b, o, _, _, _, _, _, _, _, _, _, _, _, e, _⟩ := h i (by omega)
        cases e⟩
    | some ad =>
      refine ⟨some (if c = 0 then ad else ad.add 0), by unfold sliced; simp; split <;> rfl, fun i hi => ?_⟩
      obtain ⟨b, o, kd, on, B, a, c', ra, R, rc, ka, K, kc, e, h1, h2⟩ := h i (by omega)
      injection e with e
      subst e
      exact ⟨b, o, kd, on, B, a, c', ra, R, rc, ka, K, kc, by split <;> rfl, h1, h2⟩
  obtain ⟨la', e1, h1⟩ := hx
  rw [e1] at hr
  have H1 := Lib.hid h1
  have hm20 : m ≤ 20 := by omega
  have HM := Lib.hid hm20
  clear h h1 e1 hm hm20
  go_enter Tryz.func29, Tryz.ntmps29
  go_wp2
  go_ret
  exact ⟨_, _, rfl, H1.out, HM.out, rfl⟩
end Go.Proofs.YtbimkhdiplnbfaaGreat
end

section
namespace Go.Proofs.YtbimkhdiplnbfaaGreat
set_option maxRecDepth 100000
open Go.RowKit Go.Shelf

/-- The set of the law, its batch. -/
def fxS (bo : Bool) (od : List Int) : SetV := ⟨{ data := #[120] }, bo, true, od, [9]⟩
def fxB (epoch : Int) (bo : Bool) (od : List Int) : BatchV := ⟨epoch, false, [fxS bo od]⟩

theorem fx_in {W : World} {g : Nat} {bo : Bool} {od : List Int} {oa na : Option Addr} {oc : Nat} (h : W.heap[g]? = some (.cells #[.string { data := #[120] }, .bool bo, .bool true, .slice oa od.length oc, .slice na 1 1] 73 (0, 0))) (h1 : BytesIn W (.slice oa od.length oc) od) (h2 : BytesIn W (.slice na 1 1) [9]) (hl : od.length ≤ 3000) (hb : Bytes od) : SetsIn W (some ⟨g, 0, none⟩) [fxS bo od] := by
  intro i x hx
  have hi : i = 0 := by
    have := (List.getElem?_eq_some_iff.1 hx).1
    simp at this
    exact this
  subst hi
  simp at hx
  subst hx
  obtain ⟨c0, c1, c2, c3, c4⟩ := cells5_of h
  refine ⟨show (1 : Nat) ≤ 140737488351232 by omega, by show od.length ≤ _; omega, show (1 : Nat) ≤ 140737488351232 by omega, g, 0, rfl, oa, oc, na, 1, c0, c1, c2, c3, c4, h1, h2, hb, fun y hy => by simp [fxS] at hy; omega⟩

set_option maxHeartbeats 8000000 in
theorem fenced_run {la : Option Addr} {ln lc : Nat} {epoch : Int} (w : World) (hops : OpsIn w la ln) (hl : ln ≤ lc) (hc : lc ≤ maxLen) (he : 0 ≤ epoch ∧ epoch ≤ 18446744073709551615) :
    Calls Tryz.prog 5 #[.slice la ln lc, .int .u64 epoch] w fun e w' => e = .returned (.bool true) ∧ Upd (fun _ => False) w w' := by
  have HO := Lib.hid hops; have HL := Lib.hid hl; have HC := Lib.hid hc; have HE := Lib.hid he
  clear hops hl hc he
  go_enter Tryz.func5, Tryz.ntmps5
  go_wp2_with (go_at_call 18; fail)
  refine (wakes_any w).mono ?_
  rintro e w1 ⟨rfl, hu1⟩
  have HU1 := Lib.hid hu1
  clear hu1
  simp only []
  go_wp2_with (go_at_call 28; fail)
  refine (made_any (area := 40) (N := 82) w1 (by omega) (by omega)).mono ?_
  rintro e w2 ⟨p, r, rfl, hrg, hpl⟩
  have HU2 := Lib.hid (HU1.out.trans hrg.upd); have HRG := Lib.hid hrg
  clear hrg hpl
  simp only []
  go_wp2_with (go_at_call 29; fail)
  refine (few_any w2 (HO.out.kept HU1.out) HL.out HC.out).mono ?_
  rintro e w3 ⟨la', kn, rfl, hops, hk20, rfl⟩
  have HOP := Lib.hid hops; have HK20 := Lib.hid hk20
  clear hops hk20
  simp only []
  go_upto_block 0 with fail
  go_upto_region 7 with fail
  go_loopg [35] kn (fun gk i wr => ∃ (k : Nat) (ev : Int) (l : KV), k ≤ kn ∧ gk = kn - k ∧ i = .int .i64 k ∧ RgC w1 wr p r 82 40 k ev l)
  case atStart => exact ⟨0, 0, [], Nat.zero_le _, rfl, rfl, HRG.out⟩
  case round =>
    obtain ⟨k, ev, l, hk, rfl, rfl, hrg⟩ := hrel
    have HU := Lib.hid hrg.upd; have HRK := Lib.hid hrg
    clear hrg
    by_cases hkn : k < kn
    · have hkni : (k : Int) < kn := by omega
      have hk20 : k < 20 := by have := HK20.out; omega
      obtain ⟨b, o, kd, on, B, a, c, ra, R, rc, ka, K, kc, rfl, hin, hcell⟩ := (HOP.out.kept HU.out) k hkn
      have q0 := hcell 0 (by omega); have q1 := hcell 1 (by omega); have q2 := hcell 2 (by omega); have q3 := hcell 3 (by omega); have q4 := hcell 4 (by omega); have q5 := hcell 5 (by omega); have q6 := hcell 6 (by omega)
      simp only [opC, ← Nat.add_assoc, Nat.add_zero] at q0 q1 q2 q3 q4 q5 q6
      simp at q0 q1 q2 q3 q4 q5 q6
      have HIN := Lib.hid hin
      clear hin hcell
      go_upto_region 9 with fail
      obtain ⟨wa, hwa⟩ : ∃ wa, wa = wr.alloc (.cells #[.int .i64 kd, .int .i64 on, .int .u64 B.epoch, .bool B.large, .slice a B.sets.length c, .slice ra R.length rc, .slice ka K.length kc] 58) := ⟨_, rfl⟩
      rw [← hwa]
      have hua : Upd (fun _ => False) wr wa := by rw [hwa]; exact (Upd.refl _ wr).alloc _
      have hxa : wa.heap[wr.heap.size]? = some (.cells #[.int .i64 kd, .int .i64 on, .int .u64 B.epoch, .bool B.large, .slice a B.sets.length c, .slice ra R.length rc, .slice ka K.length kc] 58 (0, 0)) := by rw [hwa]; exact alloc_at rfl
      have HUA := Lib.hid (HU.out.trans hua); have HXA := Lib.hid hxa; have HRA := Lib.hid (HRK.out.kept0 hua); have HINA := Lib.hid (HIN.out.kept hua)
      obtain ⟨ob, hob⟩ : ∃ ob, ob = wr.heap.size := ⟨_, rfl⟩
      rw [← hob] at HXA ⊢
      clear hwa hua hxa hob q0 q1 q2 q3 q4 q5 q6 HIN HRK HU
      go_wp2_with (go_at_call 30; fail)
      refine HRA.out.told.1.mono ?_
      rintro e wt ⟨ta, tc, TC, rfl, ht1, ht2, ht3, ht4⟩
      have HT1 := Lib.hid ht1; have HT4 := Lib.hid ht4
      clear ht1 ht2 ht3 ht4
      simp only []
      go_upto_region 10 with fail
      obtain ⟨wb, hwb⟩ : ∃ wb, wb = wt.alloc (.cells #[.int .u64 ev, .slice ta l.length tc] 62) := ⟨_, rfl⟩
      rw [← hwb]
      have hub : Upd (fun _ => False) wt wb := by rw [hwb]; exact (Upd.refl _ wt).alloc _
      have hxb : wb.heap[wt.heap.size]? = some (.cells #[.int .u64 ev, .slice ta l.length tc] 62 (0, 0)) := by rw [hwb]; exact alloc_at rfl
      have hab := HT4.out.trans hub
      have hxo := (hab.block _ (lt_of_heap HXA.out) (fun e => e)).trans HXA.out
      have co : ∀ j v, #[Value.int .i64 kd, .int .i64 on, .int .u64 B.epoch, .bool B.large, .slice a B.sets.length c, .slice ra R.length rc, .slice ka K.length kc][j]? = some v → wb.cell? ⟨ob, j, none⟩ = some v := fun j v h => by rw [cell_of_heap hxo]; exact h
      have q0 := co 0 _ rfl; have q1 := co 1 _ rfl; have q2 := co 2 _ rfl; have q3 := co 3 _ rfl; have q4 := co 4 _ rfl; have q5 := co 5 _ rfl; have q6 := co 6 _ rfl
      obtain ⟨z0, z1⟩ := cells2_of hxb
      have hinb := HINA.out.kept hab
      have hrb := HRA.out.kept0 hab
      have hfn := hrb.told.2
      have HUB := Lib.hid (HUA.out.trans hab); have HRB := Lib.hid hrb; have HFN := Lib.hid hfn
      have HOK := Lib.hid (batchR_ok (l := l) (R := R) hfn hinb.batch.epoch hinb.batch.bytes)
      have HBT := Lib.hid (batch_right (kd := kd) (on := on) (e0 := ev) (ka := ka) (kn := K.length) (kc := kc) (rc := rc) (pc := tc) (R := R) (l := l) wb hinb.batch.sets hinb.batch.bytes hinb.batch.len (by have := hinb.batch.cap; unfold maxLen; omega) hinb.right.boolsR rfl (HT1.out.valsAt.kept0 hub) rfl hfn)
      clear hwb hub hxb hab hxo co hinb hrb hfn HUA HXA HRA HINA HT1 HT4
      go_wp2_with (go_at_call 19; fail)
      refine HBT.out.mono ?_
      rintro e wc ⟨a2, c2, rfl, ⟨SC, hs1, hs2, hs3⟩, hs4, hs5⟩
      have HCM := Lib.hid ((HRB.out.kept0 hs5).commit (c := c2) (by omega) hs1.setsAt.setsIn (by have := HOK.out.2; omega) HOK.out.1 (fun b o e => (hs1.addr b o e).2))
      have HUC := Lib.hid (HUB.out.trans hs5)
      clear hs1 hs2 hs3 hs4 hs5 HBT HRB z0 z1 q0 q1 q2 q3 q4 q5 q6
      simp only []
      go_wp2_with (go_at_call 31; fail)
      refine HCM.out.mono ?_
      rintro e wd ⟨E, ev', l', rfl, hrg, _, _, _⟩
      have HRD := Lib.hid hrg
      have hcv2 : IntKind.i64.wrap ((k : Int) + 1) = (k : Int) + 1 := by rw [IntKind.wrap_i64]; omega
      clear hrg HCM HOK
      simp only []
      go_wp2
      go_roundg (kn - (k + 1))
      case measure => omega
      case rel => exact ⟨k + 1, ev', l', by omega, rfl, congrArg _ (by omega), HRD.out⟩
    · obtain rfl : k = kn := by omega
      go_wp2_with (go_at_call 30; fail)
      refine HRK.out.told.1.mono ?_
      rintro e wt ⟨ta, tc, TC, rfl, ht1, ht2, ht3, ht4⟩
      have HT1 := Lib.hid ht1; have HT4 := Lib.hid ht4; have HRT := Lib.hid (HRK.out.kept0 ht4); have HFN := Lib.hid HRK.out.told.2; have HTC := Lib.hid (show ∀ k, TC k → k < wt.heap.size from ht3.lt)
      have HTLO := Lib.hid ht2; have HTA := Lib.hid (show ∀ g o, ta = some ⟨g, o, none⟩ → wr.heap.size ≤ g from fun g o e => ht1.low_own (by rw [e]; rfl))
      have HTU := Lib.hid ht4
      clear ht1 ht2 ht3 ht4 HU
      simp only []
      go_upto_region 13 with fail
      obtain ⟨wb, hwb⟩ : ∃ wb, wb = wt.alloc (.cells #[.int .u64 ev, .slice ta l.length tc] 62) := ⟨_, rfl⟩
      rw [← hwb]
      have hub : Upd (fun _ => False) wt wb := by rw [hwb]; exact (Upd.refl _ wt).alloc _
      have hxb : wb.heap[wt.heap.size]? = some (.cells #[.int .u64 ev, .slice ta l.length tc] 62 (0, 0)) := by rw [hwb]; exact alloc_at rfl
      obtain ⟨sb, hsb⟩ : ∃ sb, sb = wt.heap.size := ⟨_, rfl⟩
      have HSL := Lib.hid (show wr.heap.size ≤ sb by have := HTU.out.size; omega)
      have HXB := Lib.hid hxb; have HVB := Lib.hid (HT1.out.valsAt.kept0 hub); have HUW := Lib.hid (HTU.out.trans hub); have HRB := Lib.hid (HRT.out.kept0 hub); have HTC := Lib.hid (show ∀ k, TC k → k < wb.heap.size from fun k hk => Nat.lt_of_lt_of_le (HTC.out k hk) hub.size)
      rw [← hsb] at HXB ⊢
      clear hwb hub hxb hsb HT1 HT4 HRT
      go_upto_region 14 with fail
      obtain ⟨wc, hwc⟩ : ∃ wc, wc = (wb.alloc (.cells #[.int .u8 9] 5)).alloc (.cells #[.string { data := #[120] }, .bool false, .bool true, .slice none 0 0, .slice (some ⟨wb.heap.size, 0, none⟩) 1 1] 73) := ⟨_, rfl⟩
      rw [← hwc]
      have huc : Upd (fun _ => False) wb wc := by rw [hwc]; exact ((Upd.refl _ wb).alloc _).alloc _
      have hxc : wc.heap[wb.heap.size + 1]? = some (.cells #[.string { data := #[120] }, .bool false, .bool true, .slice none 0 0, .slice (some ⟨wb.heap.size, 0, none⟩) 1 1] 73 (0, 0)) := by rw [hwc]; exact alloc_at (by simp)
      have hnine : wc.heap[wb.heap.size]? = some (.cells #[.int .u8 9] 5 (0, 0)) := by rw [hwc, alloc_lt (by simp)]; exact alloc_at rfl
      obtain ⟨nb9, hnb⟩ : ∃ x, x = wb.heap.size := ⟨_, rfl⟩
      obtain ⟨xb, hxb⟩ : ∃ x, x = wb.heap.size + 1 := ⟨_, rfl⟩
      rw [← hxb, ← hnb] at hxc
      rw [← hnb] at hnine
      rw [← hxb, ← hnb]
      have hxbc := (huc.block _ (lt_of_heap HXB.out) (fun e => e)).trans HXB.out
      have HXC := Lib.hid hxc; have HNI := Lib.hid hnine; have HNX := Lib.hid (show nb9 ≠ xb by omega); have HXBC := Lib.hid hxbc
      have HRC := Lib.hid (HRB.out.kept0 huc)
      have HGV := Lib.hid (get_val (c := tc) (s := { data := #[120] }) wc (HVB.out.kept0 huc) (by have := HFN.out.len; omega))
      obtain ⟨z0, z1⟩ := cells2_of hxbc
      have HUC := Lib.hid huc; have HXS := Lib.hid (show wb.heap.size ≤ xb by omega); have HNS := Lib.hid (show wb.heap.size ≤ nb9 by omega)
      clear hwc huc hxc hnine hxbc hnb hxb
      go_wp2_with (go_at_call 32; fail)
      refine HGV.out.mono ?_
      rintro e wd ⟨v, rfl, g1, g2⟩
      obtain ⟨oa, om, oc, rfl⟩ := g1.slice'
      have hxd := (g2.block _ (lt_of_heap HXC.out) (fun e => e)).trans HXC.out
      obtain ⟨x0, x1, x2, x3, x4⟩ := cells5_of hxd
      have fr1 : wd.frozen? ⟨xb, 1, none⟩ = false := frozen_of_heap hxd
      have fr3 : wd.frozen? ⟨xb, 3, none⟩ = false := frozen_of_heap hxd
      obtain ⟨od, hod⟩ : ∃ od, od = (l.get { data := #[120] }).getD [] := ⟨_, rfl⟩
      obtain ⟨bo, hbo⟩ : ∃ bo, bo = (l.get { data := #[120] }).isSome := ⟨_, rfl⟩
      obtain ⟨oa2, oc2, eo, _⟩ := g1.slice
      injection eo with eo1 eo2 eo3
      subst eo1 eo2 eo3
      have HGD := Lib.hid g2; have HG1 := Lib.hid g1; have HXD := Lib.hid hxd; have HOD := Lib.hid hod; have HBO := Lib.hid hbo
      have HRD := Lib.hid (HRC.out.kept0 g2)
      rw [← hbo, ← hod]
      clear g1 g2 hxd hod hbo HGV
      simp only []
      go_upto_region 16 with fail
      obtain ⟨we, hwe⟩ : ∃ we, we = (wd.setCell ⟨xb, 1, none⟩ (.bool bo)).setCell ⟨xb, 3, none⟩ (.slice oa od.length oc) := ⟨_, rfl⟩
      rw [← hwe]
      have hue : Upd (fun k => k = xb) wd we := by rw [hwe]; exact (upd_own wd xb 1 _).trans (upd_own _ xb 3 _)
      have hxe : we.heap[xb]? = some (.cells #[.string { data := #[120] }, .bool bo, .bool true, .slice oa od.length oc, .slice (some ⟨nb9, 0, none⟩) 1 1] 73 (0, 0)) := by
        rw [hwe]
        have := blk_set (i := 3) (v := .slice oa od.length oc) (blk_set (i := 1) (v := .bool bo) HXD.out)
        simpa using this
      have hbe : Upd (fun _ => False) wb we := (HUC.out.trans HGD.out).step hue (fun j hj e => by have := HXS.out; omega)
      have hrow1 : BytesIn we (.slice oa od.length oc) od := by
        have h1 := HG1.out.kept hue (fun j hj e => by have := HTC.out j hj; have := HXS.out; omega)
        rw [← HOD.out] at h1
        exact h1.bytesIn
      have hba : BytesAt we TC (.slice oa od.length oc) od := by
        have h1 := HG1.out.kept hue (fun j hj e => by have := HTC.out j hj; have := HXS.out; omega)
        rw [← HOD.out] at h1
        exact h1
      have hni : we.heap[nb9]? = some (.cells #[.int .u8 9] 5 (0, 0)) := (hue.block _ (lt_of_heap ((HGD.out.block _ (lt_of_heap HNI.out) (fun e => e)).trans HNI.out)) HNX.out).trans ((HGD.out.block _ (lt_of_heap HNI.out) (fun e => e)).trans HNI.out)
      have hrow2 : BytesIn we (.slice (some ⟨nb9, 0, none⟩) 1 1) [9] := .inr ⟨⟨nb9, 0, none⟩, 1, rfl, Nat.le_refl _, by unfold maxLen; omega, fun i u hi => by
        have hi0 : i = 0 := by
          have := (List.getElem?_eq_some_iff.1 hi).1
          simp [bcells] at this
          exact this
        subst hi0
        rw [add_none, cell_of_heap hni]
        exact hi⟩
      obtain ⟨x0, x1, x2, x3, x4⟩ := cells5_of hxe
      have HBA := Lib.hid hba; have HNE := Lib.hid hni; have HXE := Lib.hid hxe; have HBE := Lib.hid hbe; have HR1 := Lib.hid hrow1; have HR2 := Lib.hid hrow2
      clear hwe hue hxe hbe hrow1 hni hrow2 hba HXD HGD HG1 fr1 fr3
      go_wp2_with (go_at_call 31; fail)
      have hodf : od.length ≤ 3000 ∧ Bytes od := by
        rw [HOD.out]
        cases e : l.get { data := #[120] } with
        | none => exact ⟨by simp, fun y hy => by simp at hy⟩
        | some v =>
          have := HFN.out.each _ ((KV.get_some HFN.out.rising).1 e)
          exact ⟨this.2.2.1, this.2.2.2⟩
      obtain ⟨wf, hwf⟩ : ∃ wf, wf = we.alloc (.cells #[.string { data := #[120] }, .bool bo, .bool true, .slice oa od.length oc, .slice (some ⟨nb9, 0, none⟩) 1 1] 73) := ⟨_, rfl⟩
      rw [← hwf]
      have huf : Upd (fun _ => False) we wf := by rw [hwf]; exact (Upd.refl _ we).alloc _
      have hxf : wf.heap[we.heap.size]? = some (.cells #[.string { data := #[120] }, .bool bo, .bool true, .slice oa od.length oc, .slice (some ⟨nb9, 0, none⟩) 1 1] 73 (0, 0)) := by rw [hwf]; exact alloc_at rfl
      have hcm : Calls Tryz.prog 31 #[.pointer (some ⟨r, 0, none⟩), .agg #[.int .u64 epoch, .bool false, .slice (some ⟨we.heap.size, 0, none⟩) 1 1]] wf _ :=
        (HRK.out.hold.kept0 (HUW.out.trans (HBE.out.trans huf))).commit (c := 1) (B := fxB epoch bo od) (by have := HK20.out; omega) (fx_in hxf (HR1.out.kept huf) (HR2.out.kept huf) hodf.1 hodf.2) (by simp [fxB]) ⟨HE.out, fun x hx => by
          simp [fxB] at hx
          subst hx
          exact ⟨hodf.2, fun y hy => by simp [fxS] at hy; omega⟩⟩ (fun b o e => by
          injection e with e
          injection e with e
          subst e
          exact lt_of_heap hxf)
      have HCM := Lib.hid hcm; have HUF := Lib.hid huf; have HODF := Lib.hid hodf
      clear hodf hwf huf hxf hcm x0 x1 x2 x3 x4
      refine HCM.out.mono ?_
      rintro e wg ⟨E, ev', l', rfl, hrg, hE0, hE1, ⟨X, hX1, hX2, hX3⟩, hug⟩
      have HUG := Lib.hid hug
      clear hug
      have HRG := Lib.hid hrg.tight; have HE0 := Lib.hid hE0; have HE1 := Lib.hid hE1; have HX1 := Lib.hid hX1; have HX2 := Lib.hid hX2; have HX3 := Lib.hid hX3
      clear hrg hE0 hE1 hX1 hX2 hX3 HCM HR1 HR2
      simp only []
      go_wp2_with (go_at_call 30; fail)
      refine HRG.out.rgc.told.1.mono ?_
      rintro e wh ⟨na, nc, NC, rfl, hn1, hn2, hn3, hn4⟩
      have HN1 := Lib.hid hn1; have HN4 := Lib.hid hn4; have HRH := Lib.hid (HRG.out.kept0 hn4); have HFN2 := Lib.hid HRG.out.rgc.told.2
      clear hn1 hn2 hn3 hn4 HRG
      simp only []
      go_upto_region 18 with fail
      obtain ⟨wi, hwi⟩ : ∃ wi, wi = wh.alloc (.cells #[.int .u64 ev', .slice na l'.length nc] 62) := ⟨_, rfl⟩
      rw [← hwi]
      have hui : Upd (fun _ => False) wh wi := by rw [hwi]; exact (Upd.refl _ wh).alloc _
      have hxi : wi.heap[wh.heap.size]? = some (.cells #[.int .u64 ev', .slice na l'.length nc] 62 (0, 0)) := by rw [hwi]; exact alloc_at rfl
      obtain ⟨nbk, hnbk⟩ : ∃ x, x = wh.heap.size := ⟨_, rfl⟩
      have HNB := Lib.hid (show wg.heap.size ≤ nbk by have := HN4.out.size; omega)
      rw [← hnbk] at hxi ⊢
      have HRI := Lib.hid (HRH.out.kept0 hui); have HXI := Lib.hid hxi; have HN2 := Lib.hid (HN1.out.valsAt.kept0 hui)
      have HUI := Lib.hid hui
      clear hwi hui hxi hnbk HRH HN1
      have hub2 : Upd (fun k => k < wr.heap.size) wb wi := (((HBE.out.trans HUF.out).mono (F := fun _ => False) (G := fun k => k < wr.heap.size) (fun _ _ e => e.elim)).trans HUG.out).trans ((HN4.out.trans HUI.out).mono (F := fun _ => False) (fun _ _ e => e.elim))
      have hs9 := (hub2.block _ (lt_of_heap HXB.out) (fun e => by have := HSL.out; omega)).trans HXB.out
      have hv9 := HVB.out.kept hub2 (fun g o e e' => by have := HTA.out g o e; omega) (fun j hj e => by have := HTLO.out j hj; omega)
      have hfb := HFN.out; have hfb2 := HFN2.out
      have HSM := Lib.hid (same_reg (c := tc) (d := nc) (e1 := ev) (e2 := ev') wi hv9 HN2.out (by have := hfb.len; omega) (fun y hy => (hfb.each y hy).2.2.2) (fun y hy => (hfb2.each y hy).2.2.2))
      obtain ⟨s0, s1⟩ := cells2_of hs9
      obtain ⟨n0, n1⟩ := cells2_of HXI.out
      have HS9 := Lib.hid hs9
      have hgo := one_goodE (ev := ev) (area := 40) (epoch := epoch) (nm := { data := #[120] }) (nw := [9]) HX1.out HFN.out (by decide) (by decide)
      rw [← HBO.out, ← HOD.out] at hgo
      have hgo : (E = if 4611686018427387904 < epoch then 2 else if epoch < ev then 300 else E) ∧ (epoch ≤ 4611686018427387904 → ev ≤ epoch → E = 0 ∨ E = 6) := by rw [HX3.out]; exact hgo
      have HGO := Lib.hid hgo
      clear hub2 hs9 hv9 hfb hfb2 hgo
      by_cases hep : 4611686018427387904 < epoch
      · have hE : E = 2 := by have := HGO.out.1; rw [if_pos hep] at this; exact this
        subst hE
        obtain ⟨rfl, rfl⟩ := HE1.out (by decide)
        have hsm : decide (ev' = ev' ∧ l' = l') = true := decide_eq_true ⟨rfl, rfl⟩
        rw [hsm] at HSM
        clear hsm
        go_wp2_with (go_at_call 33; fail)
        refine HSM.out.mono ?_
        rintro e wj ⟨rfl, huj⟩
        have HUJ := Lib.hid huj
        clear huj
        simp only []
        go_wp2
        go_ret
        exact ⟨rfl, (HU1.out.trans HRI.out.rgc.upd).trans HUJ.out⟩
      · by_cases hpa : epoch < ev
        · have hE : E = 300 := by have := HGO.out.1; rw [if_neg hep, if_pos hpa] at this; exact this
          subst hE
          obtain ⟨rfl, rfl⟩ := HE1.out (by decide)
          have hsm : decide (ev' = ev' ∧ l' = l') = true := decide_eq_true ⟨rfl, rfl⟩
          rw [hsm] at HSM
          clear hsm
          go_wp2_with (go_at_call 33; fail)
          refine HSM.out.mono ?_
          rintro e wj ⟨rfl, huj⟩
          have HUJ := Lib.hid huj
          clear huj
          simp only []
          go_wp2
          go_ret
          exact ⟨rfl, (HU1.out.trans HRI.out.rgc.upd).trans HUJ.out⟩
        · have HPA := Lib.hid (show ev ≤ epoch by omega)
          by_cases h6 : E = 6
          · have hE := h6
            clear h6
            subst hE
            obtain ⟨rfl, rfl⟩ := HE1.out (by decide)
            have hsm : decide (ev' = ev' ∧ l' = l') = true := decide_eq_true ⟨rfl, rfl⟩
            rw [hsm] at HSM
            clear hsm
            go_wp2_with (go_at_call 33; fail)
            refine HSM.out.mono ?_
            rintro e wj ⟨rfl, huj⟩
            have HUJ := Lib.hid huj
            clear huj
            simp only []
            go_wp2
            go_ret
            exact ⟨rfl, (HU1.out.trans HRI.out.rgc.upd).trans HUJ.out⟩
          · have hE : E = 0 := (HGO.out.2 (by omega) HPA.out).resolve_right h6
            subst hE
            obtain ⟨rfl, rfl⟩ := HE0.out rfl
            have hbw : wr.heap.size ≤ wb.heap.size := HUW.out.size
            have hue2 : Upd (fun k => k < wr.heap.size) we wi := ((HUF.out.mono (F := fun _ => False) (G := fun k => k < wr.heap.size) (fun _ _ e => e.elim)).trans HUG.out).trans ((HN4.out.trans HUI.out).mono (F := fun _ => False) (fun _ _ e => e.elim))
            have hxi := (hue2.block _ (lt_of_heap HXE.out) (fun e => by have := HXS.out; omega)).trans HXE.out
            have hni := (hue2.block _ (lt_of_heap HNE.out) (fun e => by have := HNS.out; omega)).trans HNE.out
            have hba2 := HBA.out.kept hue2 (fun j hj e => by have := HTLO.out j hj; omega)
            have hbi := hba2.bytesIn
            have HBA2 := Lib.hid hba2
            clear hba2
            obtain ⟨x0, x1, x2, x3, x4⟩ := cells5_of hxi
            have HXI2 := Lib.hid hxi; have HNI2 := Lib.hid hni; have HBI2 := Lib.hid hbi
            clear hbw hue2 hxi hni hbi HSM
            have hpn : ¬ ev' < ev := by omega
            go_wp2_with (go_at_call 31; fail)
            obtain ⟨wj, hwj⟩ : ∃ wj, wj = wi.alloc (.cells #[.string { data := #[120] }, .bool bo, .bool true, .slice oa od.length oc, .slice (some ⟨nb9, 0, none⟩) 1 1] 73) := ⟨_, rfl⟩
            rw [← hwj]
            have huj : Upd (fun _ => False) wi wj := by rw [hwj]; exact (Upd.refl _ wi).alloc _
            have hxj : wj.heap[wi.heap.size]? = some (.cells #[.string { data := #[120] }, .bool bo, .bool true, .slice oa od.length oc, .slice (some ⟨nb9, 0, none⟩) 1 1] 73 (0, 0)) := by rw [hwj]; exact alloc_at rfl
            have hnj : wj.heap[nb9]? = some (.cells #[.int .u8 9] 5 (0, 0)) := (huj.block _ (lt_of_heap HNI2.out) (fun e => e)).trans HNI2.out
            have hr2j : BytesIn wj (.slice (some ⟨nb9, 0, none⟩) 1 1) [9] := .inr ⟨⟨nb9, 0, none⟩, 1, rfl, Nat.le_refl _, by unfold maxLen; omega, fun i u hi => by
              have hi0 : i = 0 := by
                have := (List.getElem?_eq_some_iff.1 hi).1
                simp [bcells] at this
                exact this
              subst hi0
              rw [add_none, cell_of_heap hnj]
              exact hi⟩
            have hbj := HBI2.out.kept huj
            have hcm : Calls Tryz.prog 31 #[.pointer (some ⟨r, 0, none⟩), .agg #[.int .u64 ev', .bool false, .slice (some ⟨wi.heap.size, 0, none⟩) 1 1]] wj _ :=
              (HRI.out.kept0 huj).commit (c := 1) (B := fxB ev' bo od) (by have := HK20.out; omega) (fx_in hxj hbj hr2j HODF.out.1 HODF.out.2) (by simp [fxB]) ⟨HE.out, fun x hx => by
                simp [fxB] at hx
                subst hx
                exact ⟨HODF.out.2, fun y hy => by simp [fxS] at hy; omega⟩⟩ (fun b o e => by
                injection e with e
                injection e with e
                subst e
                exact lt_of_heap hxj)
            have HCM := Lib.hid hcm; have HUJ2 := Lib.hid huj
            clear hwj huj hxj hnj hr2j hbj hcm x0 x1 x2 x3 x4
            refine HCM.out.mono ?_
            rintro e wk ⟨E2, ev2, l2, rfl, hrg2, hE02, hE12, ⟨X2, hX12, hX22, hX32⟩, hug2⟩
            have hbo0 : bo = false → od = [] := fun e => by
              rw [HOD.out]
              rw [HBO.out] at e
              cases h : l.get { data := #[120] } with
              | none => rfl
              | some v => rw [h] at e; cases e
            have hev2 : ev2 = ev' ∧ l2.get { data := #[120] } = some [9] := by
              by_cases h0 : E2 = 0
              · obtain ⟨q1, q2⟩ := hE02 h0
                exact ⟨q1, by rw [q2]; exact one_get HFN2.out⟩
              · obtain ⟨q1, q2⟩ := hE12 h0
                exact ⟨q1, by rw [q2]; exact one_get HFN.out⟩
            have h301 : ¬ (bo = true ∧ od = [9]) → E2 = 301 := fun hne => by
              rw [hX32]
              exact one_again hX12 HRI.out.rgc.fine.2.2 (by decide) HODF.out.1 (by simp) hbo0 (one_get HFN.out) hne
            rw [hev2.1] at hrg2
            have hval := hrg2.rgc.value (s := { data := #[120] }) (by decide)
            rw [hev2.2] at hval
            simp only [Option.isSome_some, Option.getD_some] at hval
            have hbk := (HBA2.out.kept HUJ2.out (fun _ _ e => e)).kept hug2 (fun j hj e => by
              have h1 := HTLO.out j hj; have h2 := HTC.out j hj; have h3 := (HBE.out.trans HUF.out).size
              omega)
            have hnk := (hug2.block _ (lt_of_heap ((HUJ2.out.block _ (lt_of_heap HXI.out) (fun e => e)).trans HXI.out)) (fun e => by have := HNB.out; omega)).trans ((HUJ2.out.block _ (lt_of_heap HXI.out) (fun e => e)).trans HXI.out)
            have HNK := Lib.hid hnk
            clear hnk
            have HBK := Lib.hid hbk; have HRK2 := Lib.hid hrg2.rgc; have H301 := Lib.hid h301; have HVL := Lib.hid hval
            clear hbo0 hev2 h301 hval hbk hrg2 hE02 hE12 hX12 hX22 hX32 hug2
            simp only []
            go_wp2_with (go_at_call 34; fail)
            refine HVL.out.mono ?_
            rintro e wl ⟨u, rfl, hown, hul⟩
            obtain ⟨ua, uc, rfl, _⟩ := hown.bytesAt.1.slice
            have HVB9 := Lib.hid hown.bytesAt.1.bytesIn; have HBL9 := Lib.hid (HBK.out.kept hul (fun _ _ e => e)).bytesIn
            have HRL := Lib.hid (HRK2.out.kept0 hul); have HNL := Lib.hid ((hul.block _ (lt_of_heap HNK.out) (fun e => e)).trans HNK.out)
            clear hown hul HVL HRK2 HBK
            simp only []
            have hby9 : Bytes [9] := fun y hy => by simp at hy; omega
            have hone : ∀ W : World, BytesIn (W.alloc (.cells #[.int .u8 9] 5)) (.slice (some ⟨W.heap.size, 0, none⟩) 1 1) [9] := fun W => one_in W 9
            have HONE := Lib.hid hone; have HBY9 := Lib.hid hby9
            clear hone hby9
            cases bo with
            | true =>
              have heq1 : Calls Tryz.prog 24 #[.slice oa od.length oc, .slice (some ⟨wl.heap.size, 0, none⟩) 1 1] (wl.alloc (.cells #[.int .u8 9] 5)) _ := equal_any _ (HBL9.out.kept ((Upd.refl (fun _ => False) wl).alloc _)) (HONE.out wl) HODF.out.2 HBY9.out
              have HEQ1 := Lib.hid heq1
              clear heq1
              go_wp2_with (go_at_call 24; fail)
              refine HEQ1.out.mono ?_
              rintro e wm ⟨rfl, hwm⟩
              have hum : Upd (fun _ => False) wl wm := hwm ▸ (Upd.refl (fun _ => False) wl).alloc _
              have HRM := Lib.hid (HRL.out.kept0 hum); have HVM := Lib.hid (HVB9.out.kept hum); have HNM := Lib.hid ((hum.block _ (lt_of_heap HNL.out) (fun e => e)).trans HNL.out)
              clear hwm hum HEQ1
              have heq2 : Calls Tryz.prog 24 #[.slice ua 1 uc, .slice (some ⟨wm.heap.size, 0, none⟩) 1 1] (wm.alloc (.cells #[.int .u8 9] 5)) _ := equal_any _ (HVM.out.kept ((Upd.refl (fun _ => False) wm).alloc _)) (HONE.out wm) HBY9.out HBY9.out
              have HEQ2 := Lib.hid heq2
              clear heq2
              simp only []
              by_cases h9 : od = [9]
              · have h9b : (od == [9]) = true := by simp [h9]
                rw [h9b]
                clear h9 h9b
                go_wp2_with (go_at_call 24; fail)
                refine HEQ2.out.mono ?_
                rintro e wn ⟨rfl, hwn⟩
                have hun : Upd (fun _ => False) wm wn := hwn ▸ (Upd.refl (fun _ => False) wm).alloc _
                have hnn := (hun.block _ (lt_of_heap HNM.out) (fun e => e)).trans HNM.out
                obtain ⟨m0, m1⟩ := cells2_of hnn
                have HRN := Lib.hid (HRM.out.kept0 hun)
                clear hwn hun hnn HEQ2
                have h99 : (([9] : List Int) == [9]) = true := rfl
                rw [h99]
                simp only []
                go_wp2_with (go_at_call 35; fail)
                refine (HRN.out.again (by have := HK20.out; omega)).mono ?_
                rintro e wz ⟨r5, lg5, m5, ar5, rfl, hr5, hu5⟩
                have HR5 := Lib.hid hr5; have HU5 := Lib.hid hu5
                clear hr5 hu5
                simp only []
                go_wp2_with (go_at_call 36; fail)
                refine (epoch_any wz HR5.out).mono ?_
                rintro e wy ⟨rfl, rfl⟩
                simp only []
                go_wp2
                go_ret
                exact ⟨rfl, HU1.out.trans HU5.out⟩
              · have h9b : (od == [9]) = false := by simp [h9]
                have hE3 : E2 = 301 := H301.out (fun e => h9 e.2)
                subst hE3
                rw [h9b]
                clear h9 h9b
                go_wp2_with (go_at_call 24; fail)
                refine HEQ2.out.mono ?_
                rintro e wn ⟨rfl, hwn⟩
                have hun : Upd (fun _ => False) wm wn := hwn ▸ (Upd.refl (fun _ => False) wm).alloc _
                have hnn := (hun.block _ (lt_of_heap HNM.out) (fun e => e)).trans HNM.out
                obtain ⟨m0, m1⟩ := cells2_of hnn
                have HRN := Lib.hid (HRM.out.kept0 hun)
                clear hwn hun hnn HEQ2
                have h99 : (([9] : List Int) == [9]) = true := rfl
                rw [h99]
                simp only []
                go_wp2_with (go_at_call 35; fail)
                refine (HRN.out.again (by have := HK20.out; omega)).mono ?_
                rintro e wz ⟨r5, lg5, m5, ar5, rfl, hr5, hu5⟩
                have HR5 := Lib.hid hr5; have HU5 := Lib.hid hu5
                clear hr5 hu5
                simp only []
                go_wp2_with (go_at_call 36; fail)
                refine (epoch_any wz HR5.out).mono ?_
                rintro e wy ⟨rfl, rfl⟩
                simp only []
                go_wp2
                go_ret
                exact ⟨rfl, HU1.out.trans HU5.out⟩
            | false =>
              have hE3 : E2 = 301 := H301.out (fun e => by cases e.1)
              subst hE3
              have HRM := HRL; have HVM := HVB9; have HNM := HNL
              have heq2 : Calls Tryz.prog 24 #[.slice ua 1 uc, .slice (some ⟨wl.heap.size, 0, none⟩) 1 1] (wl.alloc (.cells #[.int .u8 9] 5)) _ := equal_any _ (HVM.out.kept ((Upd.refl (fun _ => False) wl).alloc _)) (HONE.out wl) HBY9.out HBY9.out
              have HEQ2 := Lib.hid heq2
              clear heq2
              go_wp2_with (go_at_call 24; fail)
              refine HEQ2.out.mono ?_
              rintro e wn ⟨rfl, hwn⟩
              have hun : Upd (fun _ => False) wl wn := hwn ▸ (Upd.refl (fun _ => False) wl).alloc _
              have hnn := (hun.block _ (lt_of_heap HNM.out) (fun e => e)).trans HNM.out
              obtain ⟨m0, m1⟩ := cells2_of hnn
              have HRN := Lib.hid (HRM.out.kept0 hun)
              clear hwn hun hnn HEQ2
              have h99 : (([9] : List Int) == [9]) = true := rfl
              rw [h99]
              simp only []
              go_wp2_with (go_at_call 35; fail)
              refine (HRN.out.again (by have := HK20.out; omega)).mono ?_
              rintro e wz ⟨r5, lg5, m5, ar5, rfl, hr5, hu5⟩
              have HR5 := Lib.hid hr5; have HU5 := Lib.hid hu5
              clear hr5 hu5
              simp only []
              go_wp2_with (go_at_call 36; fail)
              refine (epoch_any wz HR5.out).mono ?_
              rintro e wy ⟨rfl, rfl⟩
              simp only []
              go_wp2
              go_ret
              exact ⟨rfl, HU1.out.trans HU5.out⟩
end Go.Proofs.YtbimkhdiplnbfaaGreat
end

