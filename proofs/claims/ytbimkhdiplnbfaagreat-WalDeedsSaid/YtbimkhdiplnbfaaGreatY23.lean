/- Walks: the reference's small functions of the log: Sectors, Area, Used, Same, get. -/
import Derived.Test.YtbimkhdiplnbfaaGreatY3
import Derived.Test.YtbimkhdiplnbfaaGreatY19
import Derived.Test.YtbimkhdiplnbfaaGreatY21
import Derived.Test.YtbimkhdiplnbfaaGreatY22
set_option linter.unusedVariables false
set_option linter.unusedSimpArgs false
namespace Go.Proofs.YtbimkhdiplnbfaaGreat
set_option maxRecDepth 1000000
set_option maxHeartbeats 16000000
section
open Go.RowKit Go.Shelf
theorem wsec_any (n : Nat) (w : World) (h : n ≤ 9223372036854775807) : Calls Tryz.prog 138 #[.int .i64 n] w fun e w' => e = .returned (.int .i64 (secsI n)) ∧ w = w' := by
 by_cases hb : n ≤ 40000
 ·have h1 : IntKind.i64.wrap ((4 : Int) + n) = 4 + n := by rw [IntKind.wrap_i64]; omega
  have h2 : IntKind.i64.wrap ((4 : Int) + n + 47) = 4 + n + 47 := by rw [IntKind.wrap_i64]; omega
  have ht : ((4 : Int) + n + 47).tdiv 48 = (4 + n + 47) / 48 := Int.tdiv_eq_ediv_of_nonneg (by omega)
  have h3 : IntKind.i64.wrap (((4 : Int) + n + 47).tdiv 48) = ((4 : Int) + n + 47).tdiv 48 := by rw [ht, IntKind.wrap_i64]; omega
  have h4 : secsI n = ((4 : Int) + n + 47).tdiv 48 := by rw [ht]; unfold secsI; rw [if_neg (by omega)]; omega
  have h5 : ¬ (n : Int) < 0 := by omega
  have h6 : ¬ 40000 < (n : Int) := by omega
  go_enter Tryz.func138, Tryz.ntmps138
  go_wp2
  go_ret
  exact ⟨rfl, rfl⟩
 ·have h4 : secsI n = 0 := by unfold secsI; rw [if_pos (by omega)]
  have h5 : ¬ (n : Int) < 0 := by omega
  have h6 : 40000 < (n : Int) := by omega
  have H4 := Lib.hid h4
  clear h4
  go_enter Tryz.func138, Tryz.ntmps138
  go_wp2
  go_ret
  exact ⟨by rw [H4.out]; rfl, rfl⟩
def areaB (n : Int) : Bool := decide (4 ≤ n) && decide (n ≤ 1000)
theorem warea_any (n : Int) (w : World) : Calls Tryz.prog 135 #[.int .i64 n] w fun e w' => e = .returned (.bool (areaB n)) ∧ w = w' := by
 by_cases h : 4 ≤ n
 ·by_cases h2 : n ≤ 1000
  ·have ha : areaB n = true := by simp [areaB, h, h2]
   have HA := Lib.hid ha
   clear ha
   go_enter Tryz.func135, Tryz.ntmps135
   go_wp2
   go_ret
   exact ⟨by rw [HA.out]; rfl, rfl⟩
  ·have ha : areaB n = false := by simp [areaB, h2]
   have HA := Lib.hid ha
   clear ha
   go_enter Tryz.func135, Tryz.ntmps135
   go_wp2
   go_ret
   exact ⟨by rw [HA.out]; rfl, rfl⟩
 ·have ha : areaB n = false := by simp [areaB, h]
  have HA := Lib.hid ha
  clear ha
  have hd : decide (4 ≤ n) = false := decide_eq_false h
  go_enter Tryz.func135, Tryz.ntmps135
  go_wp2
  go_ret
  exact ⟨by rw [HA.out]; rfl, rfl⟩
theorem secsI_two (n : Nat) : 0 ≤ secsI n ∧ secsI n ≤ 834 := by unfold secsI; split <;> omega
def usedI (l : List (List Int)) : Int := (l.map fun b => secsI b.length).sum
theorem usedI_take (l : List (List Int)) {k : Nat} {x : List Int} (hx : l[k]? = some x) : usedI (l.take (k + 1)) = usedI (l.take k) + secsI x.length := by
 obtain ⟨h1, h2⟩ := List.getElem?_eq_some_iff.1 hx
 unfold usedI
 rw [List.take_succ_eq_append_getElem h1, h2]
 simp
theorem usedI_le : ∀ l : List (List Int), 0 ≤ usedI l ∧ usedI l ≤ 834 * l.length
 | [] => by simp [usedI]
 |x :: l => by
  have h1 := usedI_le l
  have h2 := secsI_two x.length
  simp only [usedI, List.map_cons, List.sum_cons, List.length_cons] at h1 ⊢
  omega
def BRows (w : World) (a : Option Addr) (l : List (List Int)) : Prop := ∀ i x, l[i]? = some x → ∃ b o ba bc, a = some ⟨b, o, none⟩ ∧ w.cell? ⟨b, o + i, none⟩ = some (.slice ba x.length bc) ∧ BytesIn w (.slice ba x.length bc) x ∧ x.length ≤ 9223372036854775807
theorem wused_any {a : Option Addr} {c : Nat} {l : List (List Int)} (w : World) (h : BRows w a l) (hl : l.length ≤ 1000000) :
  Calls Tryz.prog 72 #[.slice a l.length c] w fun e w' => e = .returned (.int .i64 (usedI l)) ∧ w = w' := by
 have H := Lib.hid h; have HL := Lib.hid hl
 clear h hl
 go_enter Tryz.func72, Tryz.ntmps72
 go_upto_block 0 with fail
 go_upto_region 3 with fail
 go_loopg [3, 8] l.length (fun gk s i wr => ∃ k : Nat, k ≤ l.length ∧ gk = l.length - k ∧ i = .int .i64 k ∧ s = .int .i64 (usedI (l.take k)) ∧ wr = w)
 case atStart => exact ⟨0, by omega, rfl, rfl, rfl, rfl⟩
 case round =>
  obtain ⟨k, hk, rfl, rfl, rfl, rfl⟩ := hrel
  by_cases hkn : k < l.length
  ·have hkni : (k : Int) < l.length := by omega
   obtain ⟨x, hx⟩ : ∃ x, l[k]? = some x := ⟨_, List.getElem?_eq_getElem hkn⟩
   obtain ⟨b, o, ba, bc, rfl, c0, _, hxl⟩ := H.out k x hx
   have HXL := Lib.hid hxl
   clear hxl
   have HT := Lib.hid (usedI_take l hx)
   have hu := usedI_le (l.take k)
   have hul : (l.take k).length ≤ 1000000 := by rw [List.length_take]; have := HL.out; omega
   have hs := secsI_two x.length
   have hcv2 : IntKind.i64.wrap ((k : Int) + 1) = (k : Int) + 1 := by rw [IntKind.wrap_i64]; have := HL.out; omega
   obtain ⟨u, hu0⟩ : ∃ u, u = usedI (l.take k) := ⟨_, rfl⟩
   obtain ⟨s, hs0⟩ : ∃ s, s = secsI x.length := ⟨_, rfl⟩
   rw [← hu0] at hu ⊢
   rw [← hs0] at hs
   have hcv3 : IntKind.i64.wrap (u + s) = u + s := by rw [IntKind.wrap_i64]; omega
   have HU := Lib.hid hu0; have HS := Lib.hid hs0
   clear hx hu0 hs0 hul hu hs
   go_wp2_with (go_at_call 138; fail)
   refine (wsec_any x.length wr HXL.out).mono ?_
   rintro e w2 ⟨rfl, rfl⟩
   rw [← HS.out]
   simp only []
   go_wp2
   go_roundg (l.length - (k + 1))
   case measure => omega
   case rel => exact ⟨k + 1, by omega, rfl, congrArg _ (by omega), by rw [HT.out, ← HU.out, ← HS.out], rfl⟩
  ·obtain rfl : k = l.length := by omega
   go_wp2
   go_ret
   exact ⟨by rw [List.take_length]; rfl, rfl⟩
theorem BytesIn.at {w : World} {a : Option Addr} {n c : Nat} {bs : List Int} (h : BytesIn w (.slice a n c) bs) {i : Nat} {x : Int} (hi : bs[i]? = some x) : ∃ ad, a = some ad ∧ w.cell? (ad.add i) = some (.int .u8 x) := by
 rcases h with ⟨_, rfl⟩ | ⟨ad, c', e, _, _, hc⟩
 ·simp at hi
 ·injection e with e1 _ _
  exact ⟨ad, e1, hc i _ (by simp [bcells, hi])⟩
def eqTo (xs ys : List Int) (k : Nat) : Prop := ∀ i, i < k → xs[i]? = ys[i]?
theorem wsame_any {a b : Option Addr} {n m c d : Nat} {xs ys : List Int} (w : World) (hx : BytesIn w (.slice a n c) xs) (hy : BytesIn w (.slice b m d) ys) (hn : n = xs.length) (hm : m = ys.length) (hl : xs.length ≤ 1000000) :
  Calls Tryz.prog 70 #[.slice a n c, .slice b m d] w fun e w' => e = .returned (.bool (decide (xs = ys))) ∧ Upd (fun _ => False) w w' := by
 have HX := Lib.hid hx; have HY := Lib.hid hy; have HN := Lib.hid hn; have HM := Lib.hid hm; have HL := Lib.hid (show n ≤ 1000000 by omega)
 clear hx hy
 by_cases h : n = m
 ·have hd : ((n : Int) != m) = false := by simp [h]
  have HE := Lib.hid h
  clear h hn hm hl
  go_enter Tryz.func70, Tryz.ntmps70
  go_upto_block 0 with fail
  go_upto_region 4 with fail
  go_loopg [13] n (fun gk i wr => ∃ k : Nat, k ≤ n ∧ gk = n - k ∧ i = .int .i64 k ∧ eqTo xs ys k ∧ Upd (fun _ => False) w wr)
  case atStart => exact ⟨0, by omega, rfl, rfl, fun i hi => by omega, Upd.refl _ _⟩
  case round =>
   obtain ⟨k, hk, rfl, rfl, he, hu⟩ := hrel
   have HEQ := Lib.hid he; have HU := Lib.hid hu
   clear he hu
   by_cases hkn : k < n
   ·have hkni : (k : Int) < n := by omega
    have hkmi : (k : Int) < m := by have := HE.out; omega
    have hkm : k < m := by omega
    have hk0 : (0 : Int) ≤ k := by omega
    obtain ⟨x, hx⟩ : ∃ x, xs[k]? = some x := ⟨_, List.getElem?_eq_getElem (by have := HN.out; omega)⟩
    obtain ⟨y, hy⟩ : ∃ y, ys[k]? = some y := ⟨_, List.getElem?_eq_getElem (by have := HM.out; omega)⟩
    obtain ⟨ad, rfl, c0⟩ := HX.out.at hx
    obtain ⟨bd, rfl, d0⟩ := HY.out.at hy
    have c1 := cell_keptF HU.out (fun e => e) c0
    have d1 := cell_keptF HU.out (fun e => e) d0
    have HXK := Lib.hid hx; have HYK := Lib.hid hy
    have hcv2 : IntKind.i64.wrap ((k : Int) + 1) = (k : Int) + 1 := by rw [IntKind.wrap_i64]; have := HL.out; omega
    clear hx hy c0 d0
    by_cases hxy : x = y
    ·have HXY := Lib.hid hxy
     have hq : (x != y) = false := by simp [hxy]
     clear hxy
     go_upto_region 6 with fail
     go_quiet (fail)
     go_wp2
     go_roundg (n - (k + 1))
     case measure => omega
     case rel =>
      refine ⟨k + 1, by omega, rfl, congrArg _ (by omega), fun i hi => ?_, HU.out.trans (Upd.drewN (Upd.refl _ _) _)⟩
      rcases Nat.lt_or_ge i k with h1 | h1
      ·exact HEQ.out i h1
      ·obtain rfl : i = k := by omega
       rw [HXK.out, HYK.out, HXY.out]
    ·have hq : (x != y) = true := by simp [hxy]
     have HNE := Lib.hid (show decide (xs = ys) = false from decide_eq_false (fun e => by
      have h1 := HXK.out
      rw [e, HYK.out] at h1
      injection h1 with h1
      exact hxy h1.symm))
     clear hxy
     go_upto_region 6 with fail
     go_quiet (fail)
     go_wp2
     go_ret
     exact ⟨by rw [HNE.out]; rfl, HU.out.trans (Upd.drewN (Upd.refl _ _) _)⟩
   ·obtain rfl : k = n := by omega
    have HT := Lib.hid (show decide (xs = ys) = true from decide_eq_true (List.ext_getElem? fun i => by
     rcases Nat.lt_or_ge i k with h1 | h1
     ·exact HEQ.out i h1
     ·rw [List.getElem?_eq_none (by have := HN.out; omega), List.getElem?_eq_none (by have := HM.out; have := HE.out; omega)]))
    go_wp2
    go_ret
    exact ⟨by rw [HT.out]; rfl, HU.out⟩
 ·have hd : ((n : Int) != m) = true := by simp; omega
  have HT := Lib.hid (show decide (xs = ys) = false from decide_eq_false (fun e => h (by rw [hn, hm, e])))
  clear h hn hm
  go_enter Tryz.func70, Tryz.ntmps70
  go_wp2
  go_ret
  exact ⟨by rw [HT.out]; rfl, Upd.refl _ _⟩
theorem beF_snoc (bs : List Int) (c : Int) : beF (bs ++ [c]) = beF bs * 256 + c := by simp [beF]
theorem beF_take {bs : List Int} {k : Nat} {c : Int} (h : bs[k]? = some c) : beF (bs.take (k + 1)) = beF (bs.take k) * 256 + c := by
 rw [List.take_add_one, h]
 exact beF_snoc _ _
theorem beF_le : ∀ (n : Nat) (bs : List Int), bs.length ≤ n → Bytes bs → 0 ≤ beF bs ∧ beF bs < 256 ^ n
 |n, bs, hl, hb => by
  induction n generalizing bs with
  |zero => obtain rfl : bs = [] := List.length_eq_zero_iff.1 (by omega); simp [beF]
  |succ n ih =>
   rcases List.eq_nil_or_concat bs with rfl | ⟨l, x, rfl⟩
   ·simp [beF]
    exact Int.pow_pos (by omega)
   ·have h1 := ih l (by simp at hl; omega) (fun y hy => hb y (by simp [hy]))
    have h2 := hb x (by simp)
    rw [List.concat_eq_append, beF_snoc, Int.pow_succ]
    omega
theorem wget_any {a : Option Addr} {c : Nat} {bs : List Int} (w : World) (hv : BytesIn w (.slice a bs.length c) bs) (hb : Bytes bs) (hl : bs.length ≤ 4) :
  Calls Tryz.prog 194 #[.slice a bs.length c] w fun e w' => e = .returned (.int .i64 (beF bs)) ∧ w = w' := by
 have HV := Lib.hid hv; have HB := Lib.hid hb; have HL := Lib.hid hl
 clear hv hb hl
 go_enter Tryz.func194, Tryz.ntmps194
 go_upto_block 0 with fail
 go_upto_region 3 with fail
 go_loopg [3, 8] bs.length (fun gk s i wr => ∃ k : Nat, k ≤ bs.length ∧ gk = bs.length - k ∧ i = .int .i64 k ∧ s = .int .i64 (beF (bs.take k)) ∧ wr = w)
 case atStart => exact ⟨0, by omega, rfl, rfl, rfl, rfl⟩
 case round =>
  obtain ⟨k, hk, rfl, rfl, rfl, rfl⟩ := hrel
  by_cases hkn : k < bs.length
  ·have hkni : (k : Int) < bs.length := by omega
   obtain ⟨x, hx⟩ : ∃ x, bs[k]? = some x := ⟨_, List.getElem?_eq_getElem hkn⟩
   obtain ⟨ad, rfl, c0⟩ := HV.out.at hx
   have HT := Lib.hid (beF_take hx)
   have hu := beF_le 3 (bs.take k) (by rw [List.length_take]; have := HL.out; omega) (fun y hy => HB.out y (List.mem_of_mem_take hy))
   have hxb := HB.out x (List.mem_of_getElem? hx)
   obtain ⟨u, hu0⟩ : ∃ u, u = beF (bs.take k) := ⟨_, rfl⟩
   rw [← hu0] at hu ⊢
   have hcv2 : IntKind.i64.wrap ((k : Int) + 1) = (k : Int) + 1 := by rw [IntKind.wrap_i64]; have := HL.out; omega
   have hcv3 : IntKind.i64.wrap (256 * u) = 256 * u := by rw [IntKind.wrap_i64]; omega
   have hcv4 : IntKind.i64.wrap (256 * u + x) = 256 * u + x := by rw [IntKind.wrap_i64]; omega
   have hcv5 : IntKind.i64.wrap x = x := by rw [IntKind.wrap_i64]; omega
   have HU := Lib.hid hu0
   clear hx hu0 hu hxb
   go_wp2
   go_roundg (bs.length - (k + 1))
   case measure => omega
   case rel => exact ⟨k + 1, by omega, rfl, congrArg _ (by omega), by rw [HT.out, ← HU.out, Int.mul_comm], rfl⟩
  ·obtain rfl : k = bs.length := by omega
   go_wp2
   go_ret
   exact ⟨by rw [List.take_length]; rfl, rfl⟩
theorem BytesIn.headw {w : World} {a : Option Addr} {c : Nat} {bs : List Int} (h : BytesIn w (.slice a bs.length c) bs) (hc : bs.length ≤ c) {n : Nat} (hn : n ≤ bs.length) :
  (∀ W, (Instr.slice 39 (.slice a bs.length c) none (some (.int .i64 n)) none).run Tryz.prog W = .ok (.slice a n c) W) ∧ BytesIn w (.slice a n c) (bs.take n) := by
 have hl : (bs.take n).length = n := by simp; omega
 rcases h with ⟨h1, rfl⟩ | ⟨ad, c', h1, h2, h3, h4⟩
 ·injection h1 with e1 _ e3
  subst e1
  subst e3
  obtain rfl : n = 0 := by simpa using hn
  refine ⟨fun W => ?_, .inl ⟨rfl, rfl⟩⟩
  have := run_slice_h W 39 none 0 0 elem39 .i64 0 (by omega) (by omega)
  rw [show ((0 : Nat) : Int) = 0 from rfl, show ([] : List Int).length = 0 from rfl, this, size39e]
  rfl
 ·injection h1 with e1 _ e3
  subst e1
  subst e3
  refine ⟨fun W => ?_, .inr ⟨ad, c, by rw [hl], by rw [hl]; omega, h3, fun i u hi => ?_⟩⟩
  ·rw [run_slice_h W 39 _ bs.length c elem39 .i64 n (by omega) (by omega), size39e]
   simp [Result.andThen, sliced, Addr.add_zero']
  ·have hi2 := (List.getElem?_eq_some_iff.1 hi).1
   simp only [bcells, List.length_map, hl] at hi2
   refine h4 i u ?_
   simp only [bcells, List.getElem?_map, List.getElem?_take_of_lt hi2] at hi ⊢
   exact hi
def lowF (bs : List Int) : Int := (1 + bs.sum) % 65521
def hiF (bs : List Int) : Nat → Int
 | 0 => 0
 |k + 1 => hiF bs k + lowF (bs.take (k + 1))
theorem sum_take {bs : List Int} {k : Nat} {x : Int} (h : bs[k]? = some x) : (bs.take (k + 1)).sum = (bs.take k).sum + x := by
 rw [List.take_add_one, h]
 simp
theorem sum_le : ∀ (bs : List Int), Bytes bs → 0 ≤ bs.sum ∧ bs.sum ≤ 255 * bs.length
 | [], _ => by simp
 |x :: l, h => by
  have h1 := sum_le l (fun y hy => h y (by simp [hy]))
  have h2 := h x (by simp)
  simp only [List.sum_cons, List.length_cons]
  omega
theorem low_two (bs : List Int) : 0 ≤ lowF bs ∧ lowF bs < 65521 := by unfold lowF; omega
theorem hi_le (bs : List Int) : ∀ k : Nat, 0 ≤ hiF bs k ∧ hiF bs k ≤ 65521 * k
 | 0 => by simp [hiF]
 |k + 1 => by
  have h1 := hi_le bs k
  have h2 := low_two (bs.take (k + 1))
  simp only [hiF]
  omega
theorem sumP_low {bs : List Int} (hb : Bytes bs) : ∀ k, k ≤ bs.length → (sumP (bs.take k)).1 = lowF (bs.take k) ∧ (sumP (bs.take k)).2 = hiF bs k % 65521
 | 0, _ => by simp [sumP, lowF, hiF]
 |k + 1, h => by
  obtain ⟨x, hx⟩ : ∃ x, bs[k]? = some x := ⟨_, List.getElem?_eq_getElem (by omega)⟩
  obtain ⟨h1, h2⟩ := sumP_low hb k (by omega)
  have h3 := sumP_take bs k x hx
  have h4 : lowF (bs.take (k + 1)) = (lowF (bs.take k) + x) % 65521 := by
   unfold lowF
   rw [sum_take hx]
   omega
  rw [h3]
  have h5 : hiF bs (k + 1) = hiF bs k + (lowF (bs.take k) + x) % 65521 := by rw [← h4]; rfl
  rw [h4, h5]
  unfold sumStep
  rw [h1, h2]
  generalize hiF bs k = u
  generalize lowF (bs.take k) = v
  constructor
  ·show (v + x) % 65521 = _
   rfl
  ·show (u % 65521 + (v + x) % 65521) % 65521 = _
   omega
theorem sumF_ref {bs : List Int} (hb : Bytes bs) : sumF bs = hiF bs bs.length % 65521 * 65536 + lowF bs := by
 obtain ⟨h1, h2⟩ := sumP_low hb bs.length (Nat.le_refl _)
 rw [List.take_length] at h1 h2
 unfold sumF
 rw [h1, h2]
theorem wlow_any {a : Option Addr} {c : Nat} {bs : List Int} (w : World) (hv : BytesIn w (.slice a bs.length c) bs) (hb : Bytes bs) (hl : bs.length ≤ 1000000) :
  Calls Tryz.prog 195 #[.slice a bs.length c] w fun e w' => e = .returned (.int .u64 (lowF bs)) ∧ w = w' := by
 have HV := Lib.hid hv; have HB := Lib.hid hb; have HL := Lib.hid hl
 clear hv hb hl
 go_enter Tryz.func195, Tryz.ntmps195
 go_upto_block 0 with fail
 go_upto_region 3 with fail
 go_loopg [3, 4] bs.length (fun gk s i wr => ∃ k : Nat, k ≤ bs.length ∧ gk = bs.length - k ∧ i = .int .i64 k ∧ s = .int .u64 (1 + (bs.take k).sum) ∧ wr = w)
 case atStart => exact ⟨0, by omega, rfl, rfl, by simp, rfl⟩
 case round =>
  obtain ⟨k, hk, rfl, rfl, rfl, rfl⟩ := hrel
  have hkb : k ≤ 1000000 := by have := HL.out; omega
  have hu := sum_le (bs.take k) (fun y hy => HB.out y (List.mem_of_mem_take hy))
  have hul : (bs.take k).length ≤ 1000000 := by rw [List.length_take]; omega
  obtain ⟨u, hu0⟩ : ∃ u, u = (bs.take k).sum := ⟨_, rfl⟩
  rw [← hu0] at hu ⊢
  have hub : 0 ≤ u ∧ u ≤ 255000000 := by omega
  have HU := Lib.hid hu0
  clear hu hul hu0
  by_cases hkn : k < bs.length
  ·have hkni : (k : Int) < bs.length := by omega
   obtain ⟨x, hx⟩ : ∃ x, bs[k]? = some x := ⟨_, List.getElem?_eq_getElem hkn⟩
   obtain ⟨ad, rfl, c0⟩ := HV.out.at hx
   have HT := Lib.hid (sum_take hx)
   have hxb := HB.out x (List.mem_of_getElem? hx)
   have hcv2 : IntKind.i64.wrap ((k : Int) + 1) = (k : Int) + 1 := by rw [IntKind.wrap_i64]; omega
   have hcv3 : IntKind.u64.wrap (1 + u + x) = 1 + u + x := by rw [IntKind.wrap_u64]; omega
   have hcv5 : IntKind.u64.wrap x = x := by rw [IntKind.wrap_u64]; omega
   clear hx
   go_wp2
   go_roundg (bs.length - (k + 1))
   case measure => omega
   case rel => exact ⟨k + 1, by omega, rfl, congrArg _ (by omega), by rw [HT.out, ← HU.out]; congr 1; omega, rfl⟩
  ·obtain rfl : k = bs.length := by omega
   rw [List.take_length] at HU
   have hm : (1 + u).tmod 65521 = (1 + u) % 65521 := Int.tmod_eq_emod_of_nonneg (by omega)
   have HM := Lib.hid (show lowF bs = (1 + u) % 65521 by unfold lowF; rw [← HU.out])
   go_wp2
   go_ret
   exact ⟨by rw [HM.out]; rfl, rfl⟩
theorem wsum_any {a : Option Addr} {c : Nat} {bs : List Int} (w : World) (hv : BytesIn w (.slice a bs.length c) bs) (hb : Bytes bs) (hl : bs.length ≤ 1000) (hc : bs.length ≤ c) :
  Calls Tryz.prog 176 #[.slice a bs.length c] w fun e w' => e = .returned (.int .u32 (sumF bs)) ∧ w = w' := by
 have HV := Lib.hid hv; have HB := Lib.hid hb; have HL := Lib.hid hl; have HC := Lib.hid hc
 clear hv hb hl hc
 go_enter Tryz.func176, Tryz.ntmps176
 go_upto_block 0 with fail
 go_upto_region 3 with fail
 go_loopg [3, 4] bs.length (fun gk s i wr => ∃ k : Nat, k ≤ bs.length ∧ gk = bs.length - k ∧ i = .int .i64 (k + 1) ∧ s = .int .u64 (hiF bs k) ∧ wr = w)
 case atStart => exact ⟨0, by omega, rfl, rfl, rfl, rfl⟩
 case round =>
  obtain ⟨k, hk, rfl, rfl, rfl, rfl⟩ := hrel
  have hkb : k ≤ 1000 := by have := HL.out; omega
  have hu := hi_le bs k
  obtain ⟨u, hu0⟩ : ∃ u, u = hiF bs k := ⟨_, rfl⟩
  rw [← hu0] at hu ⊢
  have HU := Lib.hid hu0
  clear hu0
  by_cases hkn : k < bs.length
  ·have hkni : (k : Int) + 1 ≤ bs.length := by omega
   have hlt := low_two (bs.take (k + 1))
   have HT := Lib.hid (show hiF bs (k + 1) = hiF bs k + lowF (bs.take (k + 1)) from rfl)
   obtain ⟨hsl, hbm⟩ := HV.out.headw HC.out (n := k + 1) (by omega)
   have hlen : (bs.take (k + 1)).length = k + 1 := by rw [List.length_take]; omega
   have hw := wlow_any (a := a) (c := c) (bs := bs.take (k + 1)) wr (by rw [hlen]; exact hbm) (fun y hy => HB.out y (List.mem_of_mem_take hy)) (by omega)
   rw [hlen] at hw
   obtain ⟨s, hs⟩ : ∃ s, s = lowF (bs.take (k + 1)) := ⟨_, rfl⟩
   rw [← hs] at hw hlt
   have HW := Lib.hid hw; have HS := Lib.hid hs
   have hcv2 : IntKind.i64.wrap ((k : Int) + 1 + 1) = (k : Int) + 1 + 1 := by rw [IntKind.wrap_i64]; omega
   have hcv3 : IntKind.u64.wrap (u + s) = u + s := by rw [IntKind.wrap_u64]; omega
   have hsl2 := hsl
   push_cast at hsl2
   clear hbm hlen hw hs
   go_wp2_with (go_at_call 195; fail)
   refine HW.out.mono ?_
   rintro e w2 ⟨rfl, rfl⟩
   simp only []
   go_wp2
   go_roundg (bs.length - (k + 1))
   case measure => omega
   case rel => exact ⟨k + 1, by omega, rfl, congrArg _ (by push_cast; rfl), by rw [HT.out, ← HU.out, ← HS.out], rfl⟩
  ·obtain rfl : k = bs.length := by omega
   have hw := wlow_any (a := a) (c := c) (bs := bs) wr HV.out HB.out (by omega)
   have hlt := low_two bs
   have HR := Lib.hid (sumF_ref HB.out)
   obtain ⟨s, hs⟩ : ∃ s, s = lowF bs := ⟨_, rfl⟩
   rw [← hs] at hw hlt
   have HW := Lib.hid hw; have HS := Lib.hid hs
   have hm : u.tmod 65521 = u % 65521 := Int.tmod_eq_emod_of_nonneg (by omega)
   clear hw hs
   go_wp2_with (go_at_call 195; fail)
   refine HW.out.mono ?_
   rintro e w2 ⟨rfl, rfl⟩
   simp only []
   go_wp2
   go_ret
   exact ⟨by rw [HR.out, ← HS.out, ← HU.out]; rfl, rfl⟩
def FullB (w : World) (base : Nat) (v : Value) (bs : List Int) : Prop := OwnB w base v bs ∨ ∃ a, v = .slice (some a) bs.length bs.length ∧ ∀ (i : Nat) u, (bcells bs)[i]? = some u → w.cell? (a.add i) = some u
theorem FullB.keptF {w w' : World} {base : Nat} {v : Value} {bs : List Int} (h : FullB w base v bs) (hu : Upd (fun _ => False) w w') : FullB w' base v bs := by
 rcases h with h | ⟨a, e, h⟩
 ·exact .inl (h.keptF hu (fun _ _ e => e))
 ·exact .inr ⟨a, e, fun i u hi => cell_keptF hu (fun e => e) (h i u hi)⟩
theorem FullB.slice' {w : World} {base : Nat} {v : Value} {bs : List Int} (h : FullB w base v bs) : ∃ a n c, v = .slice a n c := by
 rcases h with h | ⟨a, e, _⟩
 ·exact h.bytesAt.1.slice'
 ·exact ⟨_, _, _, e⟩
theorem run_appF {w : World} {base : Nat} {ty : TypeId} {v vx : Value} {bs cs : List Int} (hown : FullB w base v bs) (hx : BytesIn w vx cs) (hc : 0 < cs.length) (hm : bs.length + cs.length ≤ 1099511627776) (hbase : base ≤ w.heap.size) :
  ∃ v' w', (Builtin.append_ #[39, 39] ty #[v, vx]).run Tryz.prog w = .ok v' w' ∧ OwnB w' base v' (bs ++ cs) ∧ Upd (fun k => base ≤ k) w w' := by
 rcases hown with h | ⟨b, rfl, h⟩
 ·obtain ⟨v', w', h1, h2, h3⟩ := run_appB (ty := ty) h hx hm hbase
  exact ⟨v', w', h1, h2, h3.mono (fun k _ e => (h.lt k e).1)⟩
 ·obtain ⟨i, hi, hz, hs, hb⟩ := info_parts Tryz.info5p
  rcases hx with ⟨rfl, rfl⟩ | ⟨a, c, rfl, h1, h2, h3⟩
  ·simp at hc
  ·obtain ⟨v', w', hr, g1, g2⟩ := run_append_arg_grows (P := Tryz.prog) w 39 ty 5 i (.int .u8 0) 1 1 Tryz.underlying39 hi hz hs hb rfl (by omega) b bs.length bs.length (bcells bs) (by simp [bcells]) h a cs.length c (bcells cs) (by simp [bcells]) h3 (by omega) (by unfold maxLen; omega) (by omega)
   refine ⟨v', w', hr, ?_, Upd.of_grown (F := fun k => base ≤ k) g2 (fun k hk => by simp at hk)⟩
   refine OwnB.mono ?_ hbase
   unfold OwnB
   rw [bcells_append, List.length_append]
   exact g1
theorem wpList_appF {ops : Array Oper} {rest : List Oper} {o : Oper} {a : Act} {w : World} {Q : Exit → Act → World → Prop} (hgd : o.guard = none) (s x : Operand) (ho : o.op = .call { callee := .builtin .append, args := #[s, x], argTypes := #[39, 39] })
  {base : Nat} {v vx : Value} {bs cs : List Int} (hs : a.eval s = v) (hown : FullB w base v bs) (hx : a.eval x = vx) (hxx : BytesIn w vx cs) (hc : 0 < cs.length) (hm : bs.length + cs.length ≤ 1099511627776) (hbase : base ≤ w.heap.size)
  (h : ∀ v' w', OwnB w' base v' (bs ++ cs) → Upd (fun k => base ≤ k) w w' → wpList Tryz.prog ops Q rest (a.put o.dst v') w') : wpList Tryz.prog ops Q (o :: rest) a w := by
 obtain ⟨v', w', hr, g1, g2⟩ := run_appF (ty := o.type) hown hxx hc hm hbase
 exact Lib.wpList_append_run w hgd s x 39 39 ho v vx hs hx v' w' hr (h v' w' g1 g2)
theorem layF_at (x : Int) (n k j : Nat) (h : n = k + 1 + j) : (layF x (8 * n)).take (k + 1) = (layF x (8 * n)).take k ++ [x / 2 ^ (8 * j) % 256] := by
 rw [layF_snoc x n k (by omega), show 8 * n - 8 * (k + 1) = 8 * j by omega]
theorem wput_any {v : Value} {bs : List Int} {x : Int} {n base : Nat} (w : World) (hf : FullB w base v bs) (hx : 0 ≤ x ∧ x ≤ 9223372036854775807) (hn : 1 ≤ n ∧ n ≤ 4) (hl : bs.length ≤ 1000000) (hb : base ≤ w.heap.size) :
  Calls Tryz.prog 175 #[v, .int .i64 x, .int .i64 n] w fun e w' => ∃ u, e = .returned u ∧ OwnB w' base u (bs ++ layF x (8 * n)) ∧ Upd (fun k => base ≤ k) w w' := by
 obtain ⟨va, vn, vc, rfl⟩ := hf.slice'
 have HF := Lib.hid hf; have HN := Lib.hid hn; have HL := Lib.hid hl; have HB := Lib.hid hb
 have hx1 : IntKind.u64.wrap x = x := by rw [IntKind.wrap_u64]; omega
 have hw1 : IntKind.i64.wrap ((n : Int) - 1) = n - 1 := by rw [IntKind.wrap_i64]; omega
 clear hf hl hb
 go_enter Tryz.func175, Tryz.ntmps175
 go_upto_region 2 with fail
 go_loopg [0, 7] n (fun gk out i wr => ∃ k : Nat, k ≤ n ∧ gk = n - k ∧ i = .int .i64 (n - 1 - k) ∧ FullB wr base out (bs ++ (layF x (8 * n)).take k) ∧ (k = n → OwnB wr base out (bs ++ (layF x (8 * n)).take k)) ∧ Upd (fun k => base ≤ k) w wr)
 case atStart => exact ⟨0, Nat.zero_le _, rfl, by simp, by simpa using HF.out, fun e => by have := HN.out; omega, Upd.refl _ _⟩
 case round =>
  obtain ⟨k, hk, rfl, rfl, ho, ho2, hu⟩ := hrel
  have HO := Lib.hid ho; have HU := Lib.hid hu; have HO2 := Lib.hid ho2
  clear ho hu ho2
  by_cases hkn : k < n
  ·obtain ⟨j, hj⟩ : ∃ j : Nat, (n : Int) - 1 - k = j := ⟨n - 1 - k, by omega⟩
   have HJ := Lib.hid (layF_at x n k j (by omega))
   rw [hj]
   have hj3 : (j : Int) ≤ 3 := by have := HN.out; omega
   have hj0 : (0 : Int) ≤ j := by omega
   have hw2 : IntKind.i64.wrap (8 * (j : Int)) = 8 * j := by rw [IntKind.wrap_i64]; omega
   have hw3 : IntKind.i64.wrap ((j : Int) - 1) = j - 1 := by rw [IntKind.wrap_i64]; omega
   obtain ⟨oa, on, oc, rfl⟩ := HO.out.slice'
   go_upto_region 4 with fail
   iterate 25 go_step
   have hlk : (bs ++ (layF x (8 * n)).take k).length = bs.length + k := by
    have := layF_length x (8 * n)
    simp only [List.length_append, List.length_take]
    omega
   have hsz := Nat.le_trans HB.out HU.out.size
   refine wpList_appF (base := base) (bs := bs ++ (layF x (8 * n)).take k) (cs := [x / 2 ^ (8 * j) % 256]) rfl (.tmp 14) (.tmp 21) rfl rfl (HO.out.keptF ((Upd.refl (fun _ => False) wr).alloc _)) rfl ?_ (by simp) (by rw [hlk]; simp only [List.length_cons, List.length_nil]; have := HL.out; have := HN.out; omega) (by simp; omega) ?_
   ·exact one_in wr (x / 2 ^ (8 * j) % 256)
   intro v2 w2 g1 g2
   rw [List.append_assoc, ← HJ.out] at g1
   have HO3 := Lib.hid g1; have HU3 := Lib.hid ((HU.out.alloc _).trans g2)
   clear g1 g2 hlk hsz HO2
   go_wp2
   go_roundg (n - (k + 1))
   case measure => omega
   case rel => exact ⟨k + 1, by omega, rfl, congrArg _ (by omega), .inl HO3.out, fun _ => HO3.out, HU3.out⟩
  ·obtain rfl : k = n := by omega
   have hj : ((k : Int) - 1 - k) = -1 := by omega
   rw [hj]
   have HO3 := HO2.out rfl
   rw [List.take_of_length_le (by rw [layF_length]; omega)] at HO3
   have HO4 := Lib.hid HO3
   clear HO3 hj
   go_wp2
   go_ret
   exact ⟨_, rfl, HO4.out, HU.out⟩
end
section
open Go.RowKit Go.Shelf Go.Joins
theorem cells4_of {w : World} {b : Nat} {x0 x1 x2 x3 : Value} {t : TypeId} (h : w.heap[b]? = some (.cells #[x0, x1, x2, x3] t (0, 0))) : w.cell? ⟨b, 0, none⟩ = some x0 ∧ w.cell? ⟨b, 1, none⟩ = some x1 ∧ w.cell? ⟨b, 2, none⟩ = some x2 ∧ w.cell? ⟨b, 3, none⟩ = some x3 := by
 refine ⟨?_, ?_, ?_, ?_⟩ <;> simp [World.cell?, h]
theorem BytesIn.cap {w : World} {a : Addr} {n c : Nat} {bs : List Int} (h : BytesIn w (.slice (some a) n c) bs) : n ≤ c := by
 rcases h with ⟨h, _⟩ | ⟨b, c', h, h1, _⟩
 ·cases h
 ·injection h with _ h2 h3
  omega
theorem wput4_any {v : Value} {bs : List Int} {x : Int} {base : Nat} (w : World) (hf : FullB w base v bs) (hx : 0 ≤ x ∧ x ≤ 9223372036854775807) (hl : bs.length ≤ 1000000) (hb : base ≤ w.heap.size) :
  Calls Tryz.prog 175 #[v, .int .i64 x, .int .i64 4] w fun e w' => ∃ u, e = .returned u ∧ OwnB w' base u (bs ++ layF x 32) ∧ Upd (fun k => base ≤ k) w w' := wput_any (n := 4) w hf hx (by omega) hl hb
theorem wput2_any {v : Value} {bs : List Int} {x : Int} {base : Nat} (w : World) (hf : FullB w base v bs) (hx : 0 ≤ x ∧ x ≤ 9223372036854775807) (hl : bs.length ≤ 1000000) (hb : base ≤ w.heap.size) :
  Calls Tryz.prog 175 #[v, .int .i64 x, .int .i64 2] w fun e w' => ∃ u, e = .returned u ∧ OwnB w' base u (bs ++ layF x 16) ∧ Upd (fun k => base ≤ k) w w' := wput_any (n := 2) w hf hx (by omega) hl hb
theorem wblock_any (h : Hd) (w : World) (hr : h.U32) : Calls Tryz.prog 169 #[h.val] w fun e w' => e = .returned (.agg (bcells (headF h)).toArray) ∧ Upd (fun _ => False) w w' := by
 have hsl : (sectorF (headP h 4)).length = 64 := sectorF_length (by rw [headP_length h (Nat.le_refl 4)]; omega)
 rw [headP_last] at hsl
 have hi : (Tryz.prog.info? 48).map (·.size) = some (bcells (headF h)).length := by rw [Tryz.info56p]; simp [bcells, hsl]
 have H1B := Lib.hid (all_oneCell_toArray (bcells_one (headF h)))
 have HL : RowKit.Hid ((bcells (headF h)).length = 64) := Lib.hid (by simp [bcells, hsl])
 have HI := Lib.hid hi
 have t1 : 0 ≤ h.turn ∧ h.turn ≤ 9223372036854775807 := by have := hr.turn; omega
 have t2 : 0 ≤ h.area ∧ h.area ≤ 9223372036854775807 := by have := hr.area; omega
 have t3 : 0 ≤ h.place ∧ h.place ≤ 9223372036854775807 := by have := hr.place; omega
 have t4 : 0 ≤ h.number ∧ h.number ≤ 9223372036854775807 := by have := hr.number; omega
 obtain ⟨hv, hhv⟩ : ∃ hv, hv = bcells (headF h) := ⟨_, rfl⟩
 rw [← hhv] at H1B HL HI ⊢
 have HHV := Lib.hid hhv
 clear hsl hi hr hhv
 unfold Hd.val
 go_enter Tryz.func169, Tryz.ntmps169
 go_upto_region 1 with fail
 obtain ⟨bx, hbx⟩ : ∃ bx, bx = w.heap.size := ⟨_, rfl⟩
 rw [← hbx]
 refine (show ∀ wi, wi = (w.alloc (.cells #[.int .i64 h.turn, .int .i64 h.area, .int .i64 h.place, .int .i64 h.number] 31)).alloc (.cells (bcells zblk).toArray 48) → Code.wp _ _ _ _ wi from ?_) _ rfl
 intro wi hwi
 have hxi : wi.heap[bx]? = some (.cells #[.int .i64 h.turn, .int .i64 h.area, .int .i64 h.place, .int .i64 h.number] 31 (0, 0)) := by rw [hwi, alloc_lt (by simp; omega)]; exact alloc_at hbx
 have hzi : wi.heap[bx + 1]? = some (.cells (bcells zblk).toArray 48 (0, 0)) := by rw [hwi]; exact alloc_at (by simp; omega)
 have hui : Upd (fun _ => False) w wi := by rw [hwi]; exact ((Upd.refl _ w).alloc _).alloc _
 have HXI := Lib.hid hxi; have HZI := Lib.hid hzi; have HUI := Lib.hid hui; have HBX := Lib.hid hbx
 clear hxi hzi hui hwi hbx
 have hA : Upd (fun k => wi.heap.size ≤ k) wi wi.drew := (Upd.refl _ _).drew
 refine wp_region_G 14 (fun W => Upd (fun k => wi.heap.size ≤ k) wi W) [false, false, false, false, false, false, false, false, false, false, false, false, false, false, false] rfl (by kernel_rfl) ?_
 generalize wi.drew = wd at hA ⊢
 have hA0 := hA
 refine wpG_takeP (i := 2) (v := .pointer (some ⟨bx, 0, none⟩)) rfl (by kernel_rfl) (fun _ _ _ h => h) hA (.inl ⟨rfl, fun w5 q1 => ?_⟩) ?_
 ·go_simp
 simp only [Act.put, List.setIfInBounds_toArray, List.set]
 refine wpG_takeT (i := 3) (v := .int .i64 h.turn) rfl (fun L hc h => (hc.waits (n := 14) (i := 3) (by kernel_rfl) h)) (by kernel_rfl) (fun _ _ _ h => h) hA (.inl ⟨rfl, fun w5 q1 => ?_⟩) ?_
 ·obtain ⟨c0, c1, c2, c3⟩ := cells4_of ((q1.block _ (lt_of_heap HXI.out) (fun e => by have := lt_of_heap HXI.out; omega)).trans HXI.out)
  go_simp
 simp only [Act.put, List.setIfInBounds_toArray, List.set]
 refine wpG_takeP (i := 5) (v := .pointer (some ⟨bx, 1, none⟩)) rfl (by kernel_rfl) (fun _ _ _ h => h) hA (.inl ⟨rfl, fun w5 q1 => ?_⟩) ?_
 ·go_simp
 simp only [Act.put, List.setIfInBounds_toArray, List.set]
 refine wpG_takeT (i := 6) (v := .int .i64 h.area) rfl (fun L hc h => (hc.waits (n := 14) (i := 6) (by kernel_rfl) h)) (by kernel_rfl) (fun _ _ _ h => h) hA (.inl ⟨rfl, fun w5 q1 => ?_⟩) ?_
 ·obtain ⟨c0, c1, c2, c3⟩ := cells4_of ((q1.block _ (lt_of_heap HXI.out) (fun e => by have := lt_of_heap HXI.out; omega)).trans HXI.out)
  go_simp
 simp only [Act.put, List.setIfInBounds_toArray, List.set]
 refine wpG_takeP (i := 8) (v := .pointer (some ⟨bx, 2, none⟩)) rfl (by kernel_rfl) (fun _ _ _ h => h) hA (.inl ⟨rfl, fun w5 q1 => ?_⟩) ?_
 ·go_simp
 simp only [Act.put, List.setIfInBounds_toArray, List.set]
 refine wpG_takeT (i := 9) (v := .int .i64 h.place) rfl (fun L hc h => (hc.waits (n := 14) (i := 9) (by kernel_rfl) h)) (by kernel_rfl) (fun _ _ _ h => h) hA (.inl ⟨rfl, fun w5 q1 => ?_⟩) ?_
 ·obtain ⟨c0, c1, c2, c3⟩ := cells4_of ((q1.block _ (lt_of_heap HXI.out) (fun e => by have := lt_of_heap HXI.out; omega)).trans HXI.out)
  go_simp
 simp only [Act.put, List.setIfInBounds_toArray, List.set]
 refine wpG_takeP (i := 11) (v := .pointer (some ⟨bx, 3, none⟩)) rfl (by kernel_rfl) (fun _ _ _ h => h) hA (.inl ⟨rfl, fun w5 q1 => ?_⟩) ?_
 ·go_simp
 simp only [Act.put, List.setIfInBounds_toArray, List.set]
 refine wpG_takeT (i := 12) (v := .int .i64 h.number) rfl (fun L hc h => (hc.waits (n := 14) (i := 12) (by kernel_rfl) h)) (by kernel_rfl) (fun _ _ _ h => h) hA (.inl ⟨rfl, fun w5 q1 => ?_⟩) ?_
 ·obtain ⟨c0, c1, c2, c3⟩ := cells4_of ((q1.block _ (lt_of_heap HXI.out) (fun e => by have := lt_of_heap HXI.out; omega)).trans HXI.out)
  go_simp
 simp only [Act.put, List.setIfInBounds_toArray, List.set]
 refine wpG_doIf (i := 0) rfl (by kernel_rfl) rfl (fun K hK => ?_)
 have HKK := Lib.hid hK
 clear hK
 go_step
 have hA := hA.alloc (.cells #[.int .u8 104, .int .u8 101, .int .u8 97, .int .u8 100, .int .u8 114, .int .u8 97, .int .u8 99, .int .u8 101] 5)
 refine HKK.out _ _ hA ?_
 clear HKK
 simp only [Act.put, List.setIfInBounds_toArray, List.set]
 refine wpG_doIf (i := 1) rfl (by kernel_rfl) rfl (fun K hK => ?_)
 have HKK := Lib.hid hK
 clear hK
 have kc := Lib.run_convert_bytes_const (P := Tryz.prog) wd 39 5 #[.int .u8 104, .int .u8 101, .int .u8 97, .int .u8 100, .int .u8 114, .int .u8 97, .int .u8 99, .int .u8 101] 8 8 Tryz.underlying39 Tryz.underlying5
 refine wp_exec (run_exec_convert rfl rfl kc) ?_
 clear kc hA
 have hA : Upd (fun k => wi.heap.size ≤ k) wi (wd.alloc (.cells #[.int .u8 104, .int .u8 101, .int .u8 97, .int .u8 100, .int .u8 114, .int .u8 97, .int .u8 99, .int .u8 101] 5 (8, 8 + 1))) := hA0.alloc _
 have hf0 : FullB (wd.alloc (.cells #[.int .u8 104, .int .u8 101, .int .u8 97, .int .u8 100, .int .u8 114, .int .u8 97, .int .u8 99, .int .u8 101] 5 (8, 8 + 1))) wi.heap.size (.slice (some ⟨wd.heap.size, 0, none⟩) 8 8) (headP h 0) := by
  have e : headP h 0 = lettersF := by simp [headP]
  rw [e]
  refine .inr ⟨⟨wd.heap.size, 0, none⟩, rfl, fun i u hi => ?_⟩
  rw [Addr.add_mid, Nat.zero_add, cell_alloc_mark_at wd _ _ _ _ i rfl]
  simpa [bcells, lettersF] using hi
 have HF0 := Lib.hid hf0
 clear hf0
 refine HKK.out _ _ hA ?_
 clear HKK
 simp only [Act.put, List.setIfInBounds_toArray, List.set]
 refine wpG_doIf (i := 4) rfl (by kernel_rfl) rfl (fun K hK => ?_)
 have HKK := Lib.hid hK
 clear hK
 go_step
 refine (wput4_any (base := wi.heap.size) (bs := headP h 0) (x := h.turn) _ HF0.out t1 (by rw [headP_length h (by omega)]; omega) hA.size).mono ?_
 rintro e w1 ⟨u0, rfl, ho0, hu0⟩
 rw [← headP_step h (k := 0) (x := h.turn) rfl] at ho0
 obtain ⟨ua0, un0, uc0, rfl⟩ := ho0.bytesAt.1.slice'
 have HO0 := Lib.hid ho0
 have hA := hA.trans hu0
 clear ho0 hu0
 simp only []
 refine HKK.out _ _ hA ?_
 clear HKK
 simp only [Act.put, List.setIfInBounds_toArray, List.set]
 refine wpG_doIf (i := 7) rfl (by kernel_rfl) rfl (fun K hK => ?_)
 have HKK := Lib.hid hK
 clear hK
 go_step
 refine (wput4_any (base := wi.heap.size) (bs := headP h 1) (x := h.area) w1 (.inl HO0.out) t2 (by rw [headP_length h (by omega)]; omega) hA.size).mono ?_
 rintro e w2 ⟨u1, rfl, ho1, hu1⟩
 rw [← headP_step h (k := 1) (x := h.area) rfl] at ho1
 obtain ⟨ua1, un1, uc1, rfl⟩ := ho1.bytesAt.1.slice'
 have HO1 := Lib.hid ho1
 have hA := hA.trans hu1
 clear ho1 hu1
 simp only []
 refine HKK.out _ _ hA ?_
 clear HKK
 simp only [Act.put, List.setIfInBounds_toArray, List.set]
 refine wpG_doIf (i := 10) rfl (by kernel_rfl) rfl (fun K hK => ?_)
 have HKK := Lib.hid hK
 clear hK
 go_step
 refine (wput4_any (base := wi.heap.size) (bs := headP h 2) (x := h.place) w2 (.inl HO1.out) t3 (by rw [headP_length h (by omega)]; omega) hA.size).mono ?_
 rintro e w3 ⟨u2, rfl, ho2, hu2⟩
 rw [← headP_step h (k := 2) (x := h.place) rfl] at ho2
 obtain ⟨ua2, un2, uc2, rfl⟩ := ho2.bytesAt.1.slice'
 have HO2 := Lib.hid ho2
 have hA := hA.trans hu2
 clear ho2 hu2
 simp only []
 refine HKK.out _ _ hA ?_
 clear HKK
 simp only [Act.put, List.setIfInBounds_toArray, List.set]
 refine wpG_doIf (i := 13) rfl (by kernel_rfl) rfl (fun K hK => ?_)
 have HKK := Lib.hid hK
 clear hK
 go_step
 refine (wput4_any (base := wi.heap.size) (bs := headP h 3) (x := h.number) w3 (.inl HO2.out) t4 (by rw [headP_length h (by omega)]; omega) hA.size).mono ?_
 rintro e w4 ⟨u3, rfl, ho3, hu3⟩
 rw [← headP_step h (k := 3) (x := h.number) rfl] at ho3
 obtain ⟨ua3, un3, uc3, rfl⟩ := ho3.bytesAt.1.slice'
 have HO3 := Lib.hid ho3
 have hA := hA.trans hu3
 clear ho3 hu3
 simp only []
 refine HKK.out _ _ hA ?_
 clear HKK
 simp only [Act.put, List.setIfInBounds_toArray, List.set]
 refine wpG_tail_lit (k := 14) rfl rfl (by kernel_rfl) ?_
 simp only [List.drop]
 have HA := Lib.hid hA
 clear hA hA0 HF0 HO0 HO1 HO2
 go_upto_region 2 with fail
 go_loopg [3] 36 (fun gk out wr => ∃ k : Nat, k ≤ 36 ∧ gk = 36 - k ∧ OwnB wr wi.heap.size out (headP h 4 ++ List.replicate k 0) ∧ Upd (fun k => wi.heap.size ≤ k) wi wr)
 case atStart => exact ⟨0, Nat.zero_le _, rfl, by simpa using HO3.out, HA.out⟩
 case round =>
  obtain ⟨k, hk, rfl, ho, hu⟩ := hrel
  have hlk : (headP h 4 ++ List.replicate k (0 : Int)).length = 24 + k := by rw [List.length_append, headP_length h (Nat.le_refl 4), List.length_replicate]
  obtain ⟨bs, hbs⟩ : ∃ bs, bs = headP h 4 ++ List.replicate k (0 : Int) := ⟨_, rfl⟩
  rw [← hbs] at ho hlk
  obtain ⟨ga, gc, rfl⟩ := ho.slice_of (by intro e; rw [e, List.length_nil] at hlk; omega)
  rw [hlk] at ho ⊢
  have HO := Lib.hid ho; have HU := Lib.hid hu; have HBS := Lib.hid hbs; have HLK := Lib.hid hlk
  clear ho hu hbs hlk HO3 HA
  by_cases hkn : k < 36
  ·have hkni : ((24 + k : Nat) : Int) < 60 := by omega
   push_cast at hkni
   go_upto_region 3 with fail
   iterate 7 go_step
   refine wpList_appB (base := wi.heap.size) (bs := bs) (cs := [0]) rfl (.tmp 21) (.tmp 22) rfl rfl (HO.out.keptF ((Upd.refl (fun _ => False) wr).alloc _) (fun _ _ e => e)) rfl ?_ (by rw [HLK.out]; simp only [List.length_cons, List.length_nil]; omega) (Nat.le_trans HU.out.size (by simp)) ?_
   ·exact one_in wr 0
   intro v2 w2 g1 g2
   have HO2 := Lib.hid g1; have HU2 := Lib.hid ((HU.out.alloc _).step g2 (fun j hj e => (HO.out.lt j e).1))
   clear g1 g2
   go_wp2
   go_roundg (36 - (k + 1))
   case measure => omega
   case rel => exact ⟨k + 1, by omega, rfl, by rw [List.replicate_succ', ← List.append_assoc, ← HBS.out]; exact HO2.out, HU2.out⟩
  ·obtain rfl : k = 36 := by omega
   have hby : Bytes bs := by rw [HBS.out]; exact (headP_bytes h 4).append (Bytes.zeros _)
   have hsec : headF h = bs ++ layF (sumF bs) 32 := by rw [HBS.out, ← headP_last, sectorF, headP_length h (Nat.le_refl 4)]
   have hsb := sumF_bound bs
   obtain ⟨sm, hsm⟩ : ∃ sm, sm = sumF bs := ⟨_, rfl⟩
   have hws := wsum_any (a := some ⟨ga, 0, none⟩) (c := gc) (bs := bs) wr (by rw [HLK.out]; exact HO.out.bytesIn) hby (by rw [HLK.out]; omega) (by rw [HLK.out]; exact HO.out.bytesIn.cap)
   rw [HLK.out, ← hsm] at hws
   rw [← hsm] at hsec hsb
   have hw4 := wput4_any (x := sm) (base := wi.heap.size) wr (.inl HO.out) (by omega) (by rw [HLK.out]; omega) HU.out.size
   rw [← hsec] at hw4
   have hsi : IntKind.i64.wrap sm = sm := by rw [IntKind.wrap_i64]; omega
   have HWS := Lib.hid hws; have HW4 := Lib.hid hw4
   clear hby hsec hsm hws hw4 HBS HLK hk
   go_wp2_with (go_at_call 176; fail)
   refine HWS.out.mono ?_
   rintro e w2 ⟨rfl, rfl⟩
   simp only []
   go_wp2_with (go_at_call 175; fail)
   refine HW4.out.mono ?_
   rintro e w3 ⟨u3, rfl, ho3, hu3⟩
   have hsl : (headF h).length = 64 := by rw [← headP_last]; exact sectorF_length (by rw [headP_length h (Nat.le_refl 4)]; omega)
   obtain ⟨g3, c3, rfl⟩ := ho3.slice_of (by intro e; rw [e] at hsl; simp at hsl)
   have h3r := rangeAt_own ho3
   rw [← HHV.out] at h3r
   rw [hsl]
   have hu13 := HU.out.trans hu3
   have hb3 := (hu13.block _ (lt_of_heap HZI.out) (fun e => by have := lt_of_heap HZI.out; omega)).trans HZI.out
   have hz : (bcells zblk).toArray.size = 64 := by simp [bcells, zblk]
   have hth : w3.there (bx + 1) 0 (hv).toArray.size := by
    have := there_block hb3
    rwa [show (bcells zblk).toArray.size = (hv).toArray.size by rw [hz]; simp [HL.out]] at this
   have hw := heap_setCells_whole (vs := hv) hb3 (by rw [hz, HL.out])
   have HTH := Lib.hid hth; have HW := Lib.hid hw; have HU3 := Lib.hid hu13; have HR3 := Lib.hid h3r
   have hat := array_any g3 c3 w3
   clear ho3 hu3 hsl h3r hu13 hb3 hz hth hw HU HO HWS HW4
   simp only []
   iterate 4 go_step
   refine wpList_load_mid rfl 48 (.tmp 29) rfl g3 0 rfl (hv) _ HR3.out Tryz.underlying48 rfl HI.out ?_
   refine wpList_store_mid rfl 48 (.tmp 2) (.tmp 30) rfl (bx + 1) 0 (hv).toArray rfl rfl HTH.out (by rw [HI.out]; simp) H1B.out ?_
   go_wp2
   have hl3 := run_loadVar_mid (P := Tryz.prog) (w3.setCells (bx + 1) 0 (hv)) (bx + 1) 0 48 (hv) _ (rangeAt_block HW.out) Tryz.underlying48 rfl HI.out
   refine bodyPost_ret (results_cell1 Tryz.results169 rfl hl3) rfl ⟨rfl, ?_⟩
   have hs := HUI.out.size
   have hb := HBX.out
   exact (HUI.out.step (Upd.setCells (F := fun k => wi.heap.size ≤ k ∨ k = bx + 1) (.inr rfl) (hv) 0 (HU3.out.mono (fun _ _ e => .inl e))) (fun j hj e => by omega))
theorem be_beF : ∀ l : List Int, 4 ≤ l.length → be l = beF (l.take 4)
 |a :: b :: c :: d :: r, _ => by
  simp only [be, be4, beF, List.take, List.foldl]
  omega
 | [], h => by simp at h
 | [_], h => by simp at h
 | [_, _], h => by simp at h
 | [_, _, _], h => by simp at h
theorem readF_beF {bs : List Int} (h : bs.length = 64) : readF bs = ⟨beF ((bs.drop 8).take 4), beF ((bs.drop 12).take 4), beF ((bs.drop 16).take 4), beF ((bs.drop 20).take 4)⟩ := by
 unfold readF
 rw [be_beF _ (by simp; omega), be_beF _ (by simp; omega), be_beF _ (by simp; omega), be_beF _ (by simp; omega)]
theorem block_sub {W : World} {bx t : Nat} {bs : List Int} (hb : W.heap[bx]? = some (.cells (bcells bs).toArray t (0, 0))) (o n c : Nat) (h : o + n ≤ bs.length) (hc : n ≤ c) (hm : c ≤ 64) : BytesIn W (.slice (some ⟨bx, o, none⟩) n c) ((bs.drop o).take n) := by
 have hl : ((bs.drop o).take n).length = n := by rw [List.length_take, List.length_drop]; omega
 refine .inr ⟨⟨bx, o, none⟩, c, by rw [hl], by omega, by unfold maxLen; omega, fun i u hi => ?_⟩
 have hin : i < n := by
  have := (List.getElem?_eq_some_iff.1 hi).1
  have h2 : (bcells ((bs.drop o).take n)).length = n := by simp only [bcells, List.length_map]; exact hl
  omega
 rw [Addr.add_mid, cell_of_heap hb, ← hi]
 simp [bcells, List.getElem?_take, hin]
theorem put4 {w : World} {b : Nat} {x0 x1 x2 x3 u0 u1 u2 u3 : Value} {t : TypeId} (h : w.heap[b]? = some (.cells #[x0, x1, x2, x3] t (0, 0))) : ((((w.setCell ⟨b, 0, none⟩ u0).setCell ⟨b, 1, none⟩ u1).setCell ⟨b, 2, none⟩ u2).setCell ⟨b, 3, none⟩ u3).heap[b]? = some (.cells #[u0, u1, u2, u3] t (0, 0)) ∧ Upd (fun k => k = b) w ((((w.setCell ⟨b, 0, none⟩ u0).setCell ⟨b, 1, none⟩ u1).setCell ⟨b, 2, none⟩ u2).setCell ⟨b, 3, none⟩ u3) := by
 refine ⟨block_setCell (block_setCell (block_setCell (block_setCell h u0) u1) u2) u3, ((((Upd.refl (fun k => k = b) w).set0 0 u0).set0 1 u1).set0 2 u2).set0 3 u3⟩
open Classical in
noncomputable def rdF (bs : List Int) : Hd × Bool := if (readF bs).Says then (readF bs, hOk bs) else (⟨0, 0, 0, 0⟩, false)
theorem rdF_two (bs : List Int) : (rdF bs).2 = hOk bs := by
 unfold rdF
 split
 ·rfl
 ·rename_i h
  cases hq : hOk bs with
  |false => rfl
  |true => exact absurd ((hOk_iff bs).1 hq).1 h
theorem rdF_one {bs : List Int} (h : hOk bs = true) : (rdF bs).1 = readF bs := by
 unfold rdF
 rw [if_pos ((hOk_iff bs).1 h).1]
theorem wread_any {bs : List Int} (w : World) (hl : bs.length = 64) (hB : Bytes bs) :
  Calls Tryz.prog 173 #[.agg (bcells bs).toArray] w fun e w' => e = .returned (.tuple #[(rdF bs).1.val, .bool (rdF bs).2]) ∧ Upd (fun _ => False) w w' := by
 have hbl : (bcells bs).length = 64 := by simp [bcells, hl]
 have H1B := Lib.hid (all_oneCell_toArray (bcells_one bs))
 have hi : (Tryz.prog.info? 48).map (·.size) = some (bcells bs).length := by rw [Tryz.info56p, hbl]
 have hh := readF_beF hl
 have hsub : ∀ o, (∀ x ∈ (bs.drop o).take 4, 0 ≤ x ∧ x ≤ 255) := fun o x hx => hB x (List.mem_of_mem_drop (List.mem_of_mem_take hx))
 have hb4 : ∀ o, 0 ≤ beF ((bs.drop o).take 4) ∧ beF ((bs.drop o).take 4) < 4294967296 := fun o => beF_le 4 _ (by rw [List.length_take]; omega) (hsub o)
 have hK : ∀ (o : Nat) (c : Nat), o + 4 ≤ 64 → 4 ≤ c → c ≤ 64 → ∀ (bx t : Nat) (W : World), W.heap[bx]? = some (.cells (bcells bs).toArray t (0, 0)) → Calls Tryz.prog 194 #[.slice (some ⟨bx, o, none⟩) 4 c] W fun e w' => e = .returned (.int .i64 (beF ((bs.drop o).take 4))) ∧ W = w' := by
  intro o c h1 h2 h3 bx t W hb
  have hl4 : ((bs.drop o).take 4).length = 4 := by rw [List.length_take, List.length_drop]; omega
  have := wget_any (a := some ⟨bx, o, none⟩) (c := c) (bs := (bs.drop o).take 4) W (by rw [hl4]; exact block_sub hb o 4 c (by omega) h2 h3) (hsub o) (by omega)
  rwa [hl4] at this
 have q0 := hb4 8; have q1 := hb4 12; have q2 := hb4 16; have q3 := hb4 20
 have k0 := hK 8 56 (by omega) (by omega) (by omega); have k1 := hK 12 52 (by omega) (by omega) (by omega); have k2 := hK 16 48 (by omega) (by omega) (by omega); have k3 := hK 20 44 (by omega) (by omega) (by omega)
 clear hK hb4 hsub
 generalize beF ((bs.drop 8).take 4) = x0 at hh q0 k0
 generalize beF ((bs.drop 12).take 4) = x1 at hh q1 k1
 generalize beF ((bs.drop 16).take 4) = x2 at hh q2 k2
 generalize beF ((bs.drop 20).take 4) = x3 at hh q3 k3
 have HI := Lib.hid hi; have HBL := Lib.hid hbl; have HH := Lib.hid hh; have HL := Lib.hid hl; have K0 := Lib.hid k0; have K1 := Lib.hid k1; have K2 := Lib.hid k2; have K3 := Lib.hid k3; have Q0 := Lib.hid q0; have Q1 := Lib.hid q1; have Q2 := Lib.hid q2; have Q3 := Lib.hid q3
 clear hh hbl hi hl hB k0 k1 k2 k3 q0 q1 q2 q3
 go_enter Tryz.func173, Tryz.ntmps173
 go_upto_region 1 with fail
 obtain ⟨bx, hbx⟩ : ∃ bx, bx = w.heap.size := ⟨_, rfl⟩
 rw [← hbx]
 refine (show ∀ wi, wi = (w.alloc (.cells (bcells bs).toArray 48)).alloc (.cells #[.int .i64 0, .int .i64 0, .int .i64 0, .int .i64 0] 31) → Code.wp _ _ _ _ wi from ?_) _ rfl
 intro wi hwi
 have hxi : wi.heap[bx]? = some (.cells (bcells bs).toArray 48 (0, 0)) := by rw [hwi, alloc_lt (by simp; omega)]; exact alloc_at hbx
 have hzi : wi.heap[bx + 1]? = some (.cells #[.int .i64 0, .int .i64 0, .int .i64 0, .int .i64 0] 31 (0, 0)) := by rw [hwi]; exact alloc_at (by simp; omega)
 have hui : Upd (fun _ => False) w wi := by rw [hwi]; exact ((Upd.refl _ w).alloc _).alloc _
 have HXI := Lib.hid hxi; have HZI := Lib.hid hzi; have HUI := Lib.hid hui; have HBX := Lib.hid hbx
 clear hxi hzi hui hwi hbx
 go_cut [4] from 5 to 14 (fun v wx => ∃ t4, v = .pointer (some ⟨t4, 0, none⟩) ∧ wx.heap[t4]? = some (.cells #[.int .i64 x0, .int .i64 x1, .int .i64 x2, .int .i64 x3] 31 (0, 0)) ∧ Upd (fun _ => False) wi wx ∧ wi.heap.size ≤ t4)
 case first =>
  have hA : Upd (fun _ => False) wi wi.drew := (Upd.refl _ _).drew
  have HU := Lib.hid hA
  refine wp_region_G 10 (fun W => Upd (fun _ => False) wi W) [false, false, false, false, false, false, false, false, false, false, false] rfl (by kernel_rfl) ?_
  generalize wi.drew = wd at hA HU ⊢
  refine wpG_takeT (i := 0) (v := .slice (some ⟨bx, 8, none⟩) 4 56) rfl (fun L hc h => (hc.waits (n := 10) (i := 0) (by kernel_rfl) h)) (by kernel_rfl) (fun _ _ _ h => h) hA (.inl ⟨rfl, fun w5 q1 => ?_⟩) ?_
  ·go_simp
  simp only [Act.put, List.setIfInBounds_toArray, List.set]
  refine wpG_takeT (i := 2) (v := .slice (some ⟨bx, 12, none⟩) 4 52) rfl (fun L hc h => (hc.waits (n := 10) (i := 2) (by kernel_rfl) h)) (by kernel_rfl) (fun _ _ _ h => h) hA (.inl ⟨rfl, fun w5 q1 => ?_⟩) ?_
  ·go_simp
  simp only [Act.put, List.setIfInBounds_toArray, List.set]
  refine wpG_takeT (i := 4) (v := .slice (some ⟨bx, 16, none⟩) 4 48) rfl (fun L hc h => (hc.waits (n := 10) (i := 4) (by kernel_rfl) h)) (by kernel_rfl) (fun _ _ _ h => h) hA (.inl ⟨rfl, fun w5 q1 => ?_⟩) ?_
  ·go_simp
  simp only [Act.put, List.setIfInBounds_toArray, List.set]
  refine wpG_takeT (i := 6) (v := .slice (some ⟨bx, 20, none⟩) 4 44) rfl (fun L hc h => (hc.waits (n := 10) (i := 6) (by kernel_rfl) h)) (by kernel_rfl) (fun _ _ _ h => h) hA (.inl ⟨rfl, fun w5 q1 => ?_⟩) ?_
  ·go_simp
  simp only [Act.put, List.setIfInBounds_toArray, List.set]
  refine wpG_do2 (i := 1) (j := 9) rfl rfl (by kernel_rfl) rfl rfl (fun K hK => ?_) (fun K hK => ?_)
  ·have HKK := Lib.hid hK
   clear hK
   go_step
   refine (K0.out bx 48 wd ((hA.block _ (lt_of_heap HXI.out) (fun e => e)).trans HXI.out)).mono ?_
   rintro e _ ⟨rfl, rfl⟩
   simp only []
   refine HKK.out _ _ hA ?_
   clear HKK
   simp only [Act.put, List.setIfInBounds_toArray, List.set]
   refine wpG_do2 (i := 3) (j := 9) rfl rfl (by kernel_rfl) rfl rfl (fun K hK => ?_) (fun K hK => ?_)
   ·have HKK := Lib.hid hK
    clear hK
    go_step
    refine (K1.out bx 48 wd ((hA.block _ (lt_of_heap HXI.out) (fun e => e)).trans HXI.out)).mono ?_
    rintro e _ ⟨rfl, rfl⟩
    simp only []
    refine HKK.out _ _ hA ?_
    clear HKK
    simp only [Act.put, List.setIfInBounds_toArray, List.set]
    refine wpG_do2 (i := 5) (j := 9) rfl rfl (by kernel_rfl) rfl rfl (fun K hK => ?_) (fun K hK => ?_)
    ·have HKK := Lib.hid hK
     clear hK
     go_step
     refine (K2.out bx 48 wd ((hA.block _ (lt_of_heap HXI.out) (fun e => e)).trans HXI.out)).mono ?_
     rintro e _ ⟨rfl, rfl⟩
     simp only []
     refine HKK.out _ _ hA ?_
     clear HKK
     simp only [Act.put, List.setIfInBounds_toArray, List.set]
     refine wpG_do2 (i := 7) (j := 9) rfl rfl (by kernel_rfl) rfl rfl (fun K hK => ?_) (fun K hK => ?_)
     ·have HKK := Lib.hid hK
      clear hK
      go_step
      refine (K3.out bx 48 wd ((hA.block _ (lt_of_heap HXI.out) (fun e => e)).trans HXI.out)).mono ?_
      rintro e _ ⟨rfl, rfl⟩
      simp only []
      refine HKK.out _ _ hA ?_
      clear HKK
      simp only [Act.put, List.setIfInBounds_toArray, List.set]
      refine wpG_takeT (i := 8) (v := .agg #[.int .i64 x0, .int .i64 x1, .int .i64 x2, .int .i64 x3]) rfl (fun L hc h => (hc.waits (n := 10) (i := 8) (by kernel_rfl) h)) (by kernel_rfl) (fun _ _ _ h => h) hA (.inl ⟨rfl, fun w5 q1 => ?_⟩) ?_
      ·go_simp
      simp only [Act.put, List.setIfInBounds_toArray, List.set]
      refine wpG_do (i := 9) rfl (by kernel_rfl) rfl (fun K hK => ?_)
      have HKK := Lib.hid hK
      clear hK
      go_step
      have ua : Upd (fun _ => False) wd (wd.alloc (.cells #[.int .i64 0, .int .i64 0, .int .i64 0, .int .i64 0] 31)) := (Upd.refl _ _).alloc _
      have HB6 := Lib.hid HU.out.size
      have HX := Lib.hid (alloc_at (w := wd) (o := .cells #[.int .i64 0, .int .i64 0, .int .i64 0, .int .i64 0] 31) rfl)
      have hA := hA.trans ua
      have HU := Lib.hid (HU.out.trans ua)
      clear ua
      refine HKK.out _ _ hA ?_
      clear HKK
      simp only [Act.put, List.setIfInBounds_toArray, List.set]
      generalize wd.alloc (.cells #[.int .i64 0, .int .i64 0, .int .i64 0, .int .i64 0] 31) = wdX at HX hA HU ⊢
      generalize wd.heap.size = bo at HX HB6 ⊢
      refine wpG_tail_lit (k := 10) rfl rfl (by kernel_rfl) ?_
      simp only [List.drop]
      have f0 : wdX.frozen? ⟨bo, 0, none⟩ = false := frozen_of_heap HX.out
      have f1 : wdX.frozen? ⟨bo, 1, none⟩ = false := frozen_of_heap HX.out
      have f2 : wdX.frozen? ⟨bo, 2, none⟩ = false := frozen_of_heap HX.out
      have f3 : wdX.frozen? ⟨bo, 3, none⟩ = false := frozen_of_heap HX.out
      obtain ⟨d0, d1, d2, d3⟩ := cells4_of HX.out
      go_wp2
      go_meet
      case rel =>
       obtain ⟨p1, p2⟩ := put4 (u0 := .int .i64 x0) (u1 := .int .i64 x1) (u2 := .int .i64 x2) (u3 := .int .i64 x3) HX.out
       exact ⟨bo, rfl, p1, hA.step p2 (fun k hk e => by have := HB6.out; omega), HB6.out⟩
     ·have HKK := Lib.hid hK
      clear hK
      go_step
      have ua : Upd (fun _ => False) wd (wd.alloc (.cells #[.int .i64 0, .int .i64 0, .int .i64 0, .int .i64 0] 31)) := (Upd.refl _ _).alloc _
      have HB6 := Lib.hid HU.out.size
      have HX := Lib.hid (alloc_at (w := wd) (o := .cells #[.int .i64 0, .int .i64 0, .int .i64 0, .int .i64 0] 31) rfl)
      have hA := hA.trans ua
      have HU := Lib.hid (HU.out.trans ua)
      clear ua
      refine HKK.out _ _ hA ?_
      clear HKK
      simp only [Act.put, List.setIfInBounds_toArray, List.set]
      generalize wd.alloc (.cells #[.int .i64 0, .int .i64 0, .int .i64 0, .int .i64 0] 31) = wdX at HX hA HU ⊢
      generalize wd.heap.size = bo at HX HB6 ⊢
      refine wpG_do (i := 7) rfl (by kernel_rfl) rfl (fun K hK => ?_)
      have HKK := Lib.hid hK
      clear hK
      go_step
      refine (K3.out bx 48 wdX ((hA.block _ (lt_of_heap HXI.out) (fun e => e)).trans HXI.out)).mono ?_
      rintro e _ ⟨rfl, rfl⟩
      simp only []
      refine HKK.out _ _ hA ?_
      clear HKK
      simp only [Act.put, List.setIfInBounds_toArray, List.set]
      refine wpG_takeT (i := 8) (v := .agg #[.int .i64 x0, .int .i64 x1, .int .i64 x2, .int .i64 x3]) rfl (fun L hc h => (hc.waits (n := 10) (i := 8) (by kernel_rfl) h)) (by kernel_rfl) (fun _ _ _ h => h) hA (.inl ⟨rfl, fun w5 q1 => ?_⟩) ?_
      ·go_simp
      simp only [Act.put, List.setIfInBounds_toArray, List.set]
      refine wpG_tail_lit (k := 10) rfl rfl (by kernel_rfl) ?_
      simp only [List.drop]
      have f0 : wdX.frozen? ⟨bo, 0, none⟩ = false := frozen_of_heap HX.out
      have f1 : wdX.frozen? ⟨bo, 1, none⟩ = false := frozen_of_heap HX.out
      have f2 : wdX.frozen? ⟨bo, 2, none⟩ = false := frozen_of_heap HX.out
      have f3 : wdX.frozen? ⟨bo, 3, none⟩ = false := frozen_of_heap HX.out
      obtain ⟨d0, d1, d2, d3⟩ := cells4_of HX.out
      go_wp2
      go_meet
      case rel =>
       obtain ⟨p1, p2⟩ := put4 (u0 := .int .i64 x0) (u1 := .int .i64 x1) (u2 := .int .i64 x2) (u3 := .int .i64 x3) HX.out
       exact ⟨bo, rfl, p1, hA.step p2 (fun k hk e => by have := HB6.out; omega), HB6.out⟩
    ·have HKK := Lib.hid hK
     clear hK
     go_step
     have ua : Upd (fun _ => False) wd (wd.alloc (.cells #[.int .i64 0, .int .i64 0, .int .i64 0, .int .i64 0] 31)) := (Upd.refl _ _).alloc _
     have HB6 := Lib.hid HU.out.size
     have HX := Lib.hid (alloc_at (w := wd) (o := .cells #[.int .i64 0, .int .i64 0, .int .i64 0, .int .i64 0] 31) rfl)
     have hA := hA.trans ua
     have HU := Lib.hid (HU.out.trans ua)
     clear ua
     refine HKK.out _ _ hA ?_
     clear HKK
     simp only [Act.put, List.setIfInBounds_toArray, List.set]
     generalize wd.alloc (.cells #[.int .i64 0, .int .i64 0, .int .i64 0, .int .i64 0] 31) = wdX at HX hA HU ⊢
     generalize wd.heap.size = bo at HX HB6 ⊢
     refine wpG_do (i := 5) rfl (by kernel_rfl) rfl (fun K hK => ?_)
     have HKK := Lib.hid hK
     clear hK
     go_step
     refine (K2.out bx 48 wdX ((hA.block _ (lt_of_heap HXI.out) (fun e => e)).trans HXI.out)).mono ?_
     rintro e _ ⟨rfl, rfl⟩
     simp only []
     refine HKK.out _ _ hA ?_
     clear HKK
     simp only [Act.put, List.setIfInBounds_toArray, List.set]
     refine wpG_do (i := 7) rfl (by kernel_rfl) rfl (fun K hK => ?_)
     have HKK := Lib.hid hK
     clear hK
     go_step
     refine (K3.out bx 48 wdX ((hA.block _ (lt_of_heap HXI.out) (fun e => e)).trans HXI.out)).mono ?_
     rintro e _ ⟨rfl, rfl⟩
     simp only []
     refine HKK.out _ _ hA ?_
     clear HKK
     simp only [Act.put, List.setIfInBounds_toArray, List.set]
     refine wpG_takeT (i := 8) (v := .agg #[.int .i64 x0, .int .i64 x1, .int .i64 x2, .int .i64 x3]) rfl (fun L hc h => (hc.waits (n := 10) (i := 8) (by kernel_rfl) h)) (by kernel_rfl) (fun _ _ _ h => h) hA (.inl ⟨rfl, fun w5 q1 => ?_⟩) ?_
     ·go_simp
     simp only [Act.put, List.setIfInBounds_toArray, List.set]
     refine wpG_tail_lit (k := 10) rfl rfl (by kernel_rfl) ?_
     simp only [List.drop]
     have f0 : wdX.frozen? ⟨bo, 0, none⟩ = false := frozen_of_heap HX.out
     have f1 : wdX.frozen? ⟨bo, 1, none⟩ = false := frozen_of_heap HX.out
     have f2 : wdX.frozen? ⟨bo, 2, none⟩ = false := frozen_of_heap HX.out
     have f3 : wdX.frozen? ⟨bo, 3, none⟩ = false := frozen_of_heap HX.out
     obtain ⟨d0, d1, d2, d3⟩ := cells4_of HX.out
     go_wp2
     go_meet
     case rel =>
      obtain ⟨p1, p2⟩ := put4 (u0 := .int .i64 x0) (u1 := .int .i64 x1) (u2 := .int .i64 x2) (u3 := .int .i64 x3) HX.out
      exact ⟨bo, rfl, p1, hA.step p2 (fun k hk e => by have := HB6.out; omega), HB6.out⟩
   ·have HKK := Lib.hid hK
    clear hK
    go_step
    have ua : Upd (fun _ => False) wd (wd.alloc (.cells #[.int .i64 0, .int .i64 0, .int .i64 0, .int .i64 0] 31)) := (Upd.refl _ _).alloc _
    have HB6 := Lib.hid HU.out.size
    have HX := Lib.hid (alloc_at (w := wd) (o := .cells #[.int .i64 0, .int .i64 0, .int .i64 0, .int .i64 0] 31) rfl)
    have hA := hA.trans ua
    have HU := Lib.hid (HU.out.trans ua)
    clear ua
    refine HKK.out _ _ hA ?_
    clear HKK
    simp only [Act.put, List.setIfInBounds_toArray, List.set]
    generalize wd.alloc (.cells #[.int .i64 0, .int .i64 0, .int .i64 0, .int .i64 0] 31) = wdX at HX hA HU ⊢
    generalize wd.heap.size = bo at HX HB6 ⊢
    refine wpG_do (i := 3) rfl (by kernel_rfl) rfl (fun K hK => ?_)
    have HKK := Lib.hid hK
    clear hK
    go_step
    refine (K1.out bx 48 wdX ((hA.block _ (lt_of_heap HXI.out) (fun e => e)).trans HXI.out)).mono ?_
    rintro e _ ⟨rfl, rfl⟩
    simp only []
    refine HKK.out _ _ hA ?_
    clear HKK
    simp only [Act.put, List.setIfInBounds_toArray, List.set]
    refine wpG_do (i := 5) rfl (by kernel_rfl) rfl (fun K hK => ?_)
    have HKK := Lib.hid hK
    clear hK
    go_step
    refine (K2.out bx 48 wdX ((hA.block _ (lt_of_heap HXI.out) (fun e => e)).trans HXI.out)).mono ?_
    rintro e _ ⟨rfl, rfl⟩
    simp only []
    refine HKK.out _ _ hA ?_
    clear HKK
    simp only [Act.put, List.setIfInBounds_toArray, List.set]
    refine wpG_do (i := 7) rfl (by kernel_rfl) rfl (fun K hK => ?_)
    have HKK := Lib.hid hK
    clear hK
    go_step
    refine (K3.out bx 48 wdX ((hA.block _ (lt_of_heap HXI.out) (fun e => e)).trans HXI.out)).mono ?_
    rintro e _ ⟨rfl, rfl⟩
    simp only []
    refine HKK.out _ _ hA ?_
    clear HKK
    simp only [Act.put, List.setIfInBounds_toArray, List.set]
    refine wpG_takeT (i := 8) (v := .agg #[.int .i64 x0, .int .i64 x1, .int .i64 x2, .int .i64 x3]) rfl (fun L hc h => (hc.waits (n := 10) (i := 8) (by kernel_rfl) h)) (by kernel_rfl) (fun _ _ _ h => h) hA (.inl ⟨rfl, fun w5 q1 => ?_⟩) ?_
    ·go_simp
    simp only [Act.put, List.setIfInBounds_toArray, List.set]
    refine wpG_tail_lit (k := 10) rfl rfl (by kernel_rfl) ?_
    simp only [List.drop]
    have f0 : wdX.frozen? ⟨bo, 0, none⟩ = false := frozen_of_heap HX.out
    have f1 : wdX.frozen? ⟨bo, 1, none⟩ = false := frozen_of_heap HX.out
    have f2 : wdX.frozen? ⟨bo, 2, none⟩ = false := frozen_of_heap HX.out
    have f3 : wdX.frozen? ⟨bo, 3, none⟩ = false := frozen_of_heap HX.out
    obtain ⟨d0, d1, d2, d3⟩ := cells4_of HX.out
    go_wp2
    go_meet
    case rel =>
     obtain ⟨p1, p2⟩ := put4 (u0 := .int .i64 x0) (u1 := .int .i64 x1) (u2 := .int .i64 x2) (u3 := .int .i64 x3) HX.out
     exact ⟨bo, rfl, p1, hA.step p2 (fun k hk e => by have := HB6.out; omega), HB6.out⟩
  ·have HKK := Lib.hid hK
   clear hK
   go_step
   have ua : Upd (fun _ => False) wd (wd.alloc (.cells #[.int .i64 0, .int .i64 0, .int .i64 0, .int .i64 0] 31)) := (Upd.refl _ _).alloc _
   have HB6 := Lib.hid HU.out.size
   have HX := Lib.hid (alloc_at (w := wd) (o := .cells #[.int .i64 0, .int .i64 0, .int .i64 0, .int .i64 0] 31) rfl)
   have hA := hA.trans ua
   have HU := Lib.hid (HU.out.trans ua)
   clear ua
   refine HKK.out _ _ hA ?_
   clear HKK
   simp only [Act.put, List.setIfInBounds_toArray, List.set]
   generalize wd.alloc (.cells #[.int .i64 0, .int .i64 0, .int .i64 0, .int .i64 0] 31) = wdX at HX hA HU ⊢
   generalize wd.heap.size = bo at HX HB6 ⊢
   refine wpG_do (i := 1) rfl (by kernel_rfl) rfl (fun K hK => ?_)
   have HKK := Lib.hid hK
   clear hK
   go_step
   refine (K0.out bx 48 wdX ((hA.block _ (lt_of_heap HXI.out) (fun e => e)).trans HXI.out)).mono ?_
   rintro e _ ⟨rfl, rfl⟩
   simp only []
   refine HKK.out _ _ hA ?_
   clear HKK
   simp only [Act.put, List.setIfInBounds_toArray, List.set]
   refine wpG_do (i := 3) rfl (by kernel_rfl) rfl (fun K hK => ?_)
   have HKK := Lib.hid hK
   clear hK
   go_step
   refine (K1.out bx 48 wdX ((hA.block _ (lt_of_heap HXI.out) (fun e => e)).trans HXI.out)).mono ?_
   rintro e _ ⟨rfl, rfl⟩
   simp only []
   refine HKK.out _ _ hA ?_
   clear HKK
   simp only [Act.put, List.setIfInBounds_toArray, List.set]
   refine wpG_do (i := 5) rfl (by kernel_rfl) rfl (fun K hK => ?_)
   have HKK := Lib.hid hK
   clear hK
   go_step
   refine (K2.out bx 48 wdX ((hA.block _ (lt_of_heap HXI.out) (fun e => e)).trans HXI.out)).mono ?_
   rintro e _ ⟨rfl, rfl⟩
   simp only []
   refine HKK.out _ _ hA ?_
   clear HKK
   simp only [Act.put, List.setIfInBounds_toArray, List.set]
   refine wpG_do (i := 7) rfl (by kernel_rfl) rfl (fun K hK => ?_)
   have HKK := Lib.hid hK
   clear hK
   go_step
   refine (K3.out bx 48 wdX ((hA.block _ (lt_of_heap HXI.out) (fun e => e)).trans HXI.out)).mono ?_
   rintro e _ ⟨rfl, rfl⟩
   simp only []
   refine HKK.out _ _ hA ?_
   clear HKK
   simp only [Act.put, List.setIfInBounds_toArray, List.set]
   refine wpG_takeT (i := 8) (v := .agg #[.int .i64 x0, .int .i64 x1, .int .i64 x2, .int .i64 x3]) rfl (fun L hc h => (hc.waits (n := 10) (i := 8) (by kernel_rfl) h)) (by kernel_rfl) (fun _ _ _ h => h) hA (.inl ⟨rfl, fun w5 q1 => ?_⟩) ?_
   ·go_simp
   simp only [Act.put, List.setIfInBounds_toArray, List.set]
   refine wpG_tail_lit (k := 10) rfl rfl (by kernel_rfl) ?_
   simp only [List.drop]
   have f0 : wdX.frozen? ⟨bo, 0, none⟩ = false := frozen_of_heap HX.out
   have f1 : wdX.frozen? ⟨bo, 1, none⟩ = false := frozen_of_heap HX.out
   have f2 : wdX.frozen? ⟨bo, 2, none⟩ = false := frozen_of_heap HX.out
   have f3 : wdX.frozen? ⟨bo, 3, none⟩ = false := frozen_of_heap HX.out
   obtain ⟨d0, d1, d2, d3⟩ := cells4_of HX.out
   go_wp2
   go_meet
   case rel =>
    obtain ⟨p1, p2⟩ := put4 (u0 := .int .i64 x0) (u1 := .int .i64 x1) (u2 := .int .i64 x2) (u3 := .int .i64 x3) HX.out
    exact ⟨bo, rfl, p1, hA.step p2 (fun k hk e => by have := HB6.out; omega), HB6.out⟩
 case rest =>
  obtain ⟨t4, rfl, hx4, hu4, hs4⟩ := hcut
  have HX4 := Lib.hid hx4; have HU4 := Lib.hid hu4; have HS4 := Lib.hid hs4
  obtain ⟨e0, e1, e2, e3⟩ := cells4_of hx4
  clear hx4 hu4 hs4 K0 K1 K2 K3
  obtain ⟨sb, hsb⟩ : ∃ sb : Bool, sb = true ↔ (⟨x0, x1, x2, x3⟩ : Hd).Says := ⟨@decide _ (Classical.propDecidable _), @decide_eq_true_iff _ (Classical.propDecidable _)⟩
  have HSB := Lib.hid hsb
  have q0 := Q0.out; have q1 := Q1.out; have q2 := Q2.out; have q3 := Q3.out
  have hw2 : IntKind.i64.wrap (2 * x1) = 2 * x1 := by rw [IntKind.wrap_i64]; omega
  go_upto_region 2 with fail
  go_cut [45] from 14 to 45 (fun v wx => v = .bool (!sb) ∧ wx = wc)
  case first =>
   by_cases h0 : 1 ≤ x0
   ·by_cases h1 : x0 ≤ 1073741824
    ·have hwa := warea_any x1 wc
     obtain ⟨ab, hab⟩ : ∃ ab, ab = areaB x1 := ⟨_, rfl⟩
     rw [← hab] at hwa
     have HWA := Lib.hid hwa; have HAB := Lib.hid hab
     clear hwa hab hsb
     go_wp2_with (go_at_call 135; fail)
     refine HWA.out.mono ?_
     rintro e w2 ⟨rfl, rfl⟩
     simp only []
     cases ab with
     |false =>
      have ha : ¬ (4 ≤ x1 ∧ x1 ≤ 1000) := by have := HAB.out; simp [areaB] at this; omega
      clear HAB HWA
      go_wp2
      go_meet
      case rel =>
       refine ⟨?_, rfl⟩
       have hs : sb = false := by
        cases hq : sb with
        |false => rfl
        |true =>
         obtain ⟨s1, s2, s3, s4⟩ := HSB.out.1 hq
         simp only at s1 s2 s3 s4
         omega
       rw [hs]
       congr 1
     |true =>
      have ha : 4 ≤ x1 ∧ x1 ≤ 1000 := by have := HAB.out; simp [areaB] at this; omega
      clear HAB HWA
      by_cases h2 : x2 < 2 * x1
      ·by_cases h3 : 1 ≤ x3
       ·by_cases h4 : x3 ≤ 1073741824
        ·go_wp2
         go_meet
         case rel =>
          refine ⟨?_, rfl⟩
          rw [HSB.out.2 ⟨⟨h0, h1⟩, ha, h2, h3, h4⟩]
          congr 1
          simp only [Bool.not_true, Bool.or_eq_false_iff, decide_eq_false_iff_not]
          omega
        ·skip
         go_wp2
         go_meet
         case rel =>
          refine ⟨?_, rfl⟩
          have hs : sb = false := by
           cases hq : sb with
           |false => rfl
           |true =>
            obtain ⟨s1, s2, s3, s4⟩ := HSB.out.1 hq
            simp only at s1 s2 s3 s4
            omega
          rw [hs]
          congr 1
       ·skip
        go_wp2
        go_meet
        case rel =>
         refine ⟨?_, rfl⟩
         have hs : sb = false := by
          cases hq : sb with
          |false => rfl
          |true =>
           obtain ⟨s1, s2, s3, s4⟩ := HSB.out.1 hq
           simp only at s1 s2 s3 s4
           omega
         rw [hs]
         congr 1
      ·skip
       go_wp2
       go_meet
       case rel =>
        refine ⟨?_, rfl⟩
        have hs : sb = false := by
         cases hq : sb with
         |false => rfl
         |true =>
          obtain ⟨s1, s2, s3, s4⟩ := HSB.out.1 hq
          simp only at s1 s2 s3 s4
          omega
        rw [hs]
        congr 1
    ·clear hsb
     go_wp2
     go_meet
     case rel =>
      refine ⟨?_, rfl⟩
      have hs : sb = false := by
       cases hq : sb with
       |false => rfl
       |true =>
        obtain ⟨s1, s2, s3, s4⟩ := HSB.out.1 hq
        simp only at s1 s2 s3 s4
        omega
      rw [hs]
      congr 1
   ·clear hsb
    go_wp2
    go_meet
    case rel =>
     refine ⟨?_, rfl⟩
     have hs : sb = false := by
      cases hq : sb with
      |false => rfl
      |true =>
       obtain ⟨s1, s2, s3, s4⟩ := HSB.out.1 hq
       simp only at s1 s2 s3 s4
       omega
     rw [hs]
     congr 1
  case rest =>
   obtain ⟨rfl, rfl⟩ := hcut
   have HT4 := Lib.hid ((HU4.out.block _ (lt_of_heap HZI.out) (fun e => e)).trans HZI.out)
   have HB4 := Lib.hid ((HU4.out.block _ (lt_of_heap HXI.out) (fun e => e)).trans HXI.out)
   have HUW := Lib.hid (HUI.out.trans HU4.out)
   have fin : ∀ (W : World) (z0 z1 z2 z3 y0 y1 y2 y3 : Value), W.heap[bx + 1]? = some (.cells #[y0, y1, y2, y3] 31 (0, 0)) → Upd (fun k => k = bx + 1) W (W.setCells (bx + 1) 0 [z0, z1, z2, z3]) ∧ (W.setCells (bx + 1) 0 [z0, z1, z2, z3]).heap[bx + 1]? = some (.cells #[z0, z1, z2, z3] 31 (0, 0)) := fun W z0 z1 z2 z3 y0 y1 y2 y3 h =>
    ⟨Upd.setCells (b := bx + 1) (F := fun k => k = bx + 1) rfl _ 0 (Upd.refl _ W), heap_setCells_whole (vs := [z0, z1, z2, z3]) h rfl⟩
   have FIN := Lib.hid fin
   clear fin hsb
   cases sb with
   |false =>
    have hr : rdF bs = (⟨0, 0, 0, 0⟩, false) := by
     unfold rdF
     rw [HH.out, if_neg (fun h => Bool.noConfusion (HSB.out.2 h))]
    have HR := Lib.hid hr
    clear hr
    simp only [Bool.not_false]
    go_upto_region 3 with fail
    iterate 4 go_step
    refine wpList_store_mid rfl 31 (.tmp 2) (.tmp 46) rfl (bx + 1) 0 #[.int .i64 0, .int .i64 0, .int .i64 0, .int .i64 0] rfl rfl (by have q := there_block HT4.out; exact q) Tryz.size107r (by simp [Value.oneCell']) ?_
    go_wp2
    have hl3 := run_loadVar_mid (P := Tryz.prog) _ (bx + 1) 0 31 [.int .i64 0, .int .i64 0, .int .i64 0, .int .i64 0] _ (rangeAt_block (FIN.out wc _ _ _ _ _ _ _ _ HT4.out).2) Tryz.underlying31 rfl Tryz.size107r
    refine bodyPost_ret (results_cell_tmp Tryz.results173 rfl hl3) rfl ⟨by rw [HR.out]; rfl, HUW.out.step (FIN.out wc _ _ _ _ _ _ _ _ HT4.out).1 (fun k hk e => by have := HBX.out; omega)⟩
   |true =>
    have hr : rdF bs = (⟨x0, x1, x2, x3⟩, headF ⟨x0, x1, x2, x3⟩ == bs) := by
     have hs := HSB.out.1 rfl
     unfold rdF
     rw [HH.out, if_pos hs]
     congr 1
     rw [Bool.eq_iff_iff, hOk_iff, HH.out]
     simp [hs]
    have HR := Lib.hid hr
    have hs := HSB.out.1 rfl
    have hxu : (⟨x0, x1, x2, x3⟩ : Hd).U32 := by constructor <;> simp only <;> omega
    have HBC := Lib.hid (fun W => wblock_any ⟨x0, x1, x2, x3⟩ W hxu)
    have HHL : RowKit.Hid ((headF ⟨x0, x1, x2, x3⟩).length = 64) := Lib.hid (headF_ok ⟨x0, x1, x2, x3⟩).1
    clear hr hs hxu
    simp only [Bool.not_true]
    go_upto_region 4 with fail
    have hA : (Upd (fun k => k = bx + 1) wc wc.drew ∧ ∃ e0 e1 e2 e3, wc.drew.heap[bx + 1]? = some (.cells #[e0, e1, e2, e3] 31 (0, 0))) := ⟨(Upd.refl _ wc).drew, _, _, _, _, HT4.out⟩
    refine wp_region_G 6 (fun W => (Upd (fun k => k = bx + 1) wc W ∧ ∃ e0 e1 e2 e3, W.heap[bx + 1]? = some (.cells #[e0, e1, e2, e3] 31 (0, 0)))) [false, false, false, false, false, false, false] rfl (by kernel_rfl) ?_
    generalize wc.drew = wd at hA ⊢
    refine wpG_takeT (i := 0) (v := .agg #[.int .i64 x0, .int .i64 x1, .int .i64 x2, .int .i64 x3]) rfl (fun L hc h => (hc.waits (n := 6) (i := 0) (by kernel_rfl) h)) (by kernel_rfl) (fun _ _ _ h => h) hA (.inl ⟨rfl, fun w5 q1 => ?_⟩) ?_
    ·exact run_load_mid' rfl rfl [.int .i64 x0, .int .i64 x1, .int .i64 x2, .int .i64 x3] (rangeAt_block (cs := [.int .i64 x0, .int .i64 x1, .int .i64 x2, .int .i64 x3]) ((q1.1.block _ (lt_of_heap HX4.out) (by have := HS4.out; have := lt_of_heap HZI.out; omega)).trans HX4.out)) Tryz.underlying31 rfl Tryz.size107r
    simp only [Act.put, List.setIfInBounds_toArray, List.set]
    refine wpG_takeT (i := 1) (v := .agg #[.int .i64 x0, .int .i64 x1, .int .i64 x2, .int .i64 x3]) rfl (fun L hc h => (hc.waits (n := 6) (i := 1) (by kernel_rfl) h)) (by kernel_rfl) (fun _ _ _ h => h) hA (.inl ⟨rfl, fun w5 q1 => ?_⟩) ?_
    ·exact run_load_mid' rfl rfl [.int .i64 x0, .int .i64 x1, .int .i64 x2, .int .i64 x3] (rangeAt_block (cs := [.int .i64 x0, .int .i64 x1, .int .i64 x2, .int .i64 x3]) ((q1.1.block _ (lt_of_heap HX4.out) (by have := HS4.out; have := lt_of_heap HZI.out; omega)).trans HX4.out)) Tryz.underlying31 rfl Tryz.size107r
    simp only [Act.put, List.setIfInBounds_toArray, List.set]
    refine wpG_takeT (i := 3) (v := .agg (bcells bs).toArray) rfl (fun L hc h => (hc.waits (n := 6) (i := 3) (by kernel_rfl) h)) (by kernel_rfl) (fun _ _ _ h => h) hA (.inl ⟨rfl, fun w5 q1 => ?_⟩) ?_
    ·exact run_load_mid' rfl rfl (bcells bs) (rangeAt_block ((q1.1.block _ (lt_of_heap HB4.out) (by omega)).trans HB4.out)) Tryz.underlying48 rfl HI.out
    simp only [Act.put, List.setIfInBounds_toArray, List.set]
    refine wpG_doIf (i := 2) rfl (by kernel_rfl) rfl (fun K hK => ?_)
    have HKK := Lib.hid hK
    clear hK
    go_step
    refine (HBC.out _).mono ?_
    rintro e w7 ⟨rfl, hu7⟩
    obtain ⟨hAu, e0, e1, e2, e3, hAb⟩ := hA
    have hA : (Upd (fun k => k = bx + 1) wc w7 ∧ ∃ e0 e1 e2 e3, w7.heap[bx + 1]? = some (.cells #[e0, e1, e2, e3] 31 (0, 0))) := ⟨hAu.trans (hu7.mono (fun _ _ e => e.elim)), _, _, _, _, (hu7.block _ (lt_of_heap hAb) (fun e => e)).trans hAb⟩
    clear hAu hAb hu7
    simp only []
    refine HKK.out _ _ hA ?_
    clear HKK
    simp only [Act.put, List.setIfInBounds_toArray, List.set]
    refine wpG_takeT (i := 4) (v := .bool (headF ⟨x0, x1, x2, x3⟩ == bs)) rfl (fun L hc h => (hc.waits (n := 6) (i := 4) (by kernel_rfl) h)) (by kernel_rfl) (fun _ _ _ h => h) hA (.inl ⟨rfl, fun w5 q1 => ?_⟩) ?_
    ·exact run_exec_eqlV rfl rfl rfl HHL.out HL.out
    simp only [Act.put, List.setIfInBounds_toArray, List.set]
    refine wpG_doIf (i := 5) rfl (by kernel_rfl) rfl (fun K hK => ?_)
    have HKK := Lib.hid hK
    clear hK
    obtain ⟨hAu, e0, e1, e2, e3, hAb⟩ := hA
    refine wp_store_mid 31 (.tmp 2) (.tmp 47) rfl (bx + 1) 0 #[.int .i64 x0, .int .i64 x1, .int .i64 x2, .int .i64 x3] rfl rfl (by have q := there_block hAb; exact q) Tryz.size107r (by simp [Value.oneCell']) ?_
    obtain ⟨hAv, hAc⟩ := FIN.out _ (.int .i64 x0) (.int .i64 x1) (.int .i64 x2) (.int .i64 x3) e0 e1 e2 e3 hAb
    refine HKK.out _ _ ⟨hAu.trans hAv, _, _, _, _, hAc⟩ ?_
    clear HKK
    simp only [Act.put, List.setIfInBounds_toArray, List.set]
    refine wpG_tail_lit (k := 6) rfl rfl (by kernel_rfl) ?_
    simp only [List.drop]
    have HAV := Lib.hid (hAu.trans hAv); have HAC := Lib.hid hAc
    clear hAu hAv hAb hAc
    go_wp2
    have hl3 := run_loadVar_mid (P := Tryz.prog) _ (bx + 1) 0 31 [.int .i64 x0, .int .i64 x1, .int .i64 x2, .int .i64 x3] _ (rangeAt_block HAC.out) Tryz.underlying31 rfl Tryz.size107r
    refine bodyPost_ret (results_cell_tmp Tryz.results173 rfl hl3) rfl ⟨by rw [HR.out]; rfl, HUW.out.step HAV.out (fun k hk e => by have := HBX.out; omega)⟩
end
section
open Go.RowKit Go.Shelf
noncomputable def cntF (a b : List Int) : Hd × Bool :=
 if (rdF a).2 = true ∧ ((rdF b).2 = false ∨ (rdF b).1.turn ≤ (rdF a).1.turn) then ((rdF a).1, true) else ((rdF b).1, (rdF b).2)
theorem cntF_two (a b : List Int) : (cntF a b).2 = (countsF a b).2 := by
 unfold cntF countsF
 rw [rdF_two, rdF_two]
 cases ha : hOk a with
 |false => simp
 |true =>
  cases hb : hOk b with
  |false => simp
  |true =>
   rw [rdF_one ha, rdF_one hb]
theorem cntF_one {a b : List Int} (h : (countsF a b).2 = true) : (cntF a b).1 = (countsF a b).1 := by
 unfold cntF
 unfold countsF at h ⊢
 rw [rdF_two, rdF_two]
 cases ha : hOk a with
 |false =>
  rw [ha] at h
  simp only [Bool.false_eq_true, false_and, if_false] at h ⊢
  exact rdF_one h
 |true =>
  cases hb : hOk b with
  |false => simp [rdF_one ha]
  |true =>
   rw [rdF_one ha, rdF_one hb]
theorem wcounts_any {a b : List Int} (w : World) (ha : a.length = 64) (hb : b.length = 64) (hA : Bytes a) (hB : Bytes b) :
  Calls Tryz.prog 132 #[.agg (bcells a).toArray, .agg (bcells b).toArray] w fun e w' => e = .returned (.tuple #[(cntF a b).1.val, .bool (cntF a b).2]) ∧ Upd (fun _ => False) w w' := by
 obtain ⟨cf, hcf⟩ : ∃ cf, cf = cntF a b := ⟨_, rfl⟩
 have hc1 : ∀ W, Calls Tryz.prog 173 #[.agg (bcells a).toArray] W fun e w' => e = .returned (.tuple #[(rdF a).1.val, .bool (rdF a).2]) ∧ Upd (fun _ => False) W w' := fun W => wread_any W ha hA
 have hc2 : ∀ W, Calls Tryz.prog 173 #[.agg (bcells b).toArray] W fun e w' => e = .returned (.tuple #[(rdF b).1.val, .bool (rdF b).2]) ∧ Upd (fun _ => False) W w' := fun W => wread_any W hb hB
 unfold cntF at hcf
 rw [show cntF a b = cf by rw [hcf]; rfl]
 have hia : (Tryz.prog.info? 48).map (·.size) = some (bcells a).length := by rw [Tryz.info56p]; simp [bcells, ha]
 have hib : (Tryz.prog.info? 48).map (·.size) = some (bcells b).length := by rw [Tryz.info56p]; simp [bcells, hb]
 have HIA := Lib.hid hia; have HIB := Lib.hid hib
 have H1A := Lib.hid (all_oneCell_toArray (bcells_one a)); have H1B := Lib.hid (all_oneCell_toArray (bcells_one b))
 generalize (rdF a).1 = x at hcf hc1
 generalize (rdF b).1 = y at hcf hc2
 generalize (rdF a).2 = oa at hcf hc1
 generalize (rdF b).2 = ob at hcf hc2
 obtain ⟨x0, x1, x2, x3⟩ := x
 obtain ⟨y0, y1, y2, y3⟩ := y
 simp only [Hd.val] at hc1 hc2
 have HC1 := Lib.hid hc1; have HC2 := Lib.hid hc2; have HCF := Lib.hid hcf
 clear hc1 hc2 hcf hia hib ha hb hA hB
 generalize bcells a = av at *
 generalize bcells b = bv at *
 go_enter Tryz.func132, Tryz.ntmps132
 go_upto_region 1 with fail
 obtain ⟨w1, hw1⟩ : ∃ w1, w1 = ((w.alloc (.cells av.toArray 48)).alloc (.cells bv.toArray 48)).alloc (.cells #[.int .i64 0, .int .i64 0, .int .i64 0, .int .i64 0] 31) := ⟨_, rfl⟩
 rw [← hw1]
 have hba : w1.heap[w.heap.size]? = some (.cells av.toArray 48 (0, 0)) := by rw [hw1]; exact (alloc_lt (by simp <;> omega)).trans ((alloc_lt (by simp)).trans (alloc_at rfl))
 have hbb : w1.heap[w.heap.size + 1]? = some (.cells bv.toArray 48 (0, 0)) := by rw [hw1]; exact (alloc_lt (by simp <;> omega)).trans (alloc_at (by simp))
 have hbt : w1.heap[w.heap.size + 1 + 1]? = some (.cells #[.int .i64 0, .int .i64 0, .int .i64 0, .int .i64 0] 31 (0, 0)) := by rw [hw1]; exact alloc_at (by simp)
 have hu1 : Upd (fun _ => False) w w1 := by rw [hw1]; exact (((Upd.refl _ w).alloc _).alloc _).alloc _
 have HBA := Lib.hid hba; have HBB := Lib.hid hbb; have HBT := Lib.hid hbt; have HU1 := Lib.hid hu1
 clear hba hbb hbt hu1 hw1
 go_step
 refine wpList_load_mid rfl 48 (.tmp 2) rfl w.heap.size 0 rfl av _ (rangeAt_block HBA.out) Tryz.underlying48 rfl HIA.out ?_
 go_wp2_with (go_at_call 173; fail)
 refine (HC1.out _).mono ?_
 rintro e w2 ⟨rfl, hu⟩
 have HBB2 := Lib.hid ((hu.block _ (lt_of_heap HBB.out) (fun e => e)).trans HBB.out); have HBT2 := Lib.hid ((hu.block _ (lt_of_heap HBT.out) (fun e => e)).trans HBT.out); have HU2 := Lib.hid (HU1.out.trans hu)
 clear hu HBB HBT HU1 HC1 HBA
 simp only []
 go_upto_region 2 with fail
 obtain ⟨w3, hw3⟩ : ∃ w3, w3 = w2.alloc (.cells #[.int .i64 x0, .int .i64 x1, .int .i64 x2, .int .i64 x3] 31) := ⟨_, rfl⟩
 rw [← hw3]
 have h23 : Upd (fun _ => False) w2 w3 := by rw [hw3]; exact (Upd.refl _ w2).alloc _
 have hx3 : w3.heap[w2.heap.size]? = some (.cells #[.int .i64 x0, .int .i64 x1, .int .i64 x2, .int .i64 x3] 31 (0, 0)) := by rw [hw3]; exact alloc_at rfl
 have HBB3 := Lib.hid ((h23.block _ (lt_of_heap HBB2.out) (fun e => e)).trans HBB2.out); have HBT3 := Lib.hid ((h23.block _ (lt_of_heap HBT2.out) (fun e => e)).trans HBT2.out); have HU3 := Lib.hid (HU2.out.trans h23); have HX3 := Lib.hid hx3
 clear hw3 h23 hx3 HBB2 HBT2 HU2
 go_step
 refine wpList_load_mid rfl 48 (.tmp 3) rfl (w.heap.size + 1) 0 rfl bv _ (rangeAt_block HBB3.out) Tryz.underlying48 rfl HIB.out ?_
 go_wp2_with (go_at_call 173; fail)
 refine (HC2.out _).mono ?_
 rintro e w4 ⟨rfl, hu⟩
 have HBT4 := Lib.hid ((hu.block _ (lt_of_heap HBT3.out) (fun e => e)).trans HBT3.out); have HX4 := Lib.hid ((hu.block _ (lt_of_heap HX3.out) (fun e => e)).trans HX3.out); have HU4 := Lib.hid (HU3.out.trans hu)
 clear hu HBT3 HX3 HU3 HC2 HBB3
 simp only []
 go_upto_region 3 with fail
 obtain ⟨w5, hw5⟩ : ∃ w5, w5 = w4.alloc (.cells #[.int .i64 y0, .int .i64 y1, .int .i64 y2, .int .i64 y3] 31) := ⟨_, rfl⟩
 rw [← hw5]
 have h45 : Upd (fun _ => False) w4 w5 := by rw [hw5]; exact (Upd.refl _ w4).alloc _
 have hy5 : w5.heap[w4.heap.size]? = some (.cells #[.int .i64 y0, .int .i64 y1, .int .i64 y2, .int .i64 y3] 31 (0, 0)) := by rw [hw5]; exact alloc_at rfl
 have hx5 := (h45.block _ (lt_of_heap HX4.out) (fun e => e)).trans HX4.out
 have hbt5 := (h45.block _ (lt_of_heap HBT4.out) (fun e => e)).trans HBT4.out
 have cx : w5.cell? ⟨w2.heap.size, 0, none⟩ = some (.int .i64 x0) := by simp [World.cell?, hx5]
 have cy : w5.cell? ⟨w4.heap.size, 0, none⟩ = some (.int .i64 y0) := by simp [World.cell?, hy5]
 have HX5 := Lib.hid hx5; have HY5 := Lib.hid hy5; have HT5 := Lib.hid hbt5; have HU5 := Lib.hid (HU4.out.trans h45)
 have hcf := HCF.out
 clear hw5 h45 hy5 hx5 hbt5 HBT4 HX4 HU4 HCF
 have fin : ∀ (z0 z1 z2 z3 : Int), Upd (fun k => k = w.heap.size + 1 + 1) w5 (w5.setCells (w.heap.size + 1 + 1) 0 [.int .i64 z0, .int .i64 z1, .int .i64 z2, .int .i64 z3]) ∧ (w5.setCells (w.heap.size + 1 + 1) 0 [.int .i64 z0, .int .i64 z1, .int .i64 z2, .int .i64 z3]).heap[w.heap.size + 1 + 1]? = some (.cells #[.int .i64 z0, .int .i64 z1, .int .i64 z2, .int .i64 z3] 31 (0, 0)) := fun z0 z1 z2 z3 =>
  ⟨Upd.setCells (b := w.heap.size + 1 + 1) (F := fun k => k = w.heap.size + 1 + 1) rfl _ 0 (Upd.refl _ w5), heap_setCells_whole (vs := [.int .i64 z0, .int .i64 z1, .int .i64 z2, .int .i64 z3]) HT5.out rfl⟩
 have FIN := Lib.hid fin
 clear fin
 by_cases hch : oa = true ∧ (ob = false ∨ y0 ≤ x0)
 ·rw [if_pos hch] at hcf
  obtain ⟨rfl, hch⟩ := hch
  have HCF := Lib.hid hcf
  clear hcf
  cases ob with
  |false =>
   clear hch
   go_upto_region 4 with fail
   go_step
   refine wpList_load_mid rfl 31 (.tmp 6) rfl w2.heap.size 0 rfl [.int .i64 x0, .int .i64 x1, .int .i64 x2, .int .i64 x3] _ (rangeAt_block (cs := [.int .i64 x0, .int .i64 x1, .int .i64 x2, .int .i64 x3]) HX5.out) Tryz.underlying31 rfl Tryz.size107r ?_
   refine wpList_store_mid rfl 31 (.tmp 4) (.tmp 32) rfl (w.heap.size + 1 + 1) 0 #[.int .i64 x0, .int .i64 x1, .int .i64 x2, .int .i64 x3] rfl rfl (by have q := there_block HT5.out; exact q) Tryz.size107r (by simp [Value.oneCell']) ?_
   go_wp2
   have hl3 := run_loadVar_mid (P := Tryz.prog) _ (w.heap.size + 1 + 1) 0 31 [.int .i64 x0, .int .i64 x1, .int .i64 x2, .int .i64 x3] _ (rangeAt_block (FIN.out x0 x1 x2 x3).2) Tryz.underlying31 rfl Tryz.size107r
   refine bodyPost_ret (results_cell_tmp Tryz.results132 rfl hl3) rfl ⟨by rw [HCF.out]; rfl, HU5.out.step (FIN.out x0 x1 x2 x3).1 (fun k hk e => by omega)⟩
  |true =>
   have hge : x0 ≥ y0 := by rcases hch with h | h; cases h; exact h
   clear hch
   go_upto_region 4 with fail
   go_step
   refine wpList_load_mid rfl 31 (.tmp 6) rfl w2.heap.size 0 rfl [.int .i64 x0, .int .i64 x1, .int .i64 x2, .int .i64 x3] _ (rangeAt_block (cs := [.int .i64 x0, .int .i64 x1, .int .i64 x2, .int .i64 x3]) HX5.out) Tryz.underlying31 rfl Tryz.size107r ?_
   refine wpList_store_mid rfl 31 (.tmp 4) (.tmp 32) rfl (w.heap.size + 1 + 1) 0 #[.int .i64 x0, .int .i64 x1, .int .i64 x2, .int .i64 x3] rfl rfl (by have q := there_block HT5.out; exact q) Tryz.size107r (by simp [Value.oneCell']) ?_
   go_wp2
   have hl3 := run_loadVar_mid (P := Tryz.prog) _ (w.heap.size + 1 + 1) 0 31 [.int .i64 x0, .int .i64 x1, .int .i64 x2, .int .i64 x3] _ (rangeAt_block (FIN.out x0 x1 x2 x3).2) Tryz.underlying31 rfl Tryz.size107r
   refine bodyPost_ret (results_cell_tmp Tryz.results132 rfl hl3) rfl ⟨by rw [HCF.out]; rfl, HU5.out.step (FIN.out x0 x1 x2 x3).1 (fun k hk e => by omega)⟩
 ·rw [if_neg hch] at hcf
  have HCF := Lib.hid hcf
  clear hcf
  cases oa with
  |false =>
   clear hch
   go_upto_region 5 with fail
   go_step
   refine wpList_load_mid rfl 31 (.tmp 8) rfl w4.heap.size 0 rfl [.int .i64 y0, .int .i64 y1, .int .i64 y2, .int .i64 y3] _ (rangeAt_block (cs := [.int .i64 y0, .int .i64 y1, .int .i64 y2, .int .i64 y3]) HY5.out) Tryz.underlying31 rfl Tryz.size107r ?_
   iterate 3 go_step
   refine wpList_store_mid rfl 31 (.tmp 4) (.tmp 33) rfl (w.heap.size + 1 + 1) 0 #[.int .i64 y0, .int .i64 y1, .int .i64 y2, .int .i64 y3] rfl rfl (by have q := there_block HT5.out; exact q) Tryz.size107r (by simp [Value.oneCell']) ?_
   go_wp2
   have hl3 := run_loadVar_mid (P := Tryz.prog) _ (w.heap.size + 1 + 1) 0 31 [.int .i64 y0, .int .i64 y1, .int .i64 y2, .int .i64 y3] _ (rangeAt_block (FIN.out y0 y1 y2 y3).2) Tryz.underlying31 rfl Tryz.size107r
   refine bodyPost_ret (results_cell_tmp Tryz.results132 rfl hl3) rfl ⟨by rw [HCF.out]; rfl, HU5.out.step (FIN.out y0 y1 y2 y3).1 (fun k hk e => by omega)⟩
  |true =>
   cases ob with
   |false => exact absurd ⟨rfl, .inl rfl⟩ hch
   |true =>
    have hge : ¬ x0 ≥ y0 := fun h => hch ⟨rfl, .inr h⟩
    clear hch
    go_upto_region 5 with fail
    go_step
    refine wpList_load_mid rfl 31 (.tmp 8) rfl w4.heap.size 0 rfl [.int .i64 y0, .int .i64 y1, .int .i64 y2, .int .i64 y3] _ (rangeAt_block (cs := [.int .i64 y0, .int .i64 y1, .int .i64 y2, .int .i64 y3]) HY5.out) Tryz.underlying31 rfl Tryz.size107r ?_
    iterate 3 go_step
    refine wpList_store_mid rfl 31 (.tmp 4) (.tmp 33) rfl (w.heap.size + 1 + 1) 0 #[.int .i64 y0, .int .i64 y1, .int .i64 y2, .int .i64 y3] rfl rfl (by have q := there_block HT5.out; exact q) Tryz.size107r (by simp [Value.oneCell']) ?_
    go_wp2
    have hl3 := run_loadVar_mid (P := Tryz.prog) _ (w.heap.size + 1 + 1) 0 31 [.int .i64 y0, .int .i64 y1, .int .i64 y2, .int .i64 y3] _ (rangeAt_block (FIN.out y0 y1 y2 y3).2) Tryz.underlying31 rfl Tryz.size107r
    refine bodyPost_ret (results_cell_tmp Tryz.results132 rfl hl3) rfl ⟨by rw [HCF.out]; rfl, HU5.out.step (FIN.out y0 y1 y2 y3).1 (fun k hk e => by omega)⟩
def padK (n : Nat) : Nat := 48 * secsN n - (4 + n)
def padF (b : List Int) : List Int := layF b.length 32 ++ b ++ List.replicate (padK b.length) 0
theorem cut_pad (l : List Int) (m d : Nat) (h : d + 48 ≤ l.length + m) : ((l ++ List.replicate m 0).drop d).take 48 = (l.drop d).take 48 ++ List.replicate (48 - ((l.drop d).take 48).length) 0 := by
 apply List.ext_getElem?
 intro i
 have hl : ((l.drop d).take 48).length = min 48 (l.length - d) := by simp
 rw [hl]
 simp only [List.getElem?_take, List.getElem?_drop, List.getElem?_append, List.getElem?_replicate, hl]
 repeat' split
 all_goals first
  |rfl
  | (exfalso; omega)
  | (rw [List.getElem?_eq_none (by omega)])
theorem allF_raw (b : List Int) (k : Nat) : (if k = 0 then layF b.length 32 else []) ++ (b.drop (48 * k - 4)).take (min (48 * k + 44) b.length - (48 * k - 4)) = ((layF b.length 32 ++ b).drop (48 * k)).take 48 := by
 have h4 : (layF (b.length : Int) 32).length = 4 := by rw [layF_length]
 by_cases hk : k = 0
 ·subst hk
  have e1 : (layF b.length 32 ++ b).take 48 = layF b.length 32 ++ b.take 44 := by
   rw [List.take_append, h4, List.take_of_length_le (l := layF (b.length : Int) 32) (by omega)]
  have e2 : b.take (min (48 * 0 + 44) b.length - (48 * 0 - 4)) = b.take 44 := by
   rw [List.take_eq_take_iff]
   omega
  rw [if_pos rfl, Nat.mul_zero, List.drop_zero, List.drop_zero, e1]
  exact congrArg (layF (b.length : Int) 32 ++ ·) e2
 ·have e1 : (layF b.length 32 ++ b).drop (48 * k) = b.drop (48 * k - 4) := by
   rw [List.drop_append, h4, List.drop_of_length_le (l := layF (b.length : Int) 32) (by omega), List.nil_append]
  rw [if_neg hk, List.nil_append, e1, List.take_eq_take_iff, List.length_drop]
  omega
theorem padF_cut (b : List Int) {k : Nat} (hk : k < secsN b.length) : ((padF b).drop (48 * k)).take 48 = allF b k := by
 have h4 : (layF (b.length : Int) 32).length = 4 := by rw [layF_length]
 have hs : 48 * secsN b.length = 4 + b.length + padK b.length := by unfold padK secsN; omega
 unfold padF
 rw [cut_pad _ _ _ (by rw [List.length_append, h4]; omega)]
 simp only [allF]
 rw [allF_raw]
abbrev OwnR (w : World) (base : Nat) (v : Value) (L : List (List Int)) : Prop := w.ownsRow base 48 64 v L.length (L.flatMap bcells)
theorem Tryz.info48w : (Tryz.prog.info? 48).map (fun i => (i.zero, i.size, i.bytes)) = some (some (.agg (bcells zblk).toArray), 64, 64) := by kernel_rfl
theorem run_appR {w : World} {base : Nat} {ty : TypeId} {v : Value} {L : List (List Int)} {x : List Int} {a : Addr} (hown : OwnR w base v L) (hx : x.length = 64) (hc : ∀ (j : Nat) u, (bcells x)[j]? = some u → w.cell? (a.add j) = some u) (hm : L.length + 1 ≤ 1000000) (hbase : base ≤ w.heap.size) :
  ∃ v' w', (Builtin.append_ #[201, 201] ty #[v, .slice (some a) 1 1]).run Tryz.prog w = .ok v' w' ∧ OwnR w' base v' (L ++ [x]) ∧ Upd (fun k => v.ownBlock = some k) w w' := by
 obtain ⟨i, hi, hz, hs, hb⟩ := info_parts Tryz.info48w
 obtain ⟨v', w', hr, g1, g2, _⟩ := run_append_own (P := Tryz.prog) w base 201 ty 48 i (.agg (bcells zblk).toArray) 64 64 Tryz.underlying201 hi hz hs hb (by kernel_rfl) (by omega) v L.length (L.flatMap bcells) hown a 1 1 (bcells x) (by simp [bcells, hx]) hc (bcells_one x) (by unfold maxLen; omega) (by omega) hbase
 refine ⟨v', w', hr, ?_, Upd.of_grown g2 (fun k hk => hk)⟩
 unfold OwnR
 rw [List.length_append, List.flatMap_append]
 simpa using g1
theorem wpList_appR {ops : Array Oper} {rest : List Oper} {o : Oper} {a : Act} {w : World} {Q : Exit → Act → World → Prop} (hgd : o.guard = none) (s x : Operand) (ho : o.op = .call { callee := .builtin .append, args := #[s, x], argTypes := #[201, 201] })
  {base : Nat} {v : Value} {L : List (List Int)} {y : List Int} {ad : Addr} (hs : a.eval s = v) (hown : OwnR w base v L) (hx : a.eval x = .slice (some ad) 1 1) (hy : y.length = 64) (hc : ∀ (j : Nat) u, (bcells y)[j]? = some u → w.cell? (ad.add j) = some u) (hm : L.length + 1 ≤ 1000000) (hbase : base ≤ w.heap.size)
  (h : ∀ v' w', OwnR w' base v' (L ++ [y]) → Upd (fun k => v.ownBlock = some k) w w' → wpList Tryz.prog ops Q rest (a.put o.dst v') w') : wpList Tryz.prog ops Q (o :: rest) a w := by
 obtain ⟨v', w', hr, g1, g2⟩ := run_appR (ty := o.type) hown hy hc hm hbase
 exact Lib.wpList_append_run w hgd s x 201 201 ho v _ hs hx v' w' hr (h v' w' g1 g2)
theorem run_build201 (cs : List Value) (w : World) (hc : cs.length = 64) :
  (Instr.buildSlice 201 1 #[(0, .agg cs.toArray)]).run Tryz.prog w = .ok (.slice (some ⟨w.heap.size, 0, none⟩) 1 1) (w.alloc (.cells cs.toArray 48)) := by
 have hf : ∀ Z : Array Value, Z.size = 64 → List.foldl (fun (cs : Array Value) (x : Value × Nat) => cs.setIfInBounds x.snd x.fst) Z cs.zipIdx = cs.toArray := fun Z hz => by
  apply Array.toList_inj.1
  have h := splice_fold cs 0 0 Z (by simp [hz, hc])
  simp only [Nat.zero_add] at h
  rw [h]
  have e : Z.toList.drop 64 = [] := by rw [List.drop_eq_nil_iff]; simp [hz]
  simp [hc, e]
 simp [Instr.buildSlice, go_sem]
 rw [hf _ (by simp)]
 simp [hc]
theorem slice_at {ga n gc fr tn : Nat} (h1 : fr < tn) (h2 : tn ≤ n) (h3 : n ≤ gc) (W : World) :
  (Instr.sliceAt 39 (.slice (some ⟨ga, 0, none⟩) n gc) (some (.int .i64 fr)) (some (.int .i64 tn)) none).run Tryz.prog W = .ok (.slice (some ⟨ga, fr, none⟩) (tn - fr) (gc - fr)) W := by
 have ht : Tryz.prog.underlying 39 = some (.slice (Tryz.prog.elem 39)) := by kernel_rfl
 have hz : (sizeOf (Tryz.prog.elem 39)).run Tryz.prog W = .ok 1 W := by kernel_rfl
 rw [run_sliceAt_slice W 39 _ _ _ _ ht, run_slice_lh W 39 (some ⟨ga, 0, none⟩) n gc ht .i64 .i64 _ _ (by omega) (by omega) (by omega), hz]
 have hne : ¬ gc = fr := by omega
 simp [sliced, hne, Addr.add]
 exact fun h => h.symm
theorem sub_in {W : World} {ga n gc fr tn : Nat} {bs : List Int} (h1 : fr < tn) (h2 : tn ≤ n) (hn : n = bs.length) (h : BytesIn W (.slice (some ⟨ga, 0, none⟩) n gc) bs) : BytesIn W (.slice (some ⟨ga, fr, none⟩) (tn - fr) (gc - fr)) ((bs.drop fr).take (tn - fr)) := by
 have hlen : ((bs.drop fr).take (tn - fr)).length = tn - fr := by simp; omega
 rcases h with ⟨h, _⟩ | ⟨b, c', h, g1, g2, g3⟩
 ·cases h
 ·injection h with e1 e2 e3
  injection e1 with e1
  subst e1
  subst e3
  refine .inr ⟨⟨ga, fr, none⟩, gc - fr, by rw [hlen], by omega, by omega, fun i u hi => ?_⟩
  have hil : i < tn - fr := by
   have := (List.getElem?_eq_some_iff.1 hi).1
   have h2 : (bcells ((bs.drop fr).take (tn - fr))).length = tn - fr := by simp only [bcells, List.length_map]; exact hlen
   omega
  have := g3 (fr + i) u (by rw [← hi]; simp [bcells, hil])
  rw [Addr.add_mid, Nat.zero_add] at this
  rw [Addr.add_mid]
  exact this
theorem wpart_any {a : Option Addr} {c : Nat} {b : List Int} (turn number : Int) (snap : Bool) (w : World) (hv : BytesIn w (.slice a b.length c) b) (hb : Bytes b) (hl : b.length ≤ 40000) (ht : 0 ≤ turn ∧ turn ≤ 4294967295) (hn : 0 ≤ number ∧ number ≤ 4294967295) :
  Calls Tryz.prog 137 #[.int .i64 turn, .int .i64 number, .bool snap, .slice a b.length c] w fun e w' => ∃ v, e = .returned v ∧ OwnR w' w.heap.size v ((List.range (secsN b.length)).map (cutF turn number snap b)) ∧ Upd (fun _ => False) w w' := by
 have HV := Lib.hid hv; have HB := Lib.hid hb; have HL := Lib.hid hl; have HT := Lib.hid ht; have HN := Lib.hid hn
 have hp1 := wput4_any (v := .slice none 0 0) (bs := []) (x := b.length) (base := w.heap.size) w (.inl (World.ownsRow_nil _ _ _ _)) (by omega) (by simp) (Nat.le_refl _)
 rw [List.nil_append] at hp1
 have HP1 := Lib.hid hp1
 clear hv hb hl ht hn hp1
 go_enter Tryz.func137, Tryz.ntmps137
 go_wp2_with (go_at_call 175; fail)
 refine HP1.out.mono ?_
 rintro e w1 ⟨u1, rfl, ho1, hu1⟩
 have hl4 : (layF (b.length : Int) 32).length = 4 := by rw [layF_length]
 obtain ⟨g1, c1, rfl⟩ := ho1.slice_of (by intro e; rw [e] at hl4; simp at hl4)
 have hu1' : Upd (fun _ => False) w w1 := hu1.mono (fun k hk e => by omega)
 have HO1 := Lib.hid ho1; have HU1 := Lib.hid hu1'; have HL4 := Lib.hid hl4; have HV1 := Lib.hid (HV.out.kept hu1')
 clear ho1 hu1 hu1' HP1 hl4
 simp only []
 iterate 4 go_step
 refine wpList_appB (base := w.heap.size) (bs := layF b.length 32) (cs := b) rfl (.tmp 17) (.tmp 18) rfl rfl HO1.out rfl HV1.out (by rw [HL4.out]; have := HL.out; omega) HU1.out.size ?_
 intro v2 w2 g2 g3
 have HO2 := Lib.hid g2; have HU2 := Lib.hid (HU1.out.step g3 (fun j hj e => by have := (HO1.out.lt j e).1; omega))
 clear g2 g3 HO1 HU1 HV1 HV
 go_upto_region 2 with fail
 go_loopg [9] (padK b.length) (fun gk out wr => ∃ k : Nat, k ≤ padK b.length ∧ gk = padK b.length - k ∧ OwnB wr w.heap.size out (layF b.length 32 ++ b ++ List.replicate k 0) ∧ Upd (fun _ => False) w wr)
 case atStart => exact ⟨0, Nat.zero_le _, rfl, by simpa using HO2.out, HU2.out⟩
 case round =>
  obtain ⟨k, hk, rfl, ho, hu⟩ := hrel
  have hlk : (layF (b.length : Int) 32 ++ b ++ List.replicate k (0 : Int)).length = 4 + b.length + k := by rw [List.length_append, List.length_append, HL4.out, List.length_replicate]
  obtain ⟨bs, hbs⟩ : ∃ bs, bs = layF (b.length : Int) 32 ++ b ++ List.replicate k (0 : Int) := ⟨_, rfl⟩
  rw [← hbs] at ho hlk
  obtain ⟨ga, gc, rfl⟩ := ho.slice_of (by intro e; rw [e, List.length_nil] at hlk; omega)
  rw [hlk] at ho ⊢
  obtain ⟨m, hm⟩ : ∃ m, m = 4 + b.length + k := ⟨_, rfl⟩
  rw [← hm] at ho hlk
  have HO := Lib.hid ho; have HU := Lib.hid hu; have HBS := Lib.hid hbs; have HLK := Lib.hid hlk
  have hlb := HL.out
  have hpk : 48 * secsN b.length = 4 + b.length + padK b.length ∧ padK b.length < 48 ∧ secsN b.length ≤ 834 := by unfold padK secsN; omega
  have hmm : m ≤ 40060 := by omega
  rw [← hm]
  have HM := Lib.hid hm; have HPK := Lib.hid hpk
  clear ho hu hbs hlk HO2 HU2 hlb hpk
  by_cases hkn : k < padK b.length
  ·have hgt : 0 < (m : Int) % 48 := by have := HPK.out; omega
   clear hm
   go_upto_region 3 with fail
   iterate 7 go_step
   refine wpList_appB (base := w.heap.size) (bs := bs) (cs := [0]) rfl (.tmp 24) (.tmp 25) rfl rfl (OwnB.keptF HO.out ((Upd.refl (fun _ => False) wr).alloc _) (fun _ _ e => e)) rfl ?_ (by rw [HLK.out]; simp only [List.length_cons, List.length_nil]; omega) (Nat.le_trans HU.out.size (by simp)) ?_
   ·exact one_in wr 0
   intro v2 w2 g1 g2
   have HO2 := Lib.hid g1; have HU2 := Lib.hid ((HU.out.alloc _).step g2 (fun j hj e => by have := (HO.out.lt j e).1; omega))
   clear g1 g2
   go_wp2
   go_roundg (padK b.length - (k + 1))
   case measure => omega
   case rel => exact ⟨k + 1, by omega, rfl, by rw [List.replicate_succ', ← List.append_assoc, ← HBS.out]; exact HO2.out, HU2.out⟩
  ·obtain rfl : k = padK b.length := by omega
   have hpk := HPK.out
   obtain ⟨z, hz⟩ : ∃ z : Nat, z = secsN b.length := ⟨_, rfl⟩
   rw [← hz] at hpk
   have h0 : (m : Int) % 48 = 0 := by omega
   have hq : (m : Int).tdiv 48 = z := by rw [Int.tdiv_eq_ediv_of_nonneg (by omega)]; omega
   have hz9 : z ≤ 834 := hpk.2.2
   have hwz : IntKind.i64.wrap (z : Int) = z := by rw [IntKind.wrap_i64]; omega
   have hwm : IntKind.i64.wrap ((z : Int) + 32768) = z + 32768 := by rw [IntKind.wrap_i64]; omega
   have hmz : m = 48 * z := by omega
   have HZ := Lib.hid hz
   have HBS2 := Lib.hid (show bs = padF b from HBS.out)
   clear hm hz hpk hk hmm hkn
   subst hmz
   go_upto_if 30 with fail
   have HMN := Lib.hid (show manyF b.length snap = z + (if snap then 32768 else 0) by rw [HZ.out]; rfl)
   go_cut [10] from 31 to 33 (fun v wx => v = .int .i64 (manyF b.length snap) ∧ wx = wr)
   case first =>
    cases snap with
    |false =>
     go_wp2
     go_meet
     case rel => exact ⟨by rw [HMN.out]; simp, rfl⟩
    |true =>
     go_wp2
     go_meet
     case rel => exact ⟨by rw [HMN.out]; simp, rfl⟩
   case rest =>
    obtain ⟨rfl, rfl⟩ := hcut
    have hmb : 0 ≤ manyF b.length snap ∧ manyF b.length snap ≤ 40000 := by rw [HMN.out]; cases snap <;> simp <;> omega
    obtain ⟨mn, hmn⟩ : ∃ mn, mn = manyF b.length snap := ⟨_, rfl⟩
    rw [← hmn] at hmb ⊢
    have HMN2 := Lib.hid hmn
    clear hmn HMN
    have HGA := Lib.hid (HO.out.lt ga rfl)
    go_upto_region 9 with fail
    go_loopg [11, 12] z (fun gk out i wr => ∃ k : Nat, k ≤ z ∧ gk = z - k ∧ i = .int .i64 k ∧ OwnR wr wc.heap.size out ((List.range k).map (cutF turn number snap b)) ∧ Upd (fun _ => False) wc wr)
    case atStart => exact ⟨0, Nat.zero_le _, rfl, rfl, World.ownsRow_nil _ _ _ _, Upd.refl _ _⟩
    case round =>
     obtain ⟨k, hk, rfl, rfl, ho, hu⟩ := hrel
     have HOR := Lib.hid ho; have HUR := Lib.hid hu
     clear ho hu
     have hwk : IntKind.i64.wrap (48 * (k : Int)) = 48 * k := by rw [IntKind.wrap_i64]; omega
     by_cases hkn : k < z
     ·have hki : 48 * (k : Int) < 48 * z := by omega
      have hp1 := wput4_any (v := .slice none 0 0) (bs := []) (x := turn) (base := wr.heap.size) wr (.inl (World.ownsRow_nil _ _ _ _)) (by have := HT.out; omega) (by simp) (Nat.le_refl _)
      rw [List.nil_append] at hp1
      have HP1 := Lib.hid hp1
      clear hp1
      go_wp2_with (go_at_call 175; fail)
      refine HP1.out.mono ?_
      rintro e x1 ⟨s1, rfl, p1, q1⟩
      obtain ⟨s1a, s1n, s1c, rfl⟩ := p1.bytesAt.1.slice'
      have P1 := Lib.hid p1; have X1 := Lib.hid q1
      clear p1 q1 HP1
      simp only []
      go_wp2_with (go_at_call 175; fail)
      refine (wput4_any x1 (.inl P1.out) (by have := HN.out; omega) (by rw [layF_length]; omega) X1.out.size).mono ?_
      rintro e x2 ⟨s2, rfl, p2, q2⟩
      obtain ⟨s2a, s2n, s2c, rfl⟩ := p2.bytesAt.1.slice'
      have P2 := Lib.hid p2; have X2 := Lib.hid (X1.out.trans q2)
      clear p2 q2 P1 X1
      simp only []
      go_wp2_with (go_at_call 175; fail)
      refine (wput2_any x2 (.inl P2.out) (by omega) (by simp only [List.length_append, layF_length]; omega) X2.out.size).mono ?_
      rintro e x3 ⟨s3, rfl, p3, q3⟩
      obtain ⟨s3a, s3n, s3c, rfl⟩ := p3.bytesAt.1.slice'
      have P3 := Lib.hid p3; have X3 := Lib.hid (X2.out.trans q3)
      clear p3 q3 P2 X2
      simp only []
      go_wp2_with (go_at_call 175; fail)
      refine (wput2_any x3 (.inl P3.out) (by omega) (by simp only [List.length_append, layF_length]; omega) X3.out.size).mono ?_
      rintro e x4 ⟨s4, rfl, p4, q4⟩
      rw [HMN2.out, show layF turn 32 ++ layF number 32 ++ layF k 16 ++ layF (manyF b.length snap) 16 = leadF turn number snap b.length k from rfl] at p4
      obtain ⟨s4a, s4n, s4c, rfl⟩ := p4.bytesAt.1.slice'
      have P4 := Lib.hid p4; have X4 := Lib.hid ((X3.out.trans q4).mono (G := fun _ => False) (fun k hk e => by omega))
      clear p4 q4 P3 X3
      simp only []
      have hcap := HO.out.bytesIn.cap
      have hkk : 48 * k + 48 ≤ 48 * z := by omega
      have hin : ∀ W, Upd (fun k => wr.heap.size ≤ k) wr W → BytesIn W (.slice (some ⟨ga, 48 * k, none⟩) 48 (gc - 48 * k)) (allF b k) := fun W hW => by
       have h1 : BytesIn W (.slice (some ⟨ga, 0, none⟩) (48 * z) gc) bs := by
        have h2 : OwnB wr w.heap.size (.slice (some ⟨ga, 0, none⟩) (48 * z) gc) bs := OwnB.keptF HO.out HUR.out (fun _ _ e => e)
        exact (OwnB.keptF h2 hW (fun k hk e => by have := (h2.lt k hk).2; omega)).bytesIn
       have h3 := sub_in (fr := 48 * k) (tn := 48 * k + 48) (by omega) hkk HLK.out.symm h1
       rwa [HBS2.out, show 48 * k + 48 - 48 * k = 48 by omega, padF_cut b (by rw [← HZ.out]; exact hkn)] at h3
      have hs9 := slice_at (ga := ga) (n := 48 * z) (gc := gc) (fr := 48 * k) (tn := 48 * k + 48) (by omega) hkk hcap
      rw [show 48 * k + 48 - 48 * k = 48 by omega] at hs9
      push_cast at hs9
      have hwk2 : IntKind.i64.wrap (48 * (k : Int) + 48) = 48 * k + 48 := by rw [IntKind.wrap_i64]; omega
      have HS9 := Lib.hid hs9
      clear hs9 hcap hkk
      have hll : (leadF turn number snap b.length k).length = 12 := by simp only [leadF, List.length_append, layF_length]
      have hla : (allF b k).length = 48 := allF_length b k
      have hby : Bytes (leadF turn number snap b.length k ++ allF b k) := by
       unfold leadF
       exact ((((layF_bytes _ _).append (layF_bytes _ _)).append (layF_bytes _ _)).append (layF_bytes _ _)).append (allF_bytes HB.out k)
      have hcf : cutF turn number snap b k = leadF turn number snap b.length k ++ layF (sumF (leadF turn number snap b.length k ++ allF b k)) 32 ++ allF b k := rfl
      obtain ⟨ld, hld⟩ : ∃ ld, ld = leadF turn number snap b.length k := ⟨_, rfl⟩
      obtain ⟨al, hal⟩ : ∃ al, al = allF b k := ⟨_, rfl⟩
      have P4' := P4.out
      rw [← hld] at P4' hll hby hcf
      rw [← hal] at hla hby hcf hin
      have P4 := Lib.hid P4'; have HIN := Lib.hid hin; have HLL := Lib.hid hll; have HLA := Lib.hid hla; have HBY := Lib.hid hby; have HCF := Lib.hid hcf
      clear P4' hin hll hla hby hcf hld hal
      go_upto_region 12 with fail
      iterate 19 go_step
      refine wpList_exec rfl (run_exec_slice rfl rfl rfl rfl (HS9.out _)) ?_
      go_upto_region 13 with fail
      iterate 10 go_step
      refine wpList_appF (base := x4.heap.size) (bs := []) (cs := ld) rfl (.tmp 56) (.tmp 57) rfl rfl (.inr ⟨_, rfl, fun i u hi => by simp [bcells] at hi⟩) rfl (P4.out.bytesIn.kept ((Upd.refl _ _).alloc _)) (by rw [HLL.out]; omega) (by rw [HLL.out]; simp) (by simp) ?_
      intro y1 x5 g1 g2
      rw [List.nil_append] at g1
      obtain ⟨y1a, y1n, y1c, rfl⟩ := g1.bytesAt.1.slice'
      have G5 := Lib.hid g1; have U5 := Lib.hid ((((Upd.refl (fun _ => False) x4).alloc _).step g2 (fun j hj e => by omega)))
      clear g1 g2
      iterate 3 go_step
      refine wpList_appB (base := x4.heap.size) (bs := ld) (cs := al) rfl (.tmp 58) (.tmp 59) rfl rfl G5.out rfl (HIN.out _ ((X4.out.trans U5.out).mono (fun _ _ e => e.elim))) (by rw [HLL.out, HLA.out]; omega) U5.out.size ?_
      intro y2 x6 g1 g2
      obtain ⟨sm, hsm⟩ : ∃ sm, sm = sumF (ld ++ al) := ⟨_, rfl⟩
      have hlt : (ld ++ al).length = 60 := by rw [List.length_append, HLL.out, HLA.out]
      obtain ⟨y2g, y2c, rfl⟩ := g1.slice_of (by intro e; rw [e] at hlt; simp at hlt)
      have hws := wsum_any (a := some ⟨y2g, 0, none⟩) (c := y2c) (bs := ld ++ al) x6 g1.bytesIn HBY.out (by omega) g1.bytesIn.cap
      rw [hlt, ← hsm] at hws
      rw [hlt]
      have hsb := sumF_bound (ld ++ al)
      have hcf := HCF.out
      rw [← hsm] at hsb hcf
      have hsi : IntKind.i64.wrap sm = sm := by rw [IntKind.wrap_i64]; omega
      have U6 := Lib.hid (U5.out.step g2 (fun j hj e => by have := (G5.out.lt j e).1; omega))
      have X6 := Lib.hid (X4.out.trans U6.out)
      have hp6 := wput4_any (v := .slice s4a s4n s4c) (bs := ld) (x := sm) (base := wr.heap.size) x6 (.inl (OwnB.keptF P4.out U6.out (fun _ _ e => e))) (by omega) (by rw [HLL.out]; omega) X6.out.size
      have HWS := Lib.hid hws; have HP6 := Lib.hid hp6; have HCF := Lib.hid hcf
      clear g1 g2 hsm hlt hws hp6 hcf G5 U5 P4
      go_wp2_with (go_at_call 176; fail)
      refine HWS.out.mono ?_
      rintro e x7 ⟨rfl, rfl⟩
      simp only []
      go_wp2_with (go_at_call 175; fail)
      refine HP6.out.mono ?_
      rintro e x8 ⟨s8, rfl, p8, q8⟩
      obtain ⟨s8a, s8n, s8c, rfl⟩ := p8.bytesAt.1.slice'
      have P8 := Lib.hid p8; have X8 := Lib.hid ((X6.out.mono (fun _ _ e => e.elim)).trans q8)
      have X8F := Lib.hid (X6.out.step q8 (fun j hj e => by omega))
      have H98 := Lib.hid (HIN.out _ X8.out)
      clear p8 q8 HWS HP6
      simp only []
      go_upto_region 14 with fail
      iterate 10 go_step
      refine wpList_appB (base := wr.heap.size) (bs := ld ++ layF sm 32) (cs := al) rfl (.tmp 65) (.tmp 66) rfl rfl P8.out rfl H98.out (by rw [List.length_append, HLL.out, HLA.out, layF_length]; omega) X8F.out.size ?_
      intro y9 x9 g1 g2
      rw [← HCF.out] at g1
      have hl64 : (cutF turn number snap b k).length = 64 := by rw [HCF.out]; simp only [List.length_append, HLL.out, HLA.out, layF_length]
      obtain ⟨g9, c9, rfl⟩ := g1.slice_of (by intro e; rw [e] at hl64; simp at hl64)
      rw [hl64]
      have X9 := Lib.hid (X8F.out.step g2 (fun j hj e => by have := (P8.out.lt j e).1; omega))
      have hr9 := rangeAt_own g1
      have HR9 := Lib.hid hr9; have HL64 := Lib.hid hl64
      have hat := array_any g9 c9 x9
      have hi : (Tryz.prog.info? 48).map (·.size) = some (bcells (cutF turn number snap b k)).length := by rw [Tryz.info56p]; simp [bcells, hl64]
      have HI := Lib.hid hi
      obtain ⟨cv, hcv⟩ : ∃ cv, cv = bcells (cutF turn number snap b k) := ⟨_, rfl⟩
      rw [← hcv] at HR9 HI
      have HCV := Lib.hid hcv
      clear g1 g2 hr9 hl64 hi hcv P8 X8 X8F H98
      iterate 3 go_step
      refine wpList_load_mid rfl 48 (.tmp 68) rfl g9 0 rfl cv _ HR9.out Tryz.underlying48 rfl HI.out ?_
      have hcl : cv.length = 64 := by rw [HCV.out]; simp [bcells, HL64.out]
      have HCL := Lib.hid hcl
      clear hcl
      refine wpList_exec rfl (run_exec_buildSlice (run_build201 cv _ HCL.out) rfl (by simp [Act.eval, Act.put])) ?_
      have hcut : ∀ (j : Nat) u, (bcells (cutF turn number snap b k))[j]? = some u → (x9.alloc (.cells cv.toArray 48)).cell? ((⟨x9.heap.size, 0, none⟩ : Addr).add j) = some u := fun j u hu => by
       rw [Addr.add_mid, Nat.zero_add, cell_of_heap (alloc_at rfl), ← hu, ← HCV.out]
       simp
      have hxo : OwnR (x9.alloc (.cells cv.toArray 48)) wc.heap.size u11 ((List.range k).map (cutF turn number snap b)) := ownsRow_any (ownsRow_any HOR.out X9.out (fun _ _ e => e)) ((Upd.refl (fun _ => False) x9).alloc _) (fun _ _ e => e)
      refine wpList_appR (base := wc.heap.size) (L := (List.range k).map (cutF turn number snap b)) (y := cutF turn number snap b k) rfl (.tmp 64) (.tmp 70) rfl rfl hxo rfl HL64.out hcut (by simp; omega) (by have := HUR.out.size; have := X9.out.size; simp; omega) ?_
      intro y10 x10 g1 g2
      have hwk1 : IntKind.i64.wrap ((k : Int) + 1) = k + 1 := by rw [IntKind.wrap_i64]; omega
      have GO := Lib.hid g1
      have GU := Lib.hid (show Upd (fun _ => False) wc x10 from ((HUR.out.trans X9.out).alloc _).step g2 (fun j hj e => by have := (World.ownsRow.lt HOR.out j e).1; omega))
      clear g1 g2 hcut hxo
      go_wp2
      go_roundg (z - (k + 1))
      case measure => omega
      case rel => exact ⟨k + 1, by omega, rfl, congrArg _ (by omega), by rw [List.range_succ, List.map_append]; exact GO.out, GU.out⟩
     ·obtain rfl : k = z := by omega
      have HF := Lib.hid (show OwnR wr w.heap.size u11 ((List.range (secsN b.length)).map (cutF turn number snap b)) from by rw [← HZ.out]; exact Go.Joins.ownsRow_le HOR.out HU.out.size)
      go_wp2
      go_ret
      exact ⟨_, rfl, HF.out, HU.out.trans HUR.out⟩
def flatT (T : Nat → List Int) (k : Nat) : List Int := (List.range k).flatMap fun j => (T j).drop 16
theorem flatT_succ (T : Nat → List Int) (k : Nat) : flatT T (k + 1) = flatT T k ++ (T k).drop 16 := by simp [flatT, List.range_succ]
theorem flatT_length {T : Nat → List Int} (hT : ∀ j, (T j).length = 64) : ∀ k, (flatT T k).length = 48 * k
 | 0 => rfl
 |k + 1 => by rw [flatT_succ, List.length_append, flatT_length hT k, List.length_drop, hT]; omega
def padTo (n : Nat) (l : List Int) : List Int := l.take n ++ List.replicate (n - l.length) 0
theorem padTo_length (n : Nat) (l : List Int) : (padTo n l).length = n := by simp [padTo]; omega
theorem padTo_get (n : Nat) (l : List Int) (j : Nat) : (padTo n l)[j]? = if j < n then (if j < l.length then l[j]? else some 0) else none := by
 unfold padTo
 rw [List.getElem?_append, List.getElem?_take, List.getElem?_replicate, List.length_take]
 repeat' split
 all_goals first
  |rfl
  | (exfalso; omega)
  | (rw [List.getElem?_eq_none (by omega)])
def ownK (T : Nat → List Int) (n k : Nat) : List Int := padTo n ((flatT T k).drop 4)
theorem ownK_length (T : Nat → List Int) (n k : Nat) : (ownK T n k).length = n := padTo_length _ _
theorem ownK_one {T : Nat → List Int} (hT : ∀ j, (T j).length = 64) (n : Nat) : ownK T n 1 = overF (List.replicate n 0) 0 ((T 0).drop 20) := by
 have e : (flatT T 1).drop 4 = (T 0).drop 20 := by simp [flatT]
 have hl : ((T 0).drop 20).length = 44 := by simp [hT]
 apply List.ext_getElem?
 intro j
 rw [ownK, e, padTo_get, overF_get _ _ _ (Nat.zero_le _), List.length_replicate, List.getElem?_replicate, hl, Nat.sub_zero]
 repeat' split
 all_goals first
  |rfl
  | (exfalso; omega)
theorem ownK_succ {T : Nat → List Int} (hT : ∀ j, (T j).length = 64) (n k : Nat) (hk : 1 ≤ k) (hn : 48 * k - 4 ≤ n) : ownK T n (k + 1) = overF (ownK T n k) (48 * k - 4) ((T k).drop 16) := by
 have h1 : ((flatT T k).drop 4).length = 48 * k - 4 := by rw [List.length_drop, flatT_length hT]
 have h2 : ((T k).drop 16).length = 48 := by rw [List.length_drop, hT]
 have e : (flatT T (k + 1)).drop 4 = (flatT T k).drop 4 ++ (T k).drop 16 := by
  rw [flatT_succ, List.drop_append_of_le_length (by rw [flatT_length hT]; omega)]
 apply List.ext_getElem?
 intro j
 rw [overF_get _ _ _ (by rw [ownK_length]; exact hn), ownK_length]
 unfold ownK
 rw [e, padTo_get, padTo_get, List.length_append, List.getElem?_append, h1, h2]
 repeat' split
 all_goals first
  |rfl
  | (exfalso; omega)
open Classical in
noncomputable def goR (T : Nat → List Int) (turn number : Int) (snap : Bool) (n : Nat) : Nat → Nat → Option (List Int) × Nat
 | 0, k => (some (ownK T n k), k)
 |m + 1, k => if cutF turn number snap (ownK T n (k + 1)) k = T k then goR T turn number snap n m (k + 1) else (none, k + 1)
open Classical in
noncomputable def wholeR (T : Nat → List Int) (h : Hd) (number : Int) (snap : Bool) (left : Int) : Option (List Int) × Nat :=
 if left = 0 then (none, 0) else if Starts h left (T 0) then goR T (startT (T 0)) number snap (startN (T 0)).toNat (secsN (startN (T 0)).toNat) 0 else (none, 1)
def readsD : List Int → Dk → Int × Dk
 | [], D => (0, D)
 |i :: l, D => if D.callE i false = 0 then readsD l (D.callD i false) else (D.callE i false, D.callD i false)
theorem readsD_append : ∀ (l m : List Int) (D : Dk), readsD (l ++ m) D = if (readsD l D).1 = 0 then readsD m (readsD l D).2 else readsD l D
 | [], m, D => by simp [readsD]
 |i :: l, m, D => by
  simp only [List.cons_append, readsD]
  split
  ·exact readsD_append l m _
  ·rename_i h
   simp [h]
theorem callR_read {D : Dk} {i : Int} (h : D.callE i false = 0) : D.callR i false = true := by
 unfold Dk.callE at h
 unfold Dk.callR
 by_cases h1 : D.dead = true
 ·simp [h1] at h
 ·by_cases h2 : i < 0 ∨ (D.arr.length : Int) ≤ i
  ·simp [h1, h2] at h
  ·by_cases h3 : D.fail = 0
   ·simp [h1, h2, h3] at h
   ·simp [h1, h3]
    omega
theorem callD_S (D : Dk) (i : Int) : (D.callD i false).S = D.S := by
 unfold Dk.callD
 repeat' split
 all_goals rfl
def askP (h : Hd) (place : Int) (k n : Nat) : List Int := (List.range' k n).map fun (j : Nat) => atF h.area (place + j)
theorem goR_ge (T : Nat → List Int) (turn number : Int) (snap : Bool) (n : Nat) : ∀ m k, k ≤ (goR T turn number snap n m k).2
 | 0, k => Nat.le_refl _
 |m + 1, k => by
  unfold goR
  split
  ·exact Nat.le_of_succ_le (goR_ge T turn number snap n m (k + 1))
  ·exact Nat.le_succ _
theorem askP_more (h : Hd) (place : Int) (k n : Nat) : askP h place k (n + 1) = atF h.area (place + k) :: askP h place (k + 1) n := by simp [askP, List.range'_succ]
def Reads (R : Option (List Int) × Int × Dk) (l : List Int) (D : Dk) (r : Option (List Int)) : Prop := R.2 = readsD l D ∧ ((readsD l D).1 = 0 → R.1 = r) ∧ ((readsD l D).1 ≠ 0 → R.1 = none)
theorem goD_goR {h : Hd} {T : Nat → List Int} {number place turn : Int} {snap : Bool} {n : Nat} (hT : ∀ j, (T j).length = 64) :
  ∀ (m k : Nat) (D : Dk), (∀ j : Nat, D.S (atF h.area (place + j)) = T j) → 1 ≤ k → k + m = secsN n →
   Reads (goD h number place turn snap m k (ownK T n k) D) (askP h place k ((goR T turn number snap n m k).2 - k)) D (goR T turn number snap n m k).1
 | 0, k, D, _, _, _ => by
  have e : (goR T turn number snap n 0 k).2 - k = 0 := Nat.sub_self k
  rw [e]
  exact ⟨rfl, fun _ => rfl, fun h => absurd rfl h⟩
 |m + 1, k, D, hS, hk, hm => by
  have hn : 48 * k - 4 ≤ n := by unfold secsN at hm; omega
  have hge : k + 1 ≤ (goR T turn number snap n (m + 1) k).2 := by
   unfold goR
   split
   ·exact goR_ge T turn number snap n m (k + 1)
   ·exact Nat.le_refl _
  obtain ⟨c, hc⟩ : ∃ c, (goR T turn number snap n (m + 1) k).2 - k = c + 1 := ⟨(goR T turn number snap n (m + 1) k).2 - k - 1, by omega⟩
  rw [hc, askP_more]
  by_cases he : D.callE (atF h.area (place + k)) false = 0
  ·have hr : D.reads (atF h.area (place + k)) = T k := by
    unfold Dk.reads
    rw [if_pos (callR_read he)]
    exact hS k
   unfold Reads readsD
   rw [if_pos he]
   show Reads _ _ _ _
   unfold goD
   rw [if_pos he, hr, ← ownK_succ hT n k hk hn]
   unfold goR at hc ⊢
   by_cases hcu : cutF turn number snap (ownK T n (k + 1)) k = T k
   ·rw [if_pos hcu] at hc
    rw [if_pos hcu, if_pos hcu]
    have h2 := goD_goR (h := h) (T := T) (number := number) (place := place) (turn := turn) (snap := snap) (n := n) hT m (k + 1) (D.callD (atF h.area (place + k)) false) (fun j => by rw [callD_S]; exact hS j) (by omega) (by omega)
    rwa [show (goR T turn number snap n m (k + 1)).2 - (k + 1) = c by omega] at h2
   ·rw [if_neg hcu] at hc
    rw [if_neg hcu, if_neg hcu]
    obtain rfl : c = 0 := by simp at hc; omega
    exact ⟨rfl, fun _ => rfl, fun h => absurd rfl h⟩
  ·unfold Reads readsD goD
   rw [if_neg he, if_neg he]
   exact ⟨rfl, fun h => absurd h he, fun _ => rfl⟩
open Classical in
theorem wholeD_wholeR {h : Hd} {T : Nat → List Int} {number place left : Int} {snap : Bool} (hT : ∀ j, (T j).length = 64) (D : Dk) (hS : ∀ j : Nat, D.S (atF h.area (place + j)) = T j) :
  Reads (wholeD h number place snap left D) (askP h place 0 (wholeR T h number snap left).2) D (wholeR T h number snap left).1 := by
 have h0 : D.S (atF h.area place) = T 0 := by simpa using hS 0
 have p0 : place + ((0 : Nat) : Int) = place := by simp
 unfold wholeD wholeR
 by_cases hl : left = 0
 ·rw [if_pos hl, if_pos hl]
  exact ⟨rfl, fun _ => rfl, fun h => absurd rfl h⟩
 rw [if_neg hl, if_neg hl]
 by_cases he : D.callE (atF h.area place) false = 0
 ·have hr : D.reads (atF h.area place) = T 0 := by
   unfold Dk.reads
   rw [if_pos (callR_read he)]
   exact h0
  rw [if_pos he, hr]
  by_cases hs : Starts h left (T 0)
  ·rw [if_pos hs, if_pos hs]
   obtain ⟨m, hm⟩ : ∃ m, secsN (startN (T 0)).toNat = m + 1 := ⟨secsN (startN (T 0)).toNat - 1, by have := secsN_pos (startN (T 0)).toNat; omega⟩
   have hb : startB (T 0) = ownK T (startN (T 0)).toNat 1 := (ownK_one hT _).symm
   rw [hm, hb]
   unfold goR
   by_cases hc : cutF (startT (T 0)) number snap (ownK T (startN (T 0)).toNat (0 + 1)) 0 = T 0
   ·rw [if_pos hc, if_pos hc, Nat.add_sub_cancel]
    have h2 := goD_goR (h := h) (T := T) (number := number) (place := place) (turn := startT (T 0)) (snap := snap) (n := (startN (T 0)).toNat) hT m 1 (D.callD (atF h.area place) false) (fun j => by rw [callD_S]; exact hS j) (Nat.le_refl _) (by omega)
    have hge := goR_ge T (startT (T 0)) number snap (startN (T 0)).toNat m 1
    obtain ⟨c, hcc⟩ : ∃ c, (goR T (startT (T 0)) number snap (startN (T 0)).toNat m 1).2 = c + 1 := ⟨(goR T (startT (T 0)) number snap (startN (T 0)).toNat m 1).2 - 1, by omega⟩
    rw [hcc, Nat.add_sub_cancel] at h2
    rw [Nat.zero_add, hcc, askP_more, p0]
    unfold Reads readsD
    rw [if_pos he]
    exact h2
   ·rw [if_neg hc, if_neg hc, askP_more, p0]
    unfold Reads readsD
    rw [if_pos he]
    exact ⟨rfl, fun _ => rfl, fun h => absurd rfl h⟩
  ·rw [if_neg hs, if_neg hs, askP_more, p0]
   unfold Reads readsD
   rw [if_pos he]
   exact ⟨rfl, fun _ => rfl, fun h => absurd rfl h⟩
 ·have h1 : ∃ c, (if Starts h left (T 0) then goR T (startT (T 0)) number snap (startN (T 0)).toNat (secsN (startN (T 0)).toNat) 0 else (none, 1)).2 = c + 1 := by
   split
   ·obtain ⟨m, hm⟩ : ∃ m, secsN (startN (T 0)).toNat = m + 1 := ⟨secsN (startN (T 0)).toNat - 1, by have := secsN_pos (startN (T 0)).toNat; omega⟩
    rw [hm]
    unfold goR
    split
    ·have := goR_ge T (startT (T 0)) number snap (startN (T 0)).toNat m (0 + 1)
     exact ⟨_, (Nat.sub_add_cancel this).symm⟩
    ·exact ⟨0, rfl⟩
   ·exact ⟨0, rfl⟩
  obtain ⟨c, hc⟩ := h1
  rw [if_neg he, hc, askP_more, p0]
  unfold Reads readsD
  rw [if_neg he]
  exact ⟨rfl, fun h => absurd h he, fun _ => rfl⟩
theorem readsD_S : ∀ (l : List Int) (D : Dk), (readsD l D).2.S = D.S
 | [], _ => rfl
 |i :: l, D => by
  unfold readsD
  split
  ·rw [readsD_S l, callD_S]
  ·exact callD_S D i
noncomputable def saysA (S : Int → List Int) (h : Hd) : Nat → List (List Int) → Int → List (List Int) × List Int
 | 0, ps, _ => (ps, [])
 |f + 1, ps, u =>
  match wholeR (fun k => S (atF h.area (h.place + u + k))) h (h.number + ps.length) (decide (ps = [])) (h.area - u) with
  | (none, c) => (ps, askP h (h.place + u) 0 c)
  | (some b, c) => ((saysA S h f (ps ++ [b]) (u + secsN b.length)).1, askP h (h.place + u) 0 c ++ (saysA S h f (ps ++ [b]) (u + secsN b.length)).2)
end
section
open Go.RowKit Go.Shelf Go.Joins
structure BlksAt (w : World) (a : Option Addr) (Ls : List (List Int)) : Prop where
 len : ∀ x ∈ Ls, x.length = 64
 byte : ∀ x ∈ Ls, Bytes x
 cell : ∃ g, a = some ⟨g, 0, none⟩ ∧ ∀ (i : Nat) x, Ls[i]? = some x → w.rangeAt g (64 * i) (bcells x)
theorem BlksAt.kept {w w' : World} {a : Option Addr} {Ls : List (List Int)} (h : BlksAt w a Ls) (hu : Upd (fun _ => False) w w') : BlksAt w' a Ls := by
 obtain ⟨g, e, hc⟩ := h.cell
 refine ⟨h.len, h.byte, g, e, fun i x hx => ?_⟩
 have := hc i x hx
 intro j u hu2
 exact cell_keptF hu (fun e => e) (this j u hu2)
def blkAt (Ls : List (List Int)) (i : Nat) : List Int := (Ls[i % Ls.length]?).getD zblk
theorem blkAt_some {Ls : List (List Int)} (h : 0 < Ls.length) (i : Nat) : Ls[i % Ls.length]? = some (blkAt Ls i) := by
 unfold blkAt
 rw [List.getElem?_eq_getElem (Nat.mod_lt _ h)]
 rfl
theorem BlksAt.blk {w : World} {a : Option Addr} {Ls : List (List Int)} (h : BlksAt w a Ls) (h0 : 0 < Ls.length) (i : Nat) : (blkAt Ls i).length = 64 ∧ Bytes (blkAt Ls i) :=
 ⟨h.len _ (List.mem_of_getElem? (blkAt_some h0 i)), h.byte _ (List.mem_of_getElem? (blkAt_some h0 i))⟩
theorem flat_blk : ∀ (L : List (List Int)) (k : Nat) (x : List Int), L[k]? = some x → (∀ b ∈ L, b.length = 64) → ∀ (j : Nat) (u : Value), (bcells x)[j]? = some u → (L.flatMap bcells)[64 * k + j]? = some u
 | [], _, _, h, _, _, _, _ => by simp at h
 |y :: L, 0, x, h, hl, j, u, hu => by
  simp at h
  subst h
  have hj := (List.getElem?_eq_some_iff.1 hu).1
  rw [List.flatMap_cons, List.getElem?_append_left (by simpa using hj)]
  simpa using hu
 |y :: L, k + 1, x, h, hl, j, u, hu => by
  have hy : (bcells y).length = 64 := by rw [bcells_length]; exact hl y (by simp)
  rw [List.flatMap_cons, List.getElem?_append_right (by omega), hy, show 64 * (k + 1) + j - 64 = 64 * k + j by omega]
  exact flat_blk L k x (by simpa using h) (fun b hb => hl b (by simp [hb])) j u hu
theorem OwnR.range {w : World} {base g c n : Nat} {L : List (List Int)} (h : OwnR w base (.slice (some ⟨g, 0, none⟩) n c) L) (hl : ∀ x ∈ L, x.length = 64) {k : Nat} {x : List Int} (hx : L[k]? = some x) : w.rangeAt g (64 * k) (bcells x) := fun j u hu => by
 have := World.ownsRow.cells h (g := g) rfl (64 * k + j) u (flat_blk L k x hx hl j u hu)
 rwa [Addr.add_mid, Nat.zero_add] at this
theorem rangeAt_keptF {F : Nat → Prop} {w w' : World} {g o : Nat} {cs : List Value} (h : w.rangeAt g o cs) (hu : Upd F w w') (hg : ¬ F g) : w'.rangeAt g o cs := fun j u hj => cell_keptF hu hg (h j u hj)
theorem OwnR.slice_of {w : World} {base : Nat} {v : Value} {L : List (List Int)} (h : OwnR w base v L) (hne : 0 < L.length) : ∃ g c, v = .slice (some ⟨g, 0, none⟩) L.length c ∧ base ≤ g ∧ g < w.heap.size := by
 rcases h.2 with ⟨e, e2⟩ | ⟨g, cap, cur, e, h1, h2, _⟩
 ·omega
 ·exact ⟨g, cap, e, h1, lt_of_heap h2⟩
theorem getI_any {bx o c : Nat} {bs : List Int} (W : World) (hl : bs.length = 64) (hB : Bytes bs) (t : TypeId) (h1 : o + 4 ≤ 64) (h2 : 4 ≤ c) (h3 : c ≤ 64) (hb : W.heap[bx]? = some (.cells (bcells bs).toArray t (0, 0))) :
  Calls Tryz.prog 194 #[.slice (some ⟨bx, o, none⟩) 4 c] W fun e w' => e = .returned (.int .i64 (be (bs.drop o))) ∧ W = w' := by
 have hl4 : ((bs.drop o).take 4).length = 4 := by rw [List.length_take, List.length_drop]; omega
 have := wget_any (a := some ⟨bx, o, none⟩) (c := c) (bs := (bs.drop o).take 4) W (by rw [hl4]; exact block_sub hb o 4 c (by omega) h2 h3) (fun x hx => hB x (List.mem_of_mem_drop (List.mem_of_mem_take hx))) (by omega)
 rwa [hl4, ← be_beF _ (by rw [List.length_drop]; omega)] at this
theorem be_bound {bs : List Int} (hB : Bytes bs) (hl : 4 ≤ bs.length) : 0 ≤ be bs ∧ be bs < 4294967296 := by
 rw [be_beF _ hl]
 exact beF_le 4 _ (by rw [List.length_take]; omega) (fun x hx => hB x (List.mem_of_mem_take hx))
def mdC (p : Nat) (hd : Hd) (pv av : Value) (br no : Bool) : Array Value := #[.pointer (some ⟨p, 0, none⟩), .int .i64 hd.turn, .int .i64 hd.area, .int .i64 hd.place, .int .i64 hd.number, pv, av, .bool br, .bool no]
theorem cells9_of {w : World} {b : Nat} {x0 x1 x2 x3 x4 x5 x6 x7 x8 : Value} {t : TypeId} (h : w.heap[b]? = some (.cells #[x0, x1, x2, x3, x4, x5, x6, x7, x8] t (0, 0))) :
  w.cell? ⟨b, 0, none⟩ = some x0 ∧ w.cell? ⟨b, 1, none⟩ = some x1 ∧ w.cell? ⟨b, 2, none⟩ = some x2 ∧ w.cell? ⟨b, 3, none⟩ = some x3 ∧ w.cell? ⟨b, 4, none⟩ = some x4 ∧ w.cell? ⟨b, 5, none⟩ = some x5 ∧ w.cell? ⟨b, 6, none⟩ = some x6 ∧ w.cell? ⟨b, 7, none⟩ = some x7 ∧ w.cell? ⟨b, 8, none⟩ = some x8 := by
 refine ⟨?_, ?_, ?_, ?_, ?_, ?_, ?_, ?_, ?_⟩ <;> simp [World.cell?, h]
def laysL (fr ar : Int) (Ls : List (List Int)) : List (Int × List Int) := (List.range Ls.length).map fun (k : Nat) => (if 0 < ar then 2 + (fr + k) % ar else fr + k, (Ls[k]?).getD zblk)
theorem laysL_drop {fr ar : Int} {Ls : List (List Int)} {k : Nat} {x : List Int} (hx : Ls[k]? = some x) : (laysL fr ar Ls).drop k = (if 0 < ar then 2 + (fr + k) % ar else fr + k, x) :: (laysL fr ar Ls).drop (k + 1) := by
 obtain ⟨h1, h2⟩ := List.getElem?_eq_some_iff.1 hx
 have h3 : k < (laysL fr ar Ls).length := by simpa [laysL] using h1
 rw [List.drop_eq_getElem_cons h3]
 congr 1
 simp [laysL, h1, h2]
theorem laysL_end {fr ar : Int} {Ls : List (List Int)} : (laysL fr ar Ls).drop Ls.length = [] := by simp [laysL]
structure LySt (w : World) (p : Nat) (F : Nat → Prop) (D : Dk) (L : List (Int × List Int)) (K k : Nat) (W : World) : Prop where
 st : ∃ (E : Dk) (F' : Nat → Prop), D.lays L = E.lays (L.drop k) ∧ D.laysE L = E.laysE (L.drop k) ∧ E.Ok (K + 2 * k) ∧ Dsk W p E F' ∧ (∀ j, F' j → F j ∨ w.heap.size ≤ j)
 upd : Upd F w W
theorem LySt.kept {w W W' : World} {p : Nat} {F : Nat → Prop} {D : Dk} {L : List (Int × List Int)} {K k : Nat} (h : LySt w p F D L K k W) (hu : Upd (fun _ => False) W W') : LySt w p F D L K k W' := by
 obtain ⟨⟨E, F', h1, h2, h3, h4, h5⟩, h6⟩ := h
 exact ⟨⟨E, F', h1, h2, h3, h4.kept hu (fun _ _ e => e), h5⟩, h6.trans (hu.mono (fun _ _ e => e.elim))⟩
theorem LySt.write {w W : World} {p : Nat} {F : Nat → Prop} {D : Dk} {L : List (Int × List Int)} {K k : Nat} {i : Int} {x : List Int} (h : LySt w p F D L K k W) (hx : L.drop k = (i, x) :: L.drop (k + 1)) (hl : okBlk x) (hK : K + 2 * k ≤ 1099511627774) :
  Calls Tryz.prog 158 #[.pointer (some ⟨p, 0, none⟩), .int .i64 i, .agg (bcells x).toArray] W fun e W' => ∃ E : Int, e = .returned (.int .i64 E) ∧ Upd F w W' ∧ (E = 0 → LySt w p F D L K (k + 1) W') ∧ (E ≠ 0 → D.laysE L = E ∧ Left w p (D.lays L) F W') := by
 obtain ⟨⟨E, F', h1, h2, h3, h4, h5⟩, h6⟩ := h
 refine (write_any i x W h4 (h3.mono hK) hl.1).mono ?_
 rintro e W' ⟨rfl, F2, g1, g2, g3⟩
 have hu : Upd F w W' := h6.step g3 (fun j hj q => (h5 j q).elim id (fun q => by omega))
 have hF2 : ∀ j, F2 j → F j ∨ w.heap.size ≤ j := fun j hj => (g2 j hj).elim (h5 j) (fun q => .inr (Nat.le_trans h6.size q))
 rw [hx, Dk.lays] at h1
 rw [hx, Dk.laysE] at h2
 refine ⟨_, rfl, hu, fun he => ?_, fun he => ?_⟩
 ·rw [if_pos he] at h1 h2
  exact ⟨⟨_, F2, h1, h2, h3.write i hl, g1, hF2⟩, hu⟩
 ·rw [if_neg he] at h1 h2
  exact ⟨h2, F2, by rw [h1]; exact g1, hF2, hu⟩
theorem LySt.sync {w W : World} {p : Nat} {F : Nat → Prop} {D : Dk} {L : List (Int × List Int)} {K k : Nat} (h : LySt w p F D L K k W) (hx : L.drop k = []) (hK : K + 2 * k ≤ 1099511627773) :
  Calls Tryz.prog 159 #[.pointer (some ⟨p, 0, none⟩)] W fun e W' => e = .returned (.int .i64 (D.laysE L)) ∧ Left w p (D.lays L) F W' := by
 obtain ⟨⟨E, F', h1, h2, h3, h4, h5⟩, h6⟩ := h
 rw [hx, Dk.lays] at h1
 rw [hx, Dk.laysE] at h2
 refine (sync_any W h4 (h3.mono hK)).mono ?_
 rintro e W' ⟨rfl, F2, g1, g2, g3⟩
 exact ⟨by rw [h2], F2, by rw [h1]; exact g1, fun j hj => (g2 j hj).elim (h5 j) (fun q => .inr (Nat.le_trans h6.size q)), h6.step g3 (fun j hj q => (h5 j q).elim id (fun q => by omega))⟩
theorem BlksAt.keptF {w w' : World} {g : Nat} {Ls : List (List Int)} {F : Nat → Prop} (h : BlksAt w (some ⟨g, 0, none⟩) Ls) (hu : Upd F w w') (hg : ¬ F g) : BlksAt w' (some ⟨g, 0, none⟩) Ls := by
 obtain ⟨g2, e, hc⟩ := h.cell
 obtain rfl : g = g2 := by injection e with e; injection e
 refine ⟨h.len, h.byte, g, rfl, fun i x hx => ?_⟩
 have := hc i x hx
 intro j u hu2
 exact cell_keptF hu hg (this j u hu2)
theorem wlays_any {m p g : Nat} {lc K : Nat} {D : Dk} {F : Nat → Prop} {hd : Hd} {pv av : Value} {br no : Bool} {Ls : List (List Int)} (fr ar : Int) (w : World) (hm : w.heap[m]? = some (.cells (mdC p hd pv av br no) 37 (0, 0))) (hmF : ¬ F m) (hD : Dsk w p D F) (hok : D.Ok K) (hK : K ≤ 1099511600000)
  (hL : BlksAt w (some ⟨g, 0, none⟩) Ls) (hg : ¬ F g) (hn : Ls.length ≤ 5000) (hfr : 0 ≤ fr ∧ fr ≤ 1000000) (har : 0 ≤ ar ∧ ar ≤ 1000000) :
  Calls Tryz.prog 136 #[.pointer (some ⟨m, 0, none⟩), .int .i64 fr, .slice (some ⟨g, 0, none⟩) Ls.length lc, .int .i64 ar] w fun e w' => e = .returned (.int .i64 (D.laysE (laysL fr ar Ls))) ∧ Left w p (D.lays (laysL fr ar Ls)) F w' := by
 have HM := Lib.hid hm; have HMF := Lib.hid hmF; have HG := Lib.hid hg; have HL := Lib.hid hL
 obtain ⟨L, hLL⟩ : ∃ L, L = laysL fr ar Ls := ⟨_, rfl⟩
 have hs0 : LySt w p F D L K 0 w := ⟨⟨D, F, rfl, rfl, hok, hD, fun _ hj => .inl hj⟩, Upd.refl _ _⟩
 rw [← hLL]
 obtain ⟨n, hnn⟩ : ∃ n, n = Ls.length := ⟨_, rfl⟩
 rw [← hnn] at hn ⊢
 have HLL := Lib.hid hLL; have HS0 := Lib.hid hs0; have HNN := Lib.hid hnn
 clear hm hmF hD hok hL hg hLL hs0 hnn
 go_enter Tryz.func136, Tryz.ntmps136
 go_upto_region 2 with fail
 go_loopg [15] n (fun gk i wr => ∃ k : Nat, k ≤ n ∧ gk = n - k ∧ i = .int .i64 k ∧ LySt w p F D L K k wr)
 case atStart => exact ⟨0, by omega, rfl, rfl, HS0.out⟩
 case round =>
  obtain ⟨k, hk, rfl, rfl, hs⟩ := hrel
  obtain ⟨wo, rfl⟩ : ∃ wo, wo = wr := ⟨_, rfl⟩
  have HS := Lib.hid hs
  clear hs HS0
  have hmo := (HS.out.upd.block _ (lt_of_heap HM.out) HMF.out).trans HM.out
  have HMO := Lib.hid hmo
  obtain ⟨c0, _⟩ := cells9_of hmo
  clear hmo
  by_cases hkn : k < n
  ·have hki : (k : Int) < n := by omega
   have hkl : k < Ls.length := by have := HNN.out; omega
   obtain ⟨x, hx⟩ : ∃ x, Ls[k]? = some x := ⟨_, List.getElem?_eq_getElem hkl⟩
   have hbo := HL.out.keptF HS.out.upd HG.out
   have hxl : okBlk x := ⟨hbo.len x (List.mem_of_getElem? hx), hbo.byte x (List.mem_of_getElem? hx)⟩
   have hrg : wo.rangeAt g (64 * k) (bcells x) := by
    obtain ⟨g2, e, hc⟩ := hbo.cell
    obtain rfl : g = g2 := by injection e with e; injection e
    exact hc k x hx
   have hdr := laysL_drop (fr := fr) (ar := ar) hx
   obtain ⟨at_, hat⟩ : ∃ at_ : Int, at_ = if 0 < ar then 2 + (fr + k) % ar else fr + k := ⟨_, rfl⟩
   rw [← hat, ← HLL.out] at hdr
   have HDR := Lib.hid hdr; have HXL := Lib.hid hxl; have HRG := Lib.hid hrg; have HAT := Lib.hid hat
   have hi : (Tryz.prog.info? 48).map (·.size) = some (bcells x).length := by rw [Tryz.info56p]; simp [bcells, hxl.1]
   have HI := Lib.hid hi
   have H1B := Lib.hid (all_oneCell_toArray (bcells_one x))
   obtain ⟨f1, f2, f3⟩ := fresh56 wo x hxl.1
   have F1 := Lib.hid f1; have F2 := Lib.hid f2; have F3 := Lib.hid f3
   have hw1 : IntKind.i64.wrap (fr + (k : Int)) = fr + k := by rw [IntKind.wrap_i64]; omega
   have hw2 : IntKind.i64.wrap ((k : Int) + 1) = k + 1 := by rw [IntKind.wrap_i64]; omega
   clear hx hbo hxl hrg hdr hat hi f1 f2 f3
   go_upto_region 3 with fail
   iterate 7 go_step
   refine wpList_load_mid rfl 48 (.tmp 18) rfl g (k * 64) rfl (bcells x) _ (by rw [Nat.mul_comm]; exact HRG.out) Tryz.underlying48 rfl HI.out ?_
   iterate 6 go_step
   refine (?_ : wpList _ _ _ _ _ (wo.alloc (.cells (bcells zblk).toArray 48)))
   refine wpList_store_mid rfl 48 (.tmp 10) (.tmp 19) rfl wo.heap.size 0 (bcells x).toArray rfl rfl F1.out (by rw [HI.out]; simp) H1B.out ?_
   rw [show (bcells x).toArray.toList = bcells x from rfl]
   obtain ⟨w4, hw4⟩ : ∃ w4, w4 = (wo.alloc (.cells (bcells zblk).toArray 48)).setCells wo.heap.size 0 (bcells x) := ⟨_, rfl⟩
   rw [← hw4] at F2 F3 ⊢
   obtain ⟨bx, hbx⟩ : ∃ bx, bx = wo.heap.size := ⟨_, rfl⟩
   rw [← hbx] at F2 ⊢
   have HM4 := Lib.hid ((F3.out.block _ (lt_of_heap HMO.out) (fun e => e)).trans HMO.out)
   have HS4 := Lib.hid (HS.out.kept F3.out)
   clear hw4 hbx F1 H1B HRG c0
   go_upto_if 24 with fail
   go_cut [11] from 25 to 30 (fun v wx => v = .int .i64 at_ ∧ wx = w4)
   case first =>
    by_cases ha0 : 0 < ar
    ·have hag : ar > 0 := ha0
     have hatt : at_ = 2 + (fr + k) % ar := by rw [HAT.out, if_pos ha0]
     have hnI : ¬ ar = 0 := by omega
     have hnB : (ar == 0) = false := by simpa using hnI
     have htm : (fr + (k : Int)).tmod ar = (fr + k) % ar := Int.tmod_eq_emod_of_nonneg (by omega)
     have hq1 := Int.emod_nonneg (fr + (k : Int)) hnI
     have hq2 := Int.emod_lt_of_pos (fr + (k : Int)) ha0
     have hw5 : IntKind.i64.wrap (2 + (fr + (k : Int)) % ar) = 2 + (fr + k) % ar := by rw [IntKind.wrap_i64]; omega
     have HATT := Lib.hid hatt
     clear hatt hq1 hq2
     go_wp2
     go_meet
     case rel => exact ⟨by rw [HATT.out], rfl⟩
    ·have hag : ¬ ar > 0 := ha0
     have hatt : at_ = fr + k := by rw [HAT.out, if_neg ha0]
     have HATT := Lib.hid hatt
     clear hatt
     go_wp2
     go_meet
     case rel => exact ⟨by rw [HATT.out], rfl⟩
   case rest =>
    obtain ⟨rfl, rfl⟩ := hcut
    go_upto_region 7 with fail
    have hA : wc.drew.heap[m]? = some (.cells (mdC p hd pv av br no) 37 (0, 0)) ∧ wc.drew.heap[bx]? = some (.cells (bcells x).toArray 48 (0, 0)) ∧ Upd (fun _ => False) wc wc.drew := ⟨HM4.out, F2.out, (Upd.refl _ _).drew⟩
    refine wp_region_G 6 (fun W => W.heap[m]? = some (.cells (mdC p hd pv av br no) 37 (0, 0)) ∧ W.heap[bx]? = some (.cells (bcells x).toArray 48 (0, 0)) ∧ Upd (fun _ => False) wc W) [false, false, false, false, false, false, false, false] rfl (by kernel_rfl) ?_
    refine wpG_takeP (i := 0) (v := .pointer (some ⟨m, 0, none⟩)) rfl (by kernel_rfl) (fun _ _ _ h => h) hA (.inl ⟨rfl, fun w5 q1 => ?_⟩) ?_
    ·go_simp
    simp only [Act.put, List.setIfInBounds_toArray, List.set]
    refine wpG_takeP (i := 1) (v := .pointer (some ⟨m, 0, none⟩)) rfl (by kernel_rfl) (fun _ _ _ h => h) hA (.inl ⟨rfl, fun w5 q1 => ?_⟩) ?_
    ·go_simp
    simp only [Act.put, List.setIfInBounds_toArray, List.set]
    refine wpG_takeP (i := 2) (v := .pointer (some ⟨m, 0, none⟩)) rfl (by kernel_rfl) (fun _ _ _ h => h) hA (.inl ⟨rfl, fun w5 q1 => ?_⟩) ?_
    ·go_simp
    simp only [Act.put, List.setIfInBounds_toArray, List.set]
    refine wpG_takeT (i := 3) (v := .pointer (some ⟨p, 0, none⟩)) rfl (fun L hc h => (hc.waits (n := 6) (i := 3) (by kernel_rfl) h)) (by kernel_rfl) (fun _ _ _ h => h) hA (.inl ⟨rfl, fun w5 q1 => ?_⟩) ?_
    ·obtain ⟨c0, c1, c2, c3, c4, c5, c6, c7, c8⟩ := cells9_of q1.1
     go_simp
    simp only [Act.put, List.setIfInBounds_toArray, List.set]
    refine wpG_takeP (i := 4) (v := .int .i64 at_) rfl (by kernel_rfl) (fun _ _ _ h => h) hA (.inl ⟨rfl, fun w5 q1 => ?_⟩) ?_
    ·go_simp
    simp only [Act.put, List.setIfInBounds_toArray, List.set]
    refine wpG_takeT (i := 5) (v := .agg (bcells x).toArray) rfl (fun L hc h => (hc.waits (n := 6) (i := 5) (by kernel_rfl) h)) (by kernel_rfl) (fun _ _ _ h => h) hA (.inl ⟨rfl, fun w5 q1 => ?_⟩) ?_
    ·exact run_load_mid' rfl rfl (bcells x) (rangeAt_block q1.2.1) Tryz.underlying48 rfl HI.out
    simp only [Act.put, List.setIfInBounds_toArray, List.set]
    refine wpG_tail_lit (k := 6) rfl rfl (by kernel_rfl) ?_
    simp only [List.drop]
    have hcal := LySt.write (i := at_) (HS4.out.kept hA.2.2) HDR.out HXL.out (by omega)
    have HCAL := Lib.hid hcal
    clear hcal hA
    go_wp2_with (go_at_call 158; fail)
    refine HCAL.out.mono ?_
    rintro e w5 ⟨E, rfl, hu5, h1, h2⟩
    have H1 := Lib.hid h1; have H2 := Lib.hid h2
    clear h1 h2 HCAL
    simp only []
    by_cases hE : E = 0
    ·have hst := H1.out hE
     subst hE
     have HST := Lib.hid hst
     clear hst H1 H2 hu5
     go_wp2
     go_roundg (n - (k + 1))
     case measure => omega
     case rel => exact ⟨k + 1, by omega, rfl, congrArg _ (by omega), HST.out⟩
    ·have hEb : (E != 0) = true := by simpa using hE
     obtain ⟨e1, e2⟩ := H2.out hE
     have HE1 := Lib.hid e1; have HE2 := Lib.hid e2
     clear e1 e2 H1 H2 hu5
     go_wp2
     go_ret
     exact ⟨by rw [HE1.out]; rfl, HE2.out⟩
  ·obtain rfl : k = n := by omega
   have hdn : L.drop k = [] := by rw [HLL.out, HNN.out]; exact laysL_end
   have hcal := LySt.sync HS.out hdn (by omega)
   have HCAL := Lib.hid hcal
   clear hcal hdn
   go_wp2_with (go_at_call 159; fail)
   refine HCAL.out.mono ?_
   rintro e w5 ⟨rfl, hl⟩
   have HLF := Lib.hid hl
   clear hl HCAL
   simp only []
   go_wp2
   go_ret
   exact ⟨rfl, HLF.out⟩
end
end Go.Proofs.YtbimkhdiplnbfaaGreat
