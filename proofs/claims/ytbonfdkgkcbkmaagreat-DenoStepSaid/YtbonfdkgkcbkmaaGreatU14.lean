/- The law DenoStep, walked. -/
import Derived.Test.YtbonfdkgkcbkmaaGreatU5
import Derived.Test.YtbonfdkgkcbkmaaGreatU8
import Derived.Test.YtbonfdkgkcbkmaaGreatU10
import Derived.Test.YtbonfdkgkcbkmaaGreatU13
import Derived.Deep.CutRange
set_option linter.unusedVariables false
set_option linter.unusedSimpArgs false

namespace Go.Proofs.YtbonfdkgkcbkmaaGreat
set_option maxRecDepth 100000
open Go.RowKit Go.Shelf

attribute [local go_sem] Oper.semAt_some run_store_func
theorem over_bounds' {os : List OpM} {xs : List InM} (h : overB os xs = false) : os.length ≤ 50 ∧ xs.length ≤ 20 ∧ ∀ x ∈ xs, x.recs.length ≤ 200 := by
  unfold overB at h
  simp only [Bool.or_eq_false_iff, decide_eq_false_iff_not] at h
  refine ⟨by omega, by omega, fun x hx => ?_⟩
  have := h.2
  rw [List.any_eq_false] at this
  have := this x hx
  simp [wideRecs] at this
  omega
theorem setCells_full {w : World} {b : Nat} {t : TypeId} {cur : Array Value} (cs : List Value) (h : w.heap[b]? = some (.cells cur t (0, 0))) (hs : cur.size = cs.length) : (w.setCells b 0 cs).heap[b]? = some (.cells cs.toArray t (0, 0)) := by
  obtain ⟨cur', h1, h2, _, h4⟩ := setCells_blk cs 0 w cur h
  rw [h1]
  have e : cur' = cs.toArray := by
    apply Array.ext
    · simpa [h2] using hs
    · intro i hi1 hi2
      have hi3 : i < cs.length := by simpa using hi2
      have := h4 i (by omega) hi3
      rw [Nat.zero_add] at this
      rw [Array.getElem?_eq_getElem hi1] at this
      rw [List.getElem?_eq_getElem hi3] at this
      simpa using this
  rw [e]
abbrev zeroOff : Value := .agg #[.int .i64 0, .int .i64 0, .int .i64 0, .int .i64 0, .int .i64 0, .int .i64 0, .int .i64 0, .int .i64 0]
theorem infoOff : (Tryz.prog.info? 43).map (fun i => (i.zero, i.size, i.bytes)) = some (some zeroOff, 8, 64) := by kernel_rfl
theorem one8 {w : World} {a : Option Addr} {ats : List (List Int)} (_ : AtIn w a ats) : ∀ u ∈ (ats.map (fun o : List Int => o.map I)).flatten, u.oneCell' = true := by
  intro u hu
  obtain ⟨l, hl, hu⟩ := List.mem_flatten.1 hu
  obtain ⟨o, _, rfl⟩ := List.mem_map.1 hl
  obtain ⟨z, _, rfl⟩ := List.mem_map.1 hu
  rfl
theorem appAt {w : World} {B : Nat} {v : Value} {l : List (List Int)} (hn : 0 < l.length) (h : w.ownsRow B 43 8 v (0 + l.length) ([] ++ (l.map (fun o : List Int => o.map I)).flatten)) : ∃ g c, v = .slice (some ⟨g, 0, none⟩) l.length c ∧ B ≤ g ∧ w.ownsRow B 43 8 (.slice (some ⟨g, 0, none⟩) l.length c) l.length (l.map (fun o : List Int => o.map I)).flatten := by
  rw [Nat.zero_add, List.nil_append] at h
  obtain ⟨a, c, rfl⟩ := rowV h
  obtain ⟨g, rfl⟩ := own_head h hn
  exact ⟨g, c, rfl, (own_shape h).choose_spec.2.2.2.1, h⟩
theorem one3k (l : List KrV) : ∀ u ∈ (l.map KrV.cells).flatten, u.oneCell' = true := by
  intro u hu
  obtain ⟨y, hy, hu⟩ := List.mem_flatten.1 hu
  obtain ⟨r, _, rfl⟩ := List.mem_map.1 hy
  simp only [KrV.cells, List.mem_cons, List.mem_nil_iff, or_false] at hu
  rcases hu with rfl | rfl | rfl <;> rfl
theorem appKr1 {w : World} {B : Nat} {v : Value} {l : List KrV} (h : w.ownsRow B 57 3 v (0 + l.length) ([] ++ (l.map KrV.cells).flatten)) : ∃ a c, v = .slice a l.length c ∧ w.ownsRow B 57 3 (.slice a l.length c) l.length (l.map KrV.cells).flatten := by
  rw [Nat.zero_add, List.nil_append] at h
  obtain ⟨a, c, rfl⟩ := rowV h
  exact ⟨a, c, rfl, h⟩
theorem appKr2 {w : World} {B : Nat} {v : Value} {l m L : List KrV} (hL : L = l ++ m) (h : w.ownsRow B 57 3 v (l.length + m.length) ((l.map KrV.cells).flatten ++ (m.map KrV.cells).flatten)) : ∃ a c, v = .slice a L.length c ∧ KrIn w a L := by
  subst hL
  obtain ⟨a, c, rfl⟩ := rowV h
  refine ⟨a, c, by simp, KrIn.of (B := B) (c := c) ?_⟩
  show World.ownsRow _ _ _ _ _ _ _
  rw [List.map_append, List.flatten_append, List.length_append]
  exact h
theorem appKc2 {w : World} {B : Nat} {v : Value} {l m L : List KcV} (hL : L = l ++ m) (h : w.ownsRow B 63 4 v (l.length + m.length) ((l.map KcV.cells).flatten ++ (m.map KcV.cells).flatten)) : ∃ a c, v = .slice a L.length c ∧ KcsIn w a L := by
  subst hL
  obtain ⟨a, c, rfl⟩ := rowV h
  refine ⟨a, c, by simp, OwnC.in' (B := B) (c := c) ?_⟩
  show World.ownsRow _ _ _ _ _ _ _
  rw [List.map_append, List.flatten_append, List.length_append]
  exact h
theorem same_cell (c : CellV) (w : World) : (binOp .neq 61 (.agg #[.int .i64 c.count, .int .i64 c.sum]) (.agg #[.int .i64 c.count, .int .i64 c.sum])).run Tryz.prog w = .ok (.bool false) w := by
  simp [go_sem]
set_option maxHeartbeats 8000000 in
theorem step_walk {oa xa aa : Option Addr} {os : List OpM} {xs : List InM} {ats : List (List Int)} {oc xc ac : Nat} {n0 n1 : Int} (w : World) (h : OpsIn w oa os) (hx : InsIn w xa xs) (ho : os.length ≤ 140737488351232) (hxl : xs.length ≤ 140737488351232) (hoc : os.length ≤ oc) (hom : oc ≤ maxLen) (ha : AtIn w aa ats) (hoa : ∀ o ∈ os, o.a ≤ 9223372036854775807) :
    Calls Tryz.prog 3 #[wkV oa os oc xa xs xc, .slice aa ats.length ac, .agg #[.int .i64 n0, .int .i64 n1]] w fun e w' => e = .returned (.bool true) ∧ Upd0 w w' := by
  obtain ⟨b0, hb0⟩ : ∃ b0, b0 = w.heap.size := ⟨_, rfl⟩
  obtain ⟨w1, hw1⟩ : ∃ w1, w1 = (w.alloc (.cells #[.slice oa os.length oc, .slice xa xs.length xc] 27)).alloc (.cells #[.int .i64 n0, .int .i64 n1] 30) := ⟨_, rfl⟩
  have hu1 : Upd0 w w1 := by rw [hw1]; exact ((Upd.refl _ w).alloc _).alloc _
  have HX := Lib.hid (show w1.heap[b0]? = some (.cells #[.slice oa os.length oc, .slice xa xs.length xc] 27 (0, 0)) by rw [hw1, hb0]; exact (alloc_lt (by simp)).trans (alloc_at rfl))
  have HK := Lib.hid (show w1.heap[b0 + 1]? = some (.cells #[.int .i64 n0, .int .i64 n1] 30 (0, 0)) by rw [hw1, hb0]; exact alloc_at (by simp))
  have HW := Lib.hid (wakes_any w1)
  have HG1 := Lib.hid hu1
  have H := Lib.hid (h.kept hu1); have HI := Lib.hid (hx.kept hu1); have HA := Lib.hid (ha.kept hu1); have HOA := Lib.hid hoa
  clear h hx ha hoa hu1
  go_enter Tryz.func3, Tryz.ntmps3
  go_wp2_with (go_at_call 9; fail)
  rw [← hw1, ← hb0]
  clear hw1 hb0
  refine HW.out.mono ?_
  rintro _ w2 ⟨rfl, hu2⟩
  have HX2 := Lib.hid ((hu2.block _ (lt_of_heap HX.out) (fun e => e)).trans HX.out)
  have HK2 := Lib.hid ((hu2.block _ (lt_of_heap HK.out) (fun e => e)).trans HK.out)
  have HOV := Lib.hid (over_any (oc := oc) (xc := xc) w2 (H.out.kept hu2) (HI.out.kept hu2) ho hxl)
  have HU2 := Lib.hid hu2
  have HF2 := Lib.hid (HG1.out.trans hu2)
  clear hu2 HW HX HK
  obtain ⟨c0, c1⟩ := cells2_of HX2.out
  obtain ⟨ov, hov⟩ : ∃ ov, ov = overB os xs := ⟨_, rfl⟩
  rw [← hov] at HOV
  have HOVE := Lib.hid hov
  clear hov
  simp only []
  go_wp2_with (go_at_call 10; fail)
  refine HOV.out.mono ?_
  rintro _ w3 ⟨rfl, hu3⟩
  have HX3 := Lib.hid ((hu3.block _ (lt_of_heap HX2.out) (fun e => e)).trans HX2.out)
  have HK3 := Lib.hid ((hu3.block _ (lt_of_heap HK2.out) (fun e => e)).trans HK2.out)
  have HU3 := Lib.hid (HU2.out.trans hu3)
  have HF3 := Lib.hid (HF2.out.trans hu3)
  clear hu3 HOV HX2 HK2 c0 c1
  simp only []
  cases ov with
  | true =>
    go_wp2
    go_ret
    exact ⟨rfl, HF3.out⟩
  | false =>
    by_cases hal : 50 < ats.length
    · have hal' : (50 : Int) < ats.length := by omega
      go_wp2
      go_ret
      exact ⟨rfl, HF3.out⟩
    · have hal' : ¬ (50 : Int) < ats.length := by omega
      obtain ⟨hob, hxb, hrb⟩ := over_bounds' HOVE.out.symm
      have HRB := Lib.hid hrb
      have HWK := Lib.hid (show WkIn w3 oa os oc xa xs from ⟨H.out.kept HU3.out, hob, hoc, hom, HI.out.kept HU3.out, hxb⟩)
      have HA3 := Lib.hid (HA.out.kept HU3.out)
      have HC := Lib.hid (checkat_any (xc := xc) (ac := ac) w3 HWK.out HA3.out (by omega))
      obtain ⟨ck, hck⟩ : ∃ ck, ck = chkAt os xs ats := ⟨_, rfl⟩
      rw [← hck] at HC
      have HCK := Lib.hid hck
      obtain ⟨c0, c1⟩ := cells2_of HX3.out
      clear hck hrb H HI HA HOVE
      go_wp2_with (go_at_call 11; fail)
      refine HC.out.mono ?_
      rintro _ w4 ⟨rfl, hu4⟩
      have HF4 := Lib.hid (HF3.out.trans hu4)
      have HX4 := Lib.hid ((hu4.block _ (lt_of_heap HX3.out) (fun e => e)).trans HX3.out)
      have HK4 := Lib.hid ((hu4.block _ (lt_of_heap HK3.out) (fun e => e)).trans HK3.out)
      have HWK4 := Lib.hid (HWK.out.kept hu4); have HA4 := Lib.hid (HA3.out.kept hu4)
      clear c0 c1 hu4 HC HX3 HK3 HWK HA3
      obtain ⟨c0, c1⟩ := cells2_of HX4.out
      simp only []
      by_cases hz : ck = 0
      · subst hz
        by_cases hx0 : xs.length = 0
        · have hx0' : (xs.length : Int) = 0 := by omega
          go_wp2
          go_ret
          exact ⟨rfl, HF4.out⟩
        · have hx0' : ¬ (xs.length : Int) = 0 := by omega
          go_upto_region 5 with fail
          obtain ⟨i, hi, hil⟩ : ∃ i : Nat, Int.tmod (max n0 0) xs.length = i ∧ i < xs.length := ⟨(Int.tmod (max n0 0) xs.length).toNat, by
            have h1 : 0 ≤ Int.tmod (max n0 0) xs.length := Int.tmod_nonneg _ (by omega)
            omega, by
            have h1 : 0 ≤ Int.tmod (max n0 0) xs.length := Int.tmod_nonneg _ (by omega)
            have h2 : Int.tmod (max n0 0) xs.length < xs.length := Int.tmod_lt_of_pos _ (by omega)
            omega⟩
          have hop := ops_pos (chkAt_w HCK.out.symm).1 (Nat.pos_of_ne_zero hx0)
          have hos : ¬ os = [] := fun e => by rw [e] at hop; simp at hop
          obtain ⟨n, hn, hnl⟩ : ∃ n : Nat, Int.tmod (max n1 0) os.length = n ∧ n < os.length := ⟨(Int.tmod (max n1 0) os.length).toNat, by
            have h1 : 0 ≤ Int.tmod (max n1 0) os.length := Int.tmod_nonneg _ (by omega)
            omega, by
            have h1 : 0 ≤ Int.tmod (max n1 0) os.length := Int.tmod_nonneg _ (by omega)
            have h2 : Int.tmod (max n1 0) os.length < os.length := Int.tmod_lt_of_pos _ (by omega)
            omega⟩
          have hA : Upd0 w4 w4.drew := (Upd.refl _ _).drew
          refine wp_region_G 16 (fun W => Upd0 w4 W) [false, false, false, false, false, false, false, false, false, false, false, false, false, false, false, false, false] rfl (by kernel_rfl) ?_
          generalize w4.drew = wd at hA ⊢
          refine wpG_takeT (i := 0) (v := .pointer (some ⟨b0 + 1, 0, none⟩)) rfl (fun L hc h => (hc.waits (n := 16) (i := 0) (by kernel_rfl) h)) (by kernel_rfl) (fun _ _ _ h => h) hA (.inl ⟨rfl, fun w5 q1 => ?_⟩) ?_
          · go_simp
          simp only [Act.put, List.setIfInBounds_toArray, List.set]
          refine wpG_takeT (i := 1) (v := .int .i64 n0) rfl (fun L hc h => (hc.waits (n := 16) (i := 1) (by kernel_rfl) h)) (by kernel_rfl) (fun _ _ _ h => h) hA (.inl ⟨rfl, fun w5 q1 => ?_⟩) ?_
          · obtain ⟨c0, c1⟩ := cells2_of ((q1.block _ (lt_of_heap HK4.out) (fun e => e)).trans HK4.out)
            go_simp
          simp only [Act.put, List.setIfInBounds_toArray, List.set]
          refine wpG_takeT (i := 2) (v := .int .i64 (max n0 0)) rfl (fun L hc h => (hc.waits (n := 16) (i := 2) (by kernel_rfl) h)) (by kernel_rfl) (fun _ _ _ h => h) hA (.inl ⟨rfl, fun w5 q1 => ?_⟩) ?_
          · go_simp
          simp only [Act.put, List.setIfInBounds_toArray, List.set]
          refine wpG_takeT (i := 3) (v := .pointer (some ⟨b0, 1, none⟩)) rfl (fun L hc h => (hc.waits (n := 16) (i := 3) (by kernel_rfl) h)) (by kernel_rfl) (fun _ _ _ h => h) hA (.inl ⟨rfl, fun w5 q1 => ?_⟩) ?_
          · go_simp
          simp only [Act.put, List.setIfInBounds_toArray, List.set]
          refine wpG_takeT (i := 4) (v := .slice xa xs.length xc) rfl (fun L hc h => (hc.waits (n := 16) (i := 4) (by kernel_rfl) h)) (by kernel_rfl) (fun _ _ _ h => h) hA (.inl ⟨rfl, fun w5 q1 => ?_⟩) ?_
          · obtain ⟨c0, c1⟩ := cells2_of ((q1.block _ (lt_of_heap HX4.out) (fun e => e)).trans HX4.out)
            go_simp
          simp only [Act.put, List.setIfInBounds_toArray, List.set]
          refine wpG_takeT (i := 5) (v := .int .i64 xs.length) rfl (fun L hc h => (hc.waits (n := 16) (i := 5) (by kernel_rfl) h)) (by kernel_rfl) (fun _ _ _ h => h) hA (.inl ⟨rfl, fun w5 q1 => ?_⟩) ?_
          · go_simp
          simp only [Act.put, List.setIfInBounds_toArray, List.set]
          refine wpG_takeT (i := 6) (v := .int .i64 i) rfl (fun L hc h => (hc.waits (n := 16) (i := 6) (by kernel_rfl) h)) (by kernel_rfl) (fun _ _ _ h => h) hA (.inl ⟨rfl, fun w5 q1 => ?_⟩) ?_
          · go_simp
          simp only [Act.put, List.setIfInBounds_toArray, List.set]
          refine wpG_takeT (i := 7) (v := .pointer (some ⟨b0 + 1, 1, none⟩)) rfl (fun L hc h => (hc.waits (n := 16) (i := 7) (by kernel_rfl) h)) (by kernel_rfl) (fun _ _ _ h => h) hA (.inl ⟨rfl, fun w5 q1 => ?_⟩) ?_
          · go_simp
          simp only [Act.put, List.setIfInBounds_toArray, List.set]
          refine wpG_takeT (i := 8) (v := .int .i64 n1) rfl (fun L hc h => (hc.waits (n := 16) (i := 8) (by kernel_rfl) h)) (by kernel_rfl) (fun _ _ _ h => h) hA (.inl ⟨rfl, fun w5 q1 => ?_⟩) ?_
          · obtain ⟨c0, c1⟩ := cells2_of ((q1.block _ (lt_of_heap HK4.out) (fun e => e)).trans HK4.out)
            go_simp
          simp only [Act.put, List.setIfInBounds_toArray, List.set]
          refine wpG_takeT (i := 9) (v := .int .i64 (max n1 0)) rfl (fun L hc h => (hc.waits (n := 16) (i := 9) (by kernel_rfl) h)) (by kernel_rfl) (fun _ _ _ h => h) hA (.inl ⟨rfl, fun w5 q1 => ?_⟩) ?_
          · go_simp
          simp only [Act.put, List.setIfInBounds_toArray, List.set]
          refine wpG_takeT (i := 10) (v := .pointer (some ⟨b0, 0, none⟩)) rfl (fun L hc h => (hc.waits (n := 16) (i := 10) (by kernel_rfl) h)) (by kernel_rfl) (fun _ _ _ h => h) hA (.inl ⟨rfl, fun w5 q1 => ?_⟩) ?_
          · go_simp
          simp only [Act.put, List.setIfInBounds_toArray, List.set]
          refine wpG_takeT (i := 11) (v := .pointer (some ⟨b0, 0, none⟩)) rfl (fun L hc h => (hc.waits (n := 16) (i := 11) (by kernel_rfl) h)) (by kernel_rfl) (fun _ _ _ h => h) hA (.inl ⟨rfl, fun w5 q1 => ?_⟩) ?_
          · go_simp
          simp only [Act.put, List.setIfInBounds_toArray, List.set]
          refine wpG_takeT (i := 12) (v := .slice oa os.length oc) rfl (fun L hc h => (hc.waits (n := 16) (i := 12) (by kernel_rfl) h)) (by kernel_rfl) (fun _ _ _ h => h) hA (.inl ⟨rfl, fun w5 q1 => ?_⟩) ?_
          · obtain ⟨c0, c1⟩ := cells2_of ((q1.block _ (lt_of_heap HX4.out) (fun e => e)).trans HX4.out)
            go_simp
          simp only [Act.put, List.setIfInBounds_toArray, List.set]
          refine wpG_takeT (i := 13) (v := .int .i64 os.length) rfl (fun L hc h => (hc.waits (n := 16) (i := 13) (by kernel_rfl) h)) (by kernel_rfl) (fun _ _ _ h => h) hA (.inl ⟨rfl, fun w5 q1 => ?_⟩) ?_
          · go_simp
          simp only [Act.put, List.setIfInBounds_toArray, List.set]
          refine wpG_takeT (i := 14) (v := .int .i64 n) rfl (fun L hc h => (hc.waits (n := 16) (i := 14) (by kernel_rfl) h)) (by kernel_rfl) (fun _ _ _ h => h) hA (.inl ⟨rfl, fun w5 q1 => ?_⟩) ?_
          · go_simp
          simp only [Act.put, List.setIfInBounds_toArray, List.set]
          refine wpG_takeT (i := 15) (v := .int .i64 i) rfl (fun L hc h => (hc.waits (n := 16) (i := 15) (by kernel_rfl) h)) (by kernel_rfl) (fun _ _ _ h => h) hA (.inl ⟨rfl, fun w5 q1 => ?_⟩) ?_
          · go_simp
          simp only [Act.put, List.setIfInBounds_toArray, List.set]
          refine wpG_tail_lit (k := 16) rfl rfl (by kernel_rfl) ?_
          simp only [List.drop]
          have HG5 := Lib.hid hA
          clear hA
          obtain ⟨x, hx⟩ : ∃ x, xs[i]? = some x := ⟨_, List.getElem?_eq_getElem hil⟩
          have hlen := (chkAt_w HCK.out.symm).2
          obtain ⟨o, ho'⟩ : ∃ o, ats[i]? = some o := ⟨_, List.getElem?_eq_getElem (by omega)⟩
          have h8 := HA4.out.len o (List.mem_of_getElem? ho')
          obtain ⟨hSL, hco⟩ := step_law HCK.out.symm hx ho' h8
          have HSL := Lib.hid hSL
          clear hSL
          obtain ⟨⟨xb, xf, rfl, hq1, hq2⟩, hrin, hrl⟩ := HWK4.out.ins.at hx
          obtain ⟨ab, af, o0, o1, o2, o3, o4, o5, o6, o7, rfl, he, hq3⟩ := HA4.out.at ho'
          clear hq1 hq2 hq3
          have HXI := Lib.hid hx; have HOI := Lib.hid ho'; have HE8 := Lib.hid he; have H8 := Lib.hid h8
          have HNX := Lib.hid (fun (W : World) (hW : Upd0 w4 W) => knext_any x o 0 1 W ((HWK4.out.kept hW).ins.at hx).2.1 hrl h8)
          have HRD := Lib.hid (fun (W : World) (hW : Upd0 w4 W) => kread_any x o 0 1 W ((HWK4.out.kept hW).ins.at hx).2.1 hrl h8)
          rw [read_eq hco] at HRD
          simp only [he] at HNX HRD
          have hne := next_err hco
          have HNO := Lib.hid (next_own hco)
          obtain ⟨nr, hnr⟩ : ∃ nr, nr = NextR x o 0 1 := ⟨_, rfl⟩
          rw [← hnr] at HNX HNO hne
          obtain ⟨⟨ns, nk, nv⟩, ng, nb, ne⟩ := nr
          simp only at HNX HNO hne
          subst hne
          obtain ⟨np, hnp⟩ : ∃ np, np = nextL o x.recs 0 1 := ⟨_, rfl⟩
          rw [← hnp] at HRD HNO HSL
          obtain ⟨p0, p1, p2, p3, p4, p5, p6, p7, he2⟩ := eight (o := readO o np) (readO_len h8 np)
          have HE9 := Lib.hid he2
          simp only [he2] at HRD
          have hil' : i < ats.length := by omega
          have hiI : (i : Int) < xs.length := by omega
          have hiA : (i : Int) < ats.length := by omega
          have HLN := Lib.hid hlen
          clear hlen c0 c1
          clear hx ho' h8 hco he he2 hrin hrl hnr hnp hi hn
          go_upto_region 6 with fail
          go_cut [9, 10, 11, 12] from 67 to 81 (fun v9 v10 v11 v12 wx => ∃ bn : Nat, v9 = .pointer (some ⟨bn, 0, none⟩) ∧ wx.heap[bn]? = some (.cells #[.int .i64 ns, .int .i64 nk, .int .i64 nv] 36 (0, 0)) ∧ v11 = .bool nb ∧ v12 = .int .i64 0 ∧ Upd0 wd wx)
          case first =>
            have hA : Upd0 wd wd.drew := (Upd.refl _ _).drew
            refine wp_region_G 19 (fun W => Upd0 wd W) [false, false, false, false, false, false, false, false, false, false, false, false, false, false, false, false, false, false, false, false] rfl (by kernel_rfl) ?_
            generalize wd.drew = we at hA ⊢
            refine wpG_takeT (i := 0) (v := .pointer (some ⟨b0, 1, none⟩)) rfl (fun L hc h => (hc.waits (n := 19) (i := 0) (by kernel_rfl) h)) (by kernel_rfl) (fun _ _ _ h => h) hA (.inl ⟨rfl, fun w5 q1 => ?_⟩) ?_
            · go_simp
            simp only [Act.put, List.setIfInBounds_toArray, List.set]
            refine wpG_takeT (i := 1) (v := .slice (some ⟨xb, xf, none⟩) xs.length xc) rfl (fun L hc h => (hc.waits (n := 19) (i := 1) (by kernel_rfl) h)) (by kernel_rfl) (fun _ _ _ h => h) hA (.inl ⟨rfl, fun w5 q1 => ?_⟩) ?_
            · obtain ⟨c0, c1⟩ := cells2_of (((HG5.out.trans q1).block _ (lt_of_heap HX4.out) (fun e => e)).trans HX4.out)
              go_simp
            simp only [Act.put, List.setIfInBounds_toArray, List.set]
            refine wpG_takeT (i := 2) (v := .int .i64 i) rfl (fun L hc h => (hc.waits (n := 19) (i := 2) (by kernel_rfl) h)) (by kernel_rfl) (fun _ _ _ h => h) hA (.inl ⟨rfl, fun w5 q1 => ?_⟩) ?_
            · go_simp
            simp only [Act.put, List.setIfInBounds_toArray, List.set]
            refine wpG_takeT (i := 3) (v := .pointer (some ⟨xb, xf + i * 2, none⟩)) rfl (fun L hc h => (hc.waits (n := 19) (i := 3) (by kernel_rfl) h)) (by kernel_rfl) (fun _ _ _ h => h) hA (.inl ⟨rfl, fun w5 q1 => ?_⟩) ?_
            · go_simp
            simp only [Act.put, List.setIfInBounds_toArray, List.set]
            refine wpG_takeT (i := 4) (v := .agg #[.int .i64 x.src, .slice x.ra x.recs.length x.rc]) rfl (fun L hc h => (hc.waits (n := 19) (i := 4) (by kernel_rfl) h)) (by kernel_rfl) (fun _ _ _ h => h) hA (.inl ⟨rfl, fun w5 q1 => ?_⟩) ?_
            · have HWc := HWK4.out.kept (HG5.out.trans q1)
              obtain ⟨⟨xb', xf', e', cx, cy⟩, _⟩ := HWc.ins.at HXI.out
              injection e' with e'
              injection e' with e1 e2
              subst e1 e2
              go_simp
            simp only [Act.put, List.setIfInBounds_toArray, List.set]
            refine wpG_takeT (i := 5) (v := .slice (some ⟨ab, af, none⟩) ats.length ac) rfl (fun L hc h => (hc.waits (n := 19) (i := 5) (by kernel_rfl) h)) (by kernel_rfl) (fun _ _ _ h => h) hA (.inl ⟨rfl, fun w5 q1 => ?_⟩) ?_
            · go_simp
            simp only [Act.put, List.setIfInBounds_toArray, List.set]
            refine wpG_takeT (i := 6) (v := .int .i64 i) rfl (fun L hc h => (hc.waits (n := 19) (i := 6) (by kernel_rfl) h)) (by kernel_rfl) (fun _ _ _ h => h) hA (.inl ⟨rfl, fun w5 q1 => ?_⟩) ?_
            · go_simp
            simp only [Act.put, List.setIfInBounds_toArray, List.set]
            refine wpG_takeT (i := 7) (v := .pointer (some ⟨ab, af + i * 8, none⟩)) rfl (fun L hc h => (hc.waits (n := 19) (i := 7) (by kernel_rfl) h)) (by kernel_rfl) (fun _ _ _ h => h) hA (.inl ⟨rfl, fun w5 q1 => ?_⟩) ?_
            · go_simp
            simp only [Act.put, List.setIfInBounds_toArray, List.set]
            refine wpG_takeT (i := 8) (v := .agg #[.int .i64 o0, .int .i64 o1, .int .i64 o2, .int .i64 o3, .int .i64 o4, .int .i64 o5, .int .i64 o6, .int .i64 o7]) rfl (fun L hc h => (hc.waits (n := 19) (i := 8) (by kernel_rfl) h)) (by kernel_rfl) (fun _ _ _ h => h) hA (.inl ⟨rfl, fun w5 q1 => ?_⟩) ?_
            · have HAc := HA4.out.kept (HG5.out.trans q1)
              obtain ⟨ab', af', p0, p1, p2, p3, p4, p5, p6, p7, e', he', a0, a1, a2, a3, a4, a5, a6, a7⟩ := HAc.at HOI.out
              injection e' with e'
              injection e' with e1 e2
              subst e1 e2
              rw [HE8.out] at he'
              injection he' with he'
              simp only [List.cons.injEq, Value.int.injEq, and_true, true_and] at he'
              obtain ⟨rfl, rfl, rfl, rfl, rfl, rfl, rfl, rfl⟩ := he'
              go_simp
            simp only [Act.put, List.setIfInBounds_toArray, List.set]
            refine wpG_do2 (i := 9) (j := 15) rfl rfl (by kernel_rfl) rfl rfl (fun K hK => ?_) (fun K hK => ?_)
            · have HKK := Lib.hid hK
              clear hK
              go_step
              (with_reducible refine (HNX.out _ (HG5.out.trans hA)).mono ?_)
              rintro e w7 ⟨rfl, hu7⟩
              have hA := hA.trans hu7
              clear hu7
              simp only []
              refine HKK.out _ _ hA ?_
              clear HKK
              simp only [Act.put, List.setIfInBounds_toArray, List.set]
              refine wpG_takeT (i := 10) (v := .tuple #[.agg #[.int .i64 ns, .int .i64 nk, .int .i64 nv], .int .i64 ng, .bool nb, .int .i64 0]) rfl (fun L hc h => (hc.waits (n := 19) (i := 10) (by kernel_rfl) h)) (by kernel_rfl) (fun _ _ _ h => h) hA (.inl ⟨rfl, fun w5 q1 => ?_⟩) ?_
              · go_simp
              simp only [Act.put, List.setIfInBounds_toArray, List.set]
              refine wpG_takeT (i := 11) (v := .agg #[.int .i64 ns, .int .i64 nk, .int .i64 nv]) rfl (fun L hc h => (hc.waits (n := 19) (i := 11) (by kernel_rfl) h)) (by kernel_rfl) (fun _ _ _ h => h) hA (.inl ⟨rfl, fun w5 q1 => ?_⟩) ?_
              · go_simp
              simp only [Act.put, List.setIfInBounds_toArray, List.set]
              refine wpG_takeT (i := 12) (v := .int .i64 ng) rfl (fun L hc h => (hc.waits (n := 19) (i := 12) (by kernel_rfl) h)) (by kernel_rfl) (fun _ _ _ h => h) hA (.inl ⟨rfl, fun w5 q1 => ?_⟩) ?_
              · go_simp
              simp only [Act.put, List.setIfInBounds_toArray, List.set]
              refine wpG_takeT (i := 13) (v := .bool nb) rfl (fun L hc h => (hc.waits (n := 19) (i := 13) (by kernel_rfl) h)) (by kernel_rfl) (fun _ _ _ h => h) hA (.inl ⟨rfl, fun w5 q1 => ?_⟩) ?_
              · go_simp
              simp only [Act.put, List.setIfInBounds_toArray, List.set]
              refine wpG_takeT (i := 14) (v := .int .i64 0) rfl (fun L hc h => (hc.waits (n := 19) (i := 14) (by kernel_rfl) h)) (by kernel_rfl) (fun _ _ _ h => h) hA (.inl ⟨rfl, fun w5 q1 => ?_⟩) ?_
              · go_simp
              simp only [Act.put, List.setIfInBounds_toArray, List.set]
              refine wpG_do (i := 15) rfl (by kernel_rfl) rfl (fun K hK => ?_)
              have HKK := Lib.hid hK
              clear hK
              go_step
              have hZ0 := hA.size
              have HX := Lib.hid (alloc_at (w := w7) (o := .cells #[.int .i64 0, .int .i64 0, .int .i64 0] 36) rfl)
              have hA := hA.alloc (.cells #[.int .i64 0, .int .i64 0, .int .i64 0] 36)
              refine HKK.out _ _ hA ?_
              clear HKK
              simp only [Act.put, List.setIfInBounds_toArray, List.set]
              generalize w7.alloc (.cells #[.int .i64 0, .int .i64 0, .int .i64 0] 36) = w7X at HX hA ⊢
              generalize w7.heap.size = bo at HX hZ0 ⊢
              refine wpG_doIf (i := 16) rfl (by kernel_rfl) rfl (fun K hK => ?_)
              have HKK := Lib.hid hK
              clear hK
              refine wp_store_mid 36 (.tmp 9) (.tmp 78) rfl bo 0 #[.int .i64 ns, .int .i64 nk, .int .i64 nv] rfl rfl (by have q := there_block HX.out; exact q) sizeRec (by simp [Value.oneCell']) ?_
              have HY := Lib.hid (setCells_full [.int .i64 ns, .int .i64 nk, .int .i64 nv] HX.out rfl)
              have hA := hA.cut (upd_setCells w7X bo 0 [.int .i64 ns, .int .i64 nk, .int .i64 nv]) (fun q hq => by omega)
              refine HKK.out _ _ hA ?_
              clear HKK HX
              simp only [Act.put, List.setIfInBounds_toArray, List.set]
              refine wpG_takeT (i := 17) (v := .int .i64 ng) rfl (fun L hc h => (hc.waits (n := 19) (i := 17) (by kernel_rfl) h)) (by kernel_rfl) (fun _ _ _ h => h) hA (.inl ⟨rfl, fun w5 q1 => ?_⟩) ?_
              · go_simp
              simp only [Act.put, List.setIfInBounds_toArray, List.set]
              refine wpG_takeT (i := 18) (v := .bool nb) rfl (fun L hc h => (hc.waits (n := 19) (i := 18) (by kernel_rfl) h)) (by kernel_rfl) (fun _ _ _ h => h) hA (.inl ⟨rfl, fun w5 q1 => ?_⟩) ?_
              · go_simp
              simp only [Act.put, List.setIfInBounds_toArray, List.set]
              refine wpG_tail_lit (k := 19) rfl rfl (by kernel_rfl) ?_
              simp only [List.drop]
              go_wp2
              go_meet
              case rel => exact ⟨bo, rfl, HY.out, rfl, rfl, hA⟩
            · have HKK := Lib.hid hK
              clear hK
              go_step
              have hZ0 := hA.size
              have HX := Lib.hid (alloc_at (w := we) (o := .cells #[.int .i64 0, .int .i64 0, .int .i64 0] 36) rfl)
              have hA := hA.alloc (.cells #[.int .i64 0, .int .i64 0, .int .i64 0] 36)
              refine HKK.out _ _ hA ?_
              clear HKK
              simp only [Act.put, List.setIfInBounds_toArray, List.set]
              generalize we.alloc (.cells #[.int .i64 0, .int .i64 0, .int .i64 0] 36) = weX at HX hA ⊢
              generalize we.heap.size = bo at HX hZ0 ⊢
              refine wpG_do (i := 9) rfl (by kernel_rfl) rfl (fun K hK => ?_)
              have HKK := Lib.hid hK
              clear hK
              go_step
              (with_reducible refine (HNX.out _ (HG5.out.trans hA)).mono ?_)
              rintro e w7 ⟨rfl, hu7⟩
              have hA := hA.trans hu7
              have HX := Lib.hid ((hu7.block _ (lt_of_heap HX.out) (fun e => e)).trans HX.out)
              clear hu7
              simp only []
              refine HKK.out _ _ hA ?_
              clear HKK
              simp only [Act.put, List.setIfInBounds_toArray, List.set]
              refine wpG_takeT (i := 10) (v := .tuple #[.agg #[.int .i64 ns, .int .i64 nk, .int .i64 nv], .int .i64 ng, .bool nb, .int .i64 0]) rfl (fun L hc h => (hc.waits (n := 19) (i := 10) (by kernel_rfl) h)) (by kernel_rfl) (fun _ _ _ h => h) hA (.inl ⟨rfl, fun w5 q1 => ?_⟩) ?_
              · go_simp
              simp only [Act.put, List.setIfInBounds_toArray, List.set]
              refine wpG_takeT (i := 11) (v := .agg #[.int .i64 ns, .int .i64 nk, .int .i64 nv]) rfl (fun L hc h => (hc.waits (n := 19) (i := 11) (by kernel_rfl) h)) (by kernel_rfl) (fun _ _ _ h => h) hA (.inl ⟨rfl, fun w5 q1 => ?_⟩) ?_
              · go_simp
              simp only [Act.put, List.setIfInBounds_toArray, List.set]
              refine wpG_takeT (i := 12) (v := .int .i64 ng) rfl (fun L hc h => (hc.waits (n := 19) (i := 12) (by kernel_rfl) h)) (by kernel_rfl) (fun _ _ _ h => h) hA (.inl ⟨rfl, fun w5 q1 => ?_⟩) ?_
              · go_simp
              simp only [Act.put, List.setIfInBounds_toArray, List.set]
              refine wpG_takeT (i := 13) (v := .bool nb) rfl (fun L hc h => (hc.waits (n := 19) (i := 13) (by kernel_rfl) h)) (by kernel_rfl) (fun _ _ _ h => h) hA (.inl ⟨rfl, fun w5 q1 => ?_⟩) ?_
              · go_simp
              simp only [Act.put, List.setIfInBounds_toArray, List.set]
              refine wpG_takeT (i := 14) (v := .int .i64 0) rfl (fun L hc h => (hc.waits (n := 19) (i := 14) (by kernel_rfl) h)) (by kernel_rfl) (fun _ _ _ h => h) hA (.inl ⟨rfl, fun w5 q1 => ?_⟩) ?_
              · go_simp
              simp only [Act.put, List.setIfInBounds_toArray, List.set]
              refine wpG_doIf (i := 16) rfl (by kernel_rfl) rfl (fun K hK => ?_)
              have HKK := Lib.hid hK
              clear hK
              refine wp_store_mid 36 (.tmp 9) (.tmp 78) rfl bo 0 #[.int .i64 ns, .int .i64 nk, .int .i64 nv] rfl rfl (by have q := there_block HX.out; exact q) sizeRec (by simp [Value.oneCell']) ?_
              have HY := Lib.hid (setCells_full [.int .i64 ns, .int .i64 nk, .int .i64 nv] HX.out rfl)
              have hA := hA.cut (upd_setCells w7 bo 0 [.int .i64 ns, .int .i64 nk, .int .i64 nv]) (fun q hq => by omega)
              refine HKK.out _ _ hA ?_
              clear HKK HX
              simp only [Act.put, List.setIfInBounds_toArray, List.set]
              refine wpG_takeT (i := 17) (v := .int .i64 ng) rfl (fun L hc h => (hc.waits (n := 19) (i := 17) (by kernel_rfl) h)) (by kernel_rfl) (fun _ _ _ h => h) hA (.inl ⟨rfl, fun w5 q1 => ?_⟩) ?_
              · go_simp
              simp only [Act.put, List.setIfInBounds_toArray, List.set]
              refine wpG_takeT (i := 18) (v := .bool nb) rfl (fun L hc h => (hc.waits (n := 19) (i := 18) (by kernel_rfl) h)) (by kernel_rfl) (fun _ _ _ h => h) hA (.inl ⟨rfl, fun w5 q1 => ?_⟩) ?_
              · go_simp
              simp only [Act.put, List.setIfInBounds_toArray, List.set]
              refine wpG_tail_lit (k := 19) rfl rfl (by kernel_rfl) ?_
              simp only [List.drop]
              go_wp2
              go_meet
              case rel => exact ⟨bo, rfl, HY.out, rfl, rfl, hA⟩
          case rest =>
            obtain ⟨bn, rfl, hn6, rfl, rfl, hu6⟩ := hcut
            generalize wc = w6 at hn6 hu6 ⊢
            have HN6 := Lib.hid hn6
            have HG6 := Lib.hid (HG5.out.trans hu6)
            obtain ⟨next, hnext⟩ : ∃ next, next = ats.set i (readO o np) := ⟨_, rfl⟩
            rw [← hnext] at HSL
            have HNE := Lib.hid hnext
            have hnlen : next.length = ats.length := by rw [hnext]; simp
            have HNLEN := Lib.hid hnlen
            obtain ⟨w7, hw7⟩ : ∃ w7, w7 = w6.alloc (.cells #[] 43) := ⟨_, rfl⟩
            have hu7 : Upd0 w6 w7 := by rw [hw7]; exact (Upd.refl _ w6).alloc _
            have HE7 := Lib.hid (show w7.ownsRow w6.heap.size 43 8 (.slice (some ⟨w6.heap.size, 0, none⟩) 0 0) 0 [] by rw [hw7]; exact own_empty w6 43 8 (Nat.le_refl _))
            have HI7 := Lib.hid (HA4.out.kept (HG6.out.trans hu7))
            have HZ7 := Lib.hid hu7.size
            have HU7 := Lib.hid hu7
            have HO8 := Lib.hid (one8 HA4.out)
            clear hn6 hu6 hu7 hnext hnlen
            go_upto_region 8 with (at_builtin; (obtain ⟨i0, hi, hz0, hs, hb⟩ := info_parts infoOff; rw [← hw7]; refine wpList_appR rfl (.tmp 82) (.tmp 83) 29 rfl w6.heap.size 43 i0 zeroOff 8 64 Tryz.underlying29 hi hz0 hs hb rfl (by decide) (.slice (some ⟨w6.heap.size, 0, none⟩) 0 0) 0 [] rfl HE7.out (some ⟨ab, af, none⟩) ats.length ac (ats.map (fun o : List Int => o.map I)) rfl HI7.out (by simp) HO8.out (by unfold maxLen; omega) (by omega) HZ7.out ?_; clear hi hz0 hs hb; intro v8 w8 hown8 hu8; obtain ⟨g8, c8, rfl, hg8, hown8⟩ := appAt (by omega) hown8; have HOW8 := Lib.hid hown8; have HG8' := Lib.hid hg8; have HU8 := Lib.hid (HU7.out.cut hu8 (fun j hj => by simp [Value.ownBlock] at hj; omega)); clear hown8 hu8 hg8))
            clear hw7
            have HG8 := Lib.hid (HG6.out.trans HU8.out)
            go_cut [14, 15] from 85 to 97 (fun v14 v15 wx => v15 = .int .i64 0 ∧ (∃ bo : Nat, v14 = .pointer (some ⟨bo, 0, none⟩) ∧ wx.heap[bo]? = some (.cells #[.int .i64 p0, .int .i64 p1, .int .i64 p2, .int .i64 p3, .int .i64 p4, .int .i64 p5, .int .i64 p6, .int .i64 p7] 43 (0, 0))) ∧ Upd0 w8 wx)
            case first =>
              have hA : Upd0 w8 w8.drew := (Upd.refl _ _).drew
              refine wp_region_G 15 (fun W => Upd0 w8 W) [false, false, false, false, false, false, false, false, false, false, false, false, false, false, false, false] rfl (by kernel_rfl) ?_
              generalize w8.drew = we at hA ⊢
              refine wpG_takeT (i := 0) (v := .pointer (some ⟨b0, 1, none⟩)) rfl (fun L hc h => (hc.waits (n := 15) (i := 0) (by kernel_rfl) h)) (by kernel_rfl) (fun _ _ _ h => h) hA (.inl ⟨rfl, fun w5 q1 => ?_⟩) ?_
              · go_simp
              simp only [Act.put, List.setIfInBounds_toArray, List.set]
              refine wpG_takeT (i := 1) (v := .slice (some ⟨xb, xf, none⟩) xs.length xc) rfl (fun L hc h => (hc.waits (n := 15) (i := 1) (by kernel_rfl) h)) (by kernel_rfl) (fun _ _ _ h => h) hA (.inl ⟨rfl, fun w5 q1 => ?_⟩) ?_
              · obtain ⟨c0, c1⟩ := cells2_of (((HG8.out.trans q1).block _ (lt_of_heap HX4.out) (fun e => e)).trans HX4.out)
                go_simp
              simp only [Act.put, List.setIfInBounds_toArray, List.set]
              refine wpG_takeT (i := 2) (v := .int .i64 i) rfl (fun L hc h => (hc.waits (n := 15) (i := 2) (by kernel_rfl) h)) (by kernel_rfl) (fun _ _ _ h => h) hA (.inl ⟨rfl, fun w5 q1 => ?_⟩) ?_
              · go_simp
              simp only [Act.put, List.setIfInBounds_toArray, List.set]
              refine wpG_takeT (i := 3) (v := .pointer (some ⟨xb, xf + i * 2, none⟩)) rfl (fun L hc h => (hc.waits (n := 15) (i := 3) (by kernel_rfl) h)) (by kernel_rfl) (fun _ _ _ h => h) hA (.inl ⟨rfl, fun w5 q1 => ?_⟩) ?_
              · go_simp
              simp only [Act.put, List.setIfInBounds_toArray, List.set]
              refine wpG_takeT (i := 4) (v := .agg #[.int .i64 x.src, .slice x.ra x.recs.length x.rc]) rfl (fun L hc h => (hc.waits (n := 15) (i := 4) (by kernel_rfl) h)) (by kernel_rfl) (fun _ _ _ h => h) hA (.inl ⟨rfl, fun w5 q1 => ?_⟩) ?_
              · have HWc := HWK4.out.kept (HG8.out.trans q1)
                obtain ⟨⟨xb', xf', e', cx, cy⟩, _⟩ := HWc.ins.at HXI.out
                injection e' with e'
                injection e' with e1 e2
                subst e1 e2
                go_simp
              simp only [Act.put, List.setIfInBounds_toArray, List.set]
              refine wpG_takeT (i := 5) (v := .slice (some ⟨ab, af, none⟩) ats.length ac) rfl (fun L hc h => (hc.waits (n := 15) (i := 5) (by kernel_rfl) h)) (by kernel_rfl) (fun _ _ _ h => h) hA (.inl ⟨rfl, fun w5 q1 => ?_⟩) ?_
              · go_simp
              simp only [Act.put, List.setIfInBounds_toArray, List.set]
              refine wpG_takeT (i := 6) (v := .int .i64 i) rfl (fun L hc h => (hc.waits (n := 15) (i := 6) (by kernel_rfl) h)) (by kernel_rfl) (fun _ _ _ h => h) hA (.inl ⟨rfl, fun w5 q1 => ?_⟩) ?_
              · go_simp
              simp only [Act.put, List.setIfInBounds_toArray, List.set]
              refine wpG_takeT (i := 7) (v := .pointer (some ⟨ab, af + i * 8, none⟩)) rfl (fun L hc h => (hc.waits (n := 15) (i := 7) (by kernel_rfl) h)) (by kernel_rfl) (fun _ _ _ h => h) hA (.inl ⟨rfl, fun w5 q1 => ?_⟩) ?_
              · go_simp
              simp only [Act.put, List.setIfInBounds_toArray, List.set]
              refine wpG_takeT (i := 8) (v := .agg #[.int .i64 o0, .int .i64 o1, .int .i64 o2, .int .i64 o3, .int .i64 o4, .int .i64 o5, .int .i64 o6, .int .i64 o7]) rfl (fun L hc h => (hc.waits (n := 15) (i := 8) (by kernel_rfl) h)) (by kernel_rfl) (fun _ _ _ h => h) hA (.inl ⟨rfl, fun w5 q1 => ?_⟩) ?_
              · have HAc := HA4.out.kept (HG8.out.trans q1)
                obtain ⟨ab', af', p0, p1, p2, p3, p4, p5, p6, p7, e', he', a0, a1, a2, a3, a4, a5, a6, a7⟩ := HAc.at HOI.out
                injection e' with e'
                injection e' with e1 e2
                subst e1 e2
                rw [HE8.out] at he'
                injection he' with he'
                simp only [List.cons.injEq, Value.int.injEq, and_true, true_and] at he'
                obtain ⟨rfl, rfl, rfl, rfl, rfl, rfl, rfl, rfl⟩ := he'
                go_simp
              simp only [Act.put, List.setIfInBounds_toArray, List.set]
              refine wpG_do2 (i := 9) (j := 13) rfl rfl (by kernel_rfl) rfl rfl (fun K hK => ?_) (fun K hK => ?_)
              · have HKK := Lib.hid hK
                clear hK
                go_step
                (with_reducible refine (HRD.out _ (HG8.out.trans hA)).mono ?_)
                rintro e w7 ⟨rfl, hu7⟩
                have hA := hA.trans hu7
                clear hu7
                simp only []
                refine HKK.out _ _ hA ?_
                clear HKK
                simp only [Act.put, List.setIfInBounds_toArray, List.set]
                refine wpG_takeT (i := 10) (v := .tuple #[.agg #[.int .i64 p0, .int .i64 p1, .int .i64 p2, .int .i64 p3, .int .i64 p4, .int .i64 p5, .int .i64 p6, .int .i64 p7], .int .i64 0]) rfl (fun L hc h => (hc.waits (n := 15) (i := 10) (by kernel_rfl) h)) (by kernel_rfl) (fun _ _ _ h => h) hA (.inl ⟨rfl, fun w5 q1 => ?_⟩) ?_
                · go_simp
                simp only [Act.put, List.setIfInBounds_toArray, List.set]
                refine wpG_takeT (i := 11) (v := .agg #[.int .i64 p0, .int .i64 p1, .int .i64 p2, .int .i64 p3, .int .i64 p4, .int .i64 p5, .int .i64 p6, .int .i64 p7]) rfl (fun L hc h => (hc.waits (n := 15) (i := 11) (by kernel_rfl) h)) (by kernel_rfl) (fun _ _ _ h => h) hA (.inl ⟨rfl, fun w5 q1 => ?_⟩) ?_
                · go_simp
                simp only [Act.put, List.setIfInBounds_toArray, List.set]
                refine wpG_takeT (i := 12) (v := .int .i64 0) rfl (fun L hc h => (hc.waits (n := 15) (i := 12) (by kernel_rfl) h)) (by kernel_rfl) (fun _ _ _ h => h) hA (.inl ⟨rfl, fun w5 q1 => ?_⟩) ?_
                · go_simp
                simp only [Act.put, List.setIfInBounds_toArray, List.set]
                refine wpG_do (i := 13) rfl (by kernel_rfl) rfl (fun K hK => ?_)
                have HKK := Lib.hid hK
                clear hK
                go_step
                have hZ0 := hA.size
                have HX := Lib.hid (alloc_at (w := w7) (o := .cells #[.int .i64 0, .int .i64 0, .int .i64 0, .int .i64 0, .int .i64 0, .int .i64 0, .int .i64 0, .int .i64 0] 43) rfl)
                have hA := hA.alloc (.cells #[.int .i64 0, .int .i64 0, .int .i64 0, .int .i64 0, .int .i64 0, .int .i64 0, .int .i64 0, .int .i64 0] 43)
                refine HKK.out _ _ hA ?_
                clear HKK
                simp only [Act.put, List.setIfInBounds_toArray, List.set]
                generalize w7.alloc (.cells #[.int .i64 0, .int .i64 0, .int .i64 0, .int .i64 0, .int .i64 0, .int .i64 0, .int .i64 0, .int .i64 0] 43) = w7X at HX hA ⊢
                generalize w7.heap.size = bo at HX hZ0 ⊢
                refine wpG_doIf (i := 14) rfl (by kernel_rfl) rfl (fun K hK => ?_)
                have HKK := Lib.hid hK
                clear hK
                refine wp_store_mid 43 (.tmp 14) (.tmp 96) rfl bo 0 #[.int .i64 p0, .int .i64 p1, .int .i64 p2, .int .i64 p3, .int .i64 p4, .int .i64 p5, .int .i64 p6, .int .i64 p7] rfl rfl (by have q := there_block HX.out; exact q) Tryz.size43 (by simp [Value.oneCell']) ?_
                have HY := Lib.hid (setCells_full [.int .i64 p0, .int .i64 p1, .int .i64 p2, .int .i64 p3, .int .i64 p4, .int .i64 p5, .int .i64 p6, .int .i64 p7] HX.out rfl)
                have hA := hA.cut (upd_setCells w7X bo 0 [.int .i64 p0, .int .i64 p1, .int .i64 p2, .int .i64 p3, .int .i64 p4, .int .i64 p5, .int .i64 p6, .int .i64 p7]) (fun q hq => by omega)
                refine HKK.out _ _ hA ?_
                clear HKK HX
                simp only [Act.put, List.setIfInBounds_toArray, List.set]
                refine wpG_tail_lit (k := 15) rfl rfl (by kernel_rfl) ?_
                simp only [List.drop]
                go_wp2
                go_meet
                case rel => exact ⟨rfl, ⟨bo, rfl, HY.out⟩, hA⟩
              · have HKK := Lib.hid hK
                clear hK
                go_step
                have hZ0 := hA.size
                have HX := Lib.hid (alloc_at (w := we) (o := .cells #[.int .i64 0, .int .i64 0, .int .i64 0, .int .i64 0, .int .i64 0, .int .i64 0, .int .i64 0, .int .i64 0] 43) rfl)
                have hA := hA.alloc (.cells #[.int .i64 0, .int .i64 0, .int .i64 0, .int .i64 0, .int .i64 0, .int .i64 0, .int .i64 0, .int .i64 0] 43)
                refine HKK.out _ _ hA ?_
                clear HKK
                simp only [Act.put, List.setIfInBounds_toArray, List.set]
                generalize we.alloc (.cells #[.int .i64 0, .int .i64 0, .int .i64 0, .int .i64 0, .int .i64 0, .int .i64 0, .int .i64 0, .int .i64 0] 43) = weX at HX hA ⊢
                generalize we.heap.size = bo at HX hZ0 ⊢
                refine wpG_do (i := 9) rfl (by kernel_rfl) rfl (fun K hK => ?_)
                have HKK := Lib.hid hK
                clear hK
                go_step
                (with_reducible refine (HRD.out _ (HG8.out.trans hA)).mono ?_)
                rintro e w7 ⟨rfl, hu7⟩
                have hA := hA.trans hu7
                have HX := Lib.hid ((hu7.block _ (lt_of_heap HX.out) (fun e => e)).trans HX.out)
                clear hu7
                simp only []
                refine HKK.out _ _ hA ?_
                clear HKK
                simp only [Act.put, List.setIfInBounds_toArray, List.set]
                refine wpG_takeT (i := 10) (v := .tuple #[.agg #[.int .i64 p0, .int .i64 p1, .int .i64 p2, .int .i64 p3, .int .i64 p4, .int .i64 p5, .int .i64 p6, .int .i64 p7], .int .i64 0]) rfl (fun L hc h => (hc.waits (n := 15) (i := 10) (by kernel_rfl) h)) (by kernel_rfl) (fun _ _ _ h => h) hA (.inl ⟨rfl, fun w5 q1 => ?_⟩) ?_
                · go_simp
                simp only [Act.put, List.setIfInBounds_toArray, List.set]
                refine wpG_takeT (i := 11) (v := .agg #[.int .i64 p0, .int .i64 p1, .int .i64 p2, .int .i64 p3, .int .i64 p4, .int .i64 p5, .int .i64 p6, .int .i64 p7]) rfl (fun L hc h => (hc.waits (n := 15) (i := 11) (by kernel_rfl) h)) (by kernel_rfl) (fun _ _ _ h => h) hA (.inl ⟨rfl, fun w5 q1 => ?_⟩) ?_
                · go_simp
                simp only [Act.put, List.setIfInBounds_toArray, List.set]
                refine wpG_takeT (i := 12) (v := .int .i64 0) rfl (fun L hc h => (hc.waits (n := 15) (i := 12) (by kernel_rfl) h)) (by kernel_rfl) (fun _ _ _ h => h) hA (.inl ⟨rfl, fun w5 q1 => ?_⟩) ?_
                · go_simp
                simp only [Act.put, List.setIfInBounds_toArray, List.set]
                refine wpG_doIf (i := 14) rfl (by kernel_rfl) rfl (fun K hK => ?_)
                have HKK := Lib.hid hK
                clear hK
                refine wp_store_mid 43 (.tmp 14) (.tmp 96) rfl bo 0 #[.int .i64 p0, .int .i64 p1, .int .i64 p2, .int .i64 p3, .int .i64 p4, .int .i64 p5, .int .i64 p6, .int .i64 p7] rfl rfl (by have q := there_block HX.out; exact q) Tryz.size43 (by simp [Value.oneCell']) ?_
                have HY := Lib.hid (setCells_full [.int .i64 p0, .int .i64 p1, .int .i64 p2, .int .i64 p3, .int .i64 p4, .int .i64 p5, .int .i64 p6, .int .i64 p7] HX.out rfl)
                have hA := hA.cut (upd_setCells w7 bo 0 [.int .i64 p0, .int .i64 p1, .int .i64 p2, .int .i64 p3, .int .i64 p4, .int .i64 p5, .int .i64 p6, .int .i64 p7]) (fun q hq => by omega)
                refine HKK.out _ _ hA ?_
                clear HKK HX
                simp only [Act.put, List.setIfInBounds_toArray, List.set]
                refine wpG_tail_lit (k := 15) rfl rfl (by kernel_rfl) ?_
                simp only [List.drop]
                go_wp2
                go_meet
                case rel => exact ⟨rfl, ⟨bo, rfl, HY.out⟩, hA⟩
            case rest =>
              obtain ⟨rfl, ⟨bo, rfl, hb9⟩, hu9⟩ := hcut
              generalize wc = w9 at hb9 hu9 ⊢
              have HG9 := Lib.hid (HG8.out.trans hu9)
              have HU9 := Lib.hid hu9
              have HOW9 := Lib.hid (ownsRow_any HOW8.out hu9 (fun _ _ e => e))
              obtain ⟨q0, q1, q2, q3, q4, q5, q6, q7⟩ := cells8_of hb9
              clear hb9 hu9
              have HTH := Lib.hid (own_there (s := 8) HOW9.out hil')
              have HA9 := Lib.hid (HA4.out.kept HG9.out); have HWK9 := Lib.hid (HWK4.out.kept HG9.out)
              have HN9 := Lib.hid (((HU8.out.trans HU9.out).block _ (lt_of_heap HN6.out) (fun e => e)).trans HN6.out)
              have HX9 := Lib.hid ((HG9.out.block _ (lt_of_heap HX4.out) (fun e => e)).trans HX4.out)
              have HSETL := Lib.hid (show ((ats.map (fun o : List Int => o.map I)).set i [.int .i64 p0, .int .i64 p1, .int .i64 p2, .int .i64 p3, .int .i64 p4, .int .i64 p5, .int .i64 p6, .int .i64 p7]) = next.map (fun o : List Int => o.map I) by
                have e9 := congrArg Array.toList HE9.out
                simp only at e9
                rw [← e9, HNE.out, List.map_set])
              go_upto_region 12 with (refine wpList_store_mid rfl 43 (.tmp 107) (.tmp 106) rfl g8 (i * 8) #[.int .i64 p0, .int .i64 p1, .int .i64 p2, .int .i64 p3, .int .i64 p4, .int .i64 p5, .int .i64 p6, .int .i64 p7] rfl rfl (by have q := HTH.out; exact q) Tryz.size43 (by simp [Value.oneCell']) ?_; obtain ⟨w11, hw11⟩ : ∃ w11, w11 = w9.setCells g8 (i * 8) [.int .i64 p0, .int .i64 p1, .int .i64 p2, .int .i64 p3, .int .i64 p4, .int .i64 p5, .int .i64 p6, .int .i64 p7] := ⟨_, rfl⟩; have HW11 := Lib.hid hw11; rw [← hw11]; clear hw11)
              have hu11 : Upd (fun k => k = g8) w9 w11 := by rw [HW11.out]; exact upd_setCells w9 g8 (i * 8) _
              have HG11 := Lib.hid (show Upd0 w4 w11 from HG9.out.cut hu11 (fun q hq => by have := HG8'.out; have := HG6.out.size; omega))
              have HU11 := Lib.hid (show Upd0 w6 w11 from (HU8.out.trans HU9.out).cut hu11 (fun q hq => by have := HG8'.out; omega))
              have HOW11 := Lib.hid (show w11.ownsRow w6.heap.size 43 8 (.slice (some ⟨g8, 0, none⟩) ats.length c8) ats.length (next.map (fun o : List Int => o.map I)).flatten by
                rw [HW11.out, ← HSETL.out]
                exact own_setR (by omega) HOW9.out (fun y hy => by obtain ⟨o, ho, rfl⟩ := List.mem_map.1 hy; simpa using HA4.out.len o ho) (by simp) rfl hil')
              have HA11 := Lib.hid (HA4.out.kept HG11.out); have HWK11 := Lib.hid (HWK4.out.kept HG11.out)
              have HN11 := Lib.hid ((HU11.out.block _ (lt_of_heap HN6.out) (fun e => e)).trans HN6.out)
              have HX11 := Lib.hid ((HG11.out.block _ (lt_of_heap HX4.out) (fun e => e)).trans HX4.out)
              have HAN11 := Lib.hid (show AtIn w11 (some ⟨g8, 0, none⟩) next from Row.of_ownK (by omega) HOW11.out (fun y hy => by
                obtain ⟨o', ho2, rfl⟩ := List.mem_map.1 hy
                rw [HNE.out] at ho2
                rcases List.mem_or_eq_of_mem_set ho2 with h1 | h1
                · simpa using HA4.out.len o' h1
                · rw [h1]; simpa using readO_len H8.out np) (by simp [HNLEN.out]))
              clear hu11 HW11 HOW9 HOW11 HA9 HWK9 HN9 HX9 HTH HSETL q0 q1 q2 q3 q4 q5 q6 q7
              obtain ⟨f1, hf1⟩ : ∃ f, f = fun k => (comesV os xs ats k n).1 := ⟨_, rfl⟩
              obtain ⟨f2, hf2⟩ : ∃ f, f = fun k => (comesV os xs next k n).1 := ⟨_, rfl⟩
              obtain ⟨t1, ht1⟩ : ∃ f, f = fun k => (comesV os xs ats k n).2.1 := ⟨_, rfl⟩
              obtain ⟨t2, ht2⟩ : ∃ f, f = fun k => (comesV os xs next k n).2.1 := ⟨_, rfl⟩
              have HF1 := Lib.hid hf1; have HF2' := Lib.hid hf2; have HT1 := Lib.hid ht1; have HT2 := Lib.hid ht2
              have HR1 := Lib.hid (rows_any (xc := xc) (ac := ac) (n := n) w11 HWK11.out HA11.out HCK.out.symm (by omega) HOA.out hnl (fun k => (HSL.out.ok k n).1) (fun k => (HSL.out.len k n).1))
              rw [← hf1] at HR1
              have HR2 := Lib.hid (fun (W : World) (hW : Upd0 w11 W) => rows_any (xc := xc) (ac := c8) (n := n) W (HWK11.out.kept hW) (HAN11.out.kept hW) HSL.out.at' (by rw [HNLEN.out]; omega) HOA.out hnl (fun k => (HSL.out.ok k n).2) (fun k => (HSL.out.len k n).2))
              rw [← hf2, HNLEN.out] at HR2
              have HSR := Lib.hid (keysL_sorted (chkW_rises (chkAt_w HCK.out.symm).1))
              have HB1 := Lib.hid (fun (W : World) (hW : Upd0 w11 W) => table_any (xc := xc) (ac := ac) (n := n) W (HWK11.out.kept hW) (HA11.out.kept hW) HCK.out.symm (by omega) HOA.out hnl (fun k => (HSL.out.ok k n).1) (fun k => comesF_cell _ _) HSR.out)
              rw [← ht1] at HB1
              have HB2 := Lib.hid (fun (W : World) (hW : Upd0 w11 W) => table_any (xc := xc) (ac := c8) (n := n) W (HWK11.out.kept hW) (HAN11.out.kept hW) HSL.out.at' (by rw [HNLEN.out]; omega) HOA.out hnl (fun k => (HSL.out.ok k n).2) (fun k => comesF_cell _ _) HSR.out)
              rw [← ht2, HNLEN.out] at HB2
              clear hf1 hf2 ht1 ht2
              obtain ⟨c0, c1⟩ := cells2_of HX11.out
              go_wp2_with (go_at_call 14; fail)
              (with_reducible refine HR1.out.mono ?_)
              rintro _ w12 ⟨a1, d1, L1, rfl, hk1, hl1, hu12⟩
              have HK1 := Lib.hid hk1; have HL1 := Lib.hid hl1; have HU12 := Lib.hid hu12
              have HX12 := Lib.hid ((hu12.block _ (lt_of_heap HX11.out) (fun e => e)).trans HX11.out)
              have HR2' := Lib.hid (HR2.out w12 hu12)
              clear hk1 hl1 hu12 c0 c1 HR1 HR2
              obtain ⟨c0, c1⟩ := cells2_of HX12.out
              simp only []
              go_wp2_with (go_at_call 14; fail)
              (with_reducible refine HR2'.out.mono ?_)
              rintro _ w13 ⟨a2, d2, L2, rfl, hk2, hl2, hu13⟩
              have HK2' := Lib.hid hk2; have HL2 := Lib.hid hl2; have HU13 := Lib.hid (HU12.out.trans hu13)
              have HK1' := Lib.hid (HK1.out.kept hu13)
              have HX13 := Lib.hid ((hu13.block _ (lt_of_heap HX12.out) (fun e => e)).trans HX12.out)
              have HB1' := Lib.hid (HB1.out w13 HU13.out)
              clear hk2 hl2 hu13 c0 c1 HR2' HB1 HK1
              obtain ⟨c0, c1⟩ := cells2_of HX13.out
              simp only []
              obtain ⟨T1, hT1⟩ : ∃ T1, T1 = tabOf t1 (keysL xs) := ⟨_, rfl⟩
              rw [← hT1] at HB1'
              obtain ⟨T2, hT2⟩ : ∃ T2, T2 = tabOf t2 (keysL xs) := ⟨_, rfl⟩
              rw [← hT2] at HB2
              have HTT1 := Lib.hid hT1; have HTT2 := Lib.hid hT2
              clear hT1 hT2
              go_wp2_with (go_at_call 15; fail)
              (with_reducible refine HB1'.out.mono ?_)
              rintro _ w14 ⟨a3, d3, rfl, hk3, hu14⟩
              obtain ⟨w15, hw15⟩ : ∃ w15, w15 = w14.alloc (.cells #[.slice a3 T1.length d3] 51) := ⟨_, rfl⟩
              have hu15 : Upd0 w14 w15 := by rw [hw15]; exact (Upd.refl _ w14).alloc _
              have hu15' := hu14.trans hu15
              have HU15 := Lib.hid (HU13.out.trans hu15')
              have HB15 := Lib.hid (show w15.heap[w14.heap.size]? = some (.cells #[.slice a3 T1.length d3] 51 (0, 0)) by rw [hw15]; exact alloc_at rfl)
              have HC15 := Lib.hid (show OwnC w15 w13.heap.size (.slice a3 T1.length d3) T1 from ownsRow_any hk3 hu15 (fun _ _ e => e))
              have HK15 := Lib.hid (HK1'.out.kept hu15'); have HK15' := Lib.hid (HK2'.out.kept hu15')
              have HX15 := Lib.hid ((hu15'.block _ (lt_of_heap HX13.out) (fun e => e)).trans HX13.out)
              have HB2' := Lib.hid (HB2.out w15 HU15.out)
              obtain ⟨bt, hbt⟩ : ∃ bt, bt = w14.heap.size := ⟨_, rfl⟩
              rw [← hbt] at HB15
              clear hu14 hu15 hu15' hk3 c0 c1 HB1' HB2 HK1' HK2'
              obtain ⟨c0, c1⟩ := cells2_of HX15.out
              simp only []
              go_upto_region 15 with fail
              rw [← hw15, ← hbt]
              clear hw15 hbt
              go_wp2_with (go_at_call 15; fail)
              (with_reducible refine HB2'.out.mono ?_)
              rintro _ w16 ⟨a4, d4, rfl, hk4, hu16⟩
              obtain ⟨w17, hw17⟩ : ∃ w17, w17 = w16.alloc (.cells #[.slice a4 T2.length d4] 51) := ⟨_, rfl⟩
              have hu17 : Upd0 w16 w17 := by rw [hw17]; exact (Upd.refl _ w16).alloc _
              have hu17' := hu16.trans hu17
              have HU17 := Lib.hid (HU15.out.trans hu17')
              have HB17 := Lib.hid ((hu17'.block _ (lt_of_heap HB15.out) (fun e => e)).trans HB15.out)
              have HB17' := Lib.hid (show w17.heap[w16.heap.size]? = some (.cells #[.slice a4 T2.length d4] 51 (0, 0)) by rw [hw17]; exact alloc_at rfl)
              have HC17 := Lib.hid (OwnC.in' (show OwnC w17 w13.heap.size (.slice a3 T1.length d3) T1 from ownsRow_any HC15.out hu17' (fun _ _ e => e)))
              have HC17' := Lib.hid (OwnC.in' (show OwnC w17 w15.heap.size (.slice a4 T2.length d4) T2 from ownsRow_any hk4 hu17 (fun _ _ e => e)))
              have HK17 := Lib.hid (HK15.out.kept hu17'); have HK17' := Lib.hid (HK15'.out.kept hu17')
              have HN17 := Lib.hid ((HU17.out.block _ (lt_of_heap HN11.out) (fun e => e)).trans HN11.out)
              have HBL := Lib.hid (below_any (ac := ac) (bc := c8) w17 (HA11.out.kept HU17.out) (HAN11.out.kept HU17.out) (by omega) (by rw [HNLEN.out]; omega))
              rw [HSL.out.below, HNLEN.out] at HBL
              obtain ⟨bt2, hbt2⟩ : ∃ bt2, bt2 = w16.heap.size := ⟨_, rfl⟩
              rw [← hbt2] at HB17'
              clear hu16 hu17 hu17' hk4 c0 c1 HB2' HX15 HK15 HK15' HC15 HB15
              simp only []
              go_upto_region 16 with fail
              rw [← hw17, ← hbt2]
              clear hw17 hbt2
              go_wp2_with (go_at_call 16; fail)
              (with_reducible refine HBL.out.mono ?_)
              rintro _ w18 ⟨rfl, hu18⟩
              have HU18 := Lib.hid hu18
              clear hu18 HBL
              simp only []
              go_upto_region 19 with fail
              have hk1 := HK17.out.kept HU18.out
              have hk2 := HK17'.out.kept HU18.out
              obtain ⟨L, hL⟩ : ∃ L, L = L1 ++ L2 := ⟨_, rfl⟩
              have hll1 : L1.length ≤ 640 := by
                have e := congrArg List.length HL1.out
                have e2 := rowsOf_len f1 (keysL xs)
                have e3 := keysL_len xs
                simp only [List.length_map] at e
                omega
              have hll2 : L2.length ≤ 640 := by
                have e := congrArg List.length HL2.out
                have e2 := rowsOf_len f2 (keysL xs)
                have e3 := keysL_len xs
                simp only [List.length_map] at e
                omega
              have hlL : L.length ≤ 1280 := by rw [hL, List.length_append]; omega
              have HLL := Lib.hid hL
              have HK18 := Lib.hid hk1; have HK18' := Lib.hid hk2
              have HN18 := Lib.hid ((HU18.out.block _ (lt_of_heap HN17.out) (fun e => e)).trans HN17.out)
              have HB18 := Lib.hid ((HU18.out.block _ (lt_of_heap HB17.out) (fun e => e)).trans HB17.out)
              have HB18' := Lib.hid ((HU18.out.block _ (lt_of_heap HB17'.out) (fun e => e)).trans HB17'.out)
              have HC18 := Lib.hid (HC17.out.kept HU18.out); have HC18' := Lib.hid (HC17'.out.kept HU18.out)
              obtain ⟨w19, hw19⟩ : ∃ w19, w19 = w18.alloc (.cells #[] 57) := ⟨_, rfl⟩
              have hu19 : Upd0 w18 w19 := by rw [hw19]; exact (Upd.refl _ w18).alloc _
              have HE19 := Lib.hid (show w19.ownsRow w18.heap.size 57 3 (.slice (some ⟨w18.heap.size, 0, none⟩) 0 0) 0 [] by rw [hw19]; exact own_empty w18 57 3 (Nat.le_refl _))
              have HI19 := Lib.hid (KrIn.of (hk1.kept hu19).row)
              have HI18' := Lib.hid (KrIn.of hk2.row)
              have HZ19 := Lib.hid hu19.size
              have HU19 := Lib.hid hu19
              clear hk1 hk2 hL hu19 HK17 HK17' HN17 HB17 HB17' HC17 HC17' HI7 HE7 HNX HRD
              go_wp2_with (at_builtin; first
                | (obtain ⟨i0, hi, hz0, hs, hb⟩ := info_parts infoKr; rw [← hw19]; refine wpList_appR rfl (.tmp 156) (.tmp 157) 46 rfl w18.heap.size 57 i0 (.agg #[.int .i64 0, .int .i64 0, .slice none 0 0]) 3 40 Tryz.underlying46 hi hz0 hs hb rfl (by decide) (.slice (some ⟨w18.heap.size, 0, none⟩) 0 0) 0 [] rfl HE19.out a1 L1.length d1 (L1.map KrV.cells) rfl HI19.out (by simp) (one3k _) (by unfold maxLen; omega) (by omega) HZ19.out ?_; clear hi hz0 hs hb hw19; intro v20 w20 hown20 hu20; obtain ⟨a5, d5, rfl, hn20⟩ := appKr1 hown20; have HOW20 := Lib.hid hn20; have HU20 := Lib.hid (HU19.out.cut hu20 (fun j hj => by simp [Value.ownBlock] at hj; omega)); have HI20 := Lib.hid (HI18'.out.kept HU20.out); have HZ20 := Lib.hid HU20.out.size; clear hown20 hu20 hn20)
                | (obtain ⟨i0, hi, hz0, hs, hb⟩ := info_parts infoKr; refine wpList_appR rfl (.tmp 158) (.tmp 159) 46 rfl w18.heap.size 57 i0 (.agg #[.int .i64 0, .int .i64 0, .slice none 0 0]) 3 40 Tryz.underlying46 hi hz0 hs hb rfl (by decide) (.slice a5 L1.length d5) L1.length (L1.map KrV.cells).flatten rfl HOW20.out a2 L2.length d2 (L2.map KrV.cells) rfl HI20.out (by simp) (one3k _) (by unfold maxLen; omega) (by omega) HZ20.out ?_; clear hi hz0 hs hb; intro v21 w21 hown21 hu21; obtain ⟨a6, d6, rfl, hin21⟩ := appKr2 HLL.out hown21; have HIN21 := Lib.hid hin21; have HU21 := Lib.hid (HU20.out.cut hu21 (fun j hj => (World.ownsRow.lt HOW20.out j hj).1)); clear hown21 hu21 hin21))
              clear HE19 HI19 HI18' HZ19 HU19 HOW20 HI20 HZ20
              go_loopw [162] (fun i wr => ∃ k : Nat, k ≤ L.length ∧ i = .int .i64 k ∧ Hid (Upd0 w21 wr)) (fun i _ => L.length - (intOf i).toNat)
              case atStart => exact ⟨0, Nat.zero_le _, rfl, Lib.hid (Upd.refl _ _)⟩
              case round =>
                obtain ⟨k, hk, rfl, HR⟩ := hrel
                by_cases hlt : k < L.length
                · obtain ⟨y, hy⟩ : ∃ y, L[k]? = some y := ⟨_, List.getElem?_eq_getElem hlt⟩
                  obtain ⟨b, f, rfl, c0, c1, c2⟩ := (HIN21.out.kept HR.out).at hy
                  have hbl := lt_of_cell c0
                  obtain ⟨w22, hw22⟩ : ∃ w22, w22 = wr.alloc (.cells #[.int .i64 y.src, .int .i64 y.key, .slice y.va y.vals.length y.vc] 57) := ⟨_, rfl⟩
                  have hu22 : Upd0 wr w22 := by rw [hw22]; exact (Upd.refl _ wr).alloc _
                  have HX22 := Lib.hid (show w22.heap[wr.heap.size]? = some (.cells #[.int .i64 y.src, .int .i64 y.key, .slice y.va y.vals.length y.vc] 57 (0, 0)) by rw [hw22]; exact alloc_at rfl)
                  have HU22 := Lib.hid (HR.out.trans hu22)
                  obtain ⟨bx, hbx⟩ : ∃ bx, bx = wr.heap.size := ⟨_, rfl⟩
                  rw [← hbx] at HX22
                  have hg := HU21.out.trans HU22.out
                  have HGW := Lib.hid hg
                  obtain ⟨va1, vc1, hv1, hvi1⟩ := valW_at HK18.out y.src y.key
                  obtain ⟨va2, vc2, hv2, hvi2⟩ := valW_at HK18'.out y.src y.key
                  obtain ⟨vs1, hvs1⟩ : ∃ vs, vs = valsOf (L1.map KrV.core) y.src y.key := ⟨_, rfl⟩
                  obtain ⟨vs2, hvs2⟩ : ∃ vs, vs = valsOf (L2.map KrV.core) y.src y.key := ⟨_, rfl⟩
                  rw [← hvs1] at hv1 hvi1
                  rw [← hvs2] at hv2 hvi2
                  have HVI1 := Lib.hid hvi1; have HVI2 := Lib.hid hvi2
                  have HC1 := Lib.hid (fun (W : World) (hW : Upd0 w18 W) => vals_any (c := d1) y.src y.key W ((KrIn.of HK18.out.row).kept hW) (by omega))
                  have HC2 := Lib.hid (fun (W : World) (hW : Upd0 w18 W) => vals_any (c := d2) y.src y.key W ((KrIn.of HK18'.out.row).kept hW) (by omega))
                  rw [hv1] at HC1
                  rw [hv2] at HC2
                  have hvs := vals_step HSL.out n (keysL_val (chkW_in (chkAt_w HCK.out.symm).1)) y.src y.key
                  have hn1 := vals_len n (fun k => (HSL.out.len k n).1) (keysL_val (chkW_in (chkAt_w HCK.out.symm).1)) y.src y.key
                  have hn2 := vals_len n (fun k => (HSL.out.len k n).2) (keysL_val (chkW_in (chkAt_w HCK.out.symm).1)) y.src y.key
                  rw [← HF1.out, ← HL1.out, ← hvs1] at hvs hn1
                  rw [← HF2'.out, ← HL2.out, ← hvs2] at hvs hn2
                  rw [HNO.out] at hvs
                  have HVS := Lib.hid hvs
                  clear hy hu22 hg hv1 hvi1 hv2 hvi2 hvs1 hvs2 hvs
                  go_upto_region 22 with fail
                  rw [← hw22, ← hbx]
                  clear hw22 hbx c0 c1 c2 hbl
                  have hA : Upd0 w22 w22.drew := (Upd.refl _ _).drew
                  refine wp_region_G 15 (fun W => Upd0 w22 W) [false, false, false, false, false, false, false, false, false, false, false, false, false, false, false, false] rfl (by kernel_rfl) ?_
                  generalize w22.drew = wd2 at hA ⊢
                  refine wpG_takeT (i := 0) (v := .func (.func 17) #[] #[]) rfl (fun L hc h => (hc.waits (n := 15) (i := 0) (by kernel_rfl) h)) (by kernel_rfl) (fun _ _ _ h => h) hA (.inl ⟨rfl, fun w5 q1 => ?_⟩) ?_
                  · go_simp
                  simp only [Act.put, List.setIfInBounds_toArray, List.set]
                  refine wpG_takeT (i := 1) (v := .slice a1 L1.length d1) rfl (fun L hc h => (hc.waits (n := 15) (i := 1) (by kernel_rfl) h)) (by kernel_rfl) (fun _ _ _ h => h) hA (.inl ⟨rfl, fun w5 q1 => ?_⟩) ?_
                  · go_simp
                  simp only [Act.put, List.setIfInBounds_toArray, List.set]
                  refine wpG_takeT (i := 2) (v := .pointer (some ⟨bx, 0, none⟩)) rfl (fun L hc h => (hc.waits (n := 15) (i := 2) (by kernel_rfl) h)) (by kernel_rfl) (fun _ _ _ h => h) hA (.inl ⟨rfl, fun w5 q1 => ?_⟩) ?_
                  · go_simp
                  simp only [Act.put, List.setIfInBounds_toArray, List.set]
                  refine wpG_takeT (i := 3) (v := .int .i64 y.src) rfl (fun L hc h => (hc.waits (n := 15) (i := 3) (by kernel_rfl) h)) (by kernel_rfl) (fun _ _ _ h => h) hA (.inl ⟨rfl, fun w5 q1 => ?_⟩) ?_
                  · obtain ⟨c0, c1, c2⟩ := cells3_of ((q1.block _ (lt_of_heap HX22.out) (fun e => e)).trans HX22.out)
                    go_simp
                  simp only [Act.put, List.setIfInBounds_toArray, List.set]
                  refine wpG_takeT (i := 4) (v := .pointer (some ⟨bx, 1, none⟩)) rfl (fun L hc h => (hc.waits (n := 15) (i := 4) (by kernel_rfl) h)) (by kernel_rfl) (fun _ _ _ h => h) hA (.inl ⟨rfl, fun w5 q1 => ?_⟩) ?_
                  · go_simp
                  simp only [Act.put, List.setIfInBounds_toArray, List.set]
                  refine wpG_takeT (i := 5) (v := .int .i64 y.key) rfl (fun L hc h => (hc.waits (n := 15) (i := 5) (by kernel_rfl) h)) (by kernel_rfl) (fun _ _ _ h => h) hA (.inl ⟨rfl, fun w5 q1 => ?_⟩) ?_
                  · obtain ⟨c0, c1, c2⟩ := cells3_of ((q1.block _ (lt_of_heap HX22.out) (fun e => e)).trans HX22.out)
                    go_simp
                  simp only [Act.put, List.setIfInBounds_toArray, List.set]
                  refine wpG_takeT (i := 7) (v := .func (.func 17) #[] #[]) rfl (fun L hc h => (hc.waits (n := 15) (i := 7) (by kernel_rfl) h)) (by kernel_rfl) (fun _ _ _ h => h) hA (.inl ⟨rfl, fun w5 q1 => ?_⟩) ?_
                  · go_simp
                  simp only [Act.put, List.setIfInBounds_toArray, List.set]
                  refine wpG_takeT (i := 8) (v := .slice a2 L2.length d2) rfl (fun L hc h => (hc.waits (n := 15) (i := 8) (by kernel_rfl) h)) (by kernel_rfl) (fun _ _ _ h => h) hA (.inl ⟨rfl, fun w5 q1 => ?_⟩) ?_
                  · go_simp
                  simp only [Act.put, List.setIfInBounds_toArray, List.set]
                  refine wpG_takeT (i := 9) (v := .pointer (some ⟨bx, 0, none⟩)) rfl (fun L hc h => (hc.waits (n := 15) (i := 9) (by kernel_rfl) h)) (by kernel_rfl) (fun _ _ _ h => h) hA (.inl ⟨rfl, fun w5 q1 => ?_⟩) ?_
                  · go_simp
                  simp only [Act.put, List.setIfInBounds_toArray, List.set]
                  refine wpG_takeT (i := 10) (v := .int .i64 y.src) rfl (fun L hc h => (hc.waits (n := 15) (i := 10) (by kernel_rfl) h)) (by kernel_rfl) (fun _ _ _ h => h) hA (.inl ⟨rfl, fun w5 q1 => ?_⟩) ?_
                  · obtain ⟨c0, c1, c2⟩ := cells3_of ((q1.block _ (lt_of_heap HX22.out) (fun e => e)).trans HX22.out)
                    go_simp
                  simp only [Act.put, List.setIfInBounds_toArray, List.set]
                  refine wpG_takeT (i := 11) (v := .pointer (some ⟨bx, 1, none⟩)) rfl (fun L hc h => (hc.waits (n := 15) (i := 11) (by kernel_rfl) h)) (by kernel_rfl) (fun _ _ _ h => h) hA (.inl ⟨rfl, fun w5 q1 => ?_⟩) ?_
                  · go_simp
                  simp only [Act.put, List.setIfInBounds_toArray, List.set]
                  refine wpG_takeT (i := 12) (v := .int .i64 y.key) rfl (fun L hc h => (hc.waits (n := 15) (i := 12) (by kernel_rfl) h)) (by kernel_rfl) (fun _ _ _ h => h) hA (.inl ⟨rfl, fun w5 q1 => ?_⟩) ?_
                  · obtain ⟨c0, c1, c2⟩ := cells3_of ((q1.block _ (lt_of_heap HX22.out) (fun e => e)).trans HX22.out)
                    go_simp
                  simp only [Act.put, List.setIfInBounds_toArray, List.set]
                  refine wpG_doIf (i := 6) rfl (by kernel_rfl) rfl (fun K hK => ?_)
                  have HKK := Lib.hid hK
                  clear hK
                  go_step
                  (with_reducible refine (HC1.out _ (HGW.out.trans hA)).mono ?_)
                  rintro _ w7 ⟨rfl, hu7⟩
                  have hA := hA.trans hu7
                  clear hu7
                  simp only []
                  refine HKK.out _ _ hA ?_
                  clear HKK
                  simp only [Act.put, List.setIfInBounds_toArray, List.set]
                  refine wpG_doIf (i := 13) rfl (by kernel_rfl) rfl (fun K hK => ?_)
                  have HKK := Lib.hid hK
                  clear hK
                  go_step
                  (with_reducible refine (HC2.out _ (HGW.out.trans hA)).mono ?_)
                  rintro _ w7 ⟨rfl, hu7⟩
                  have hA := hA.trans hu7
                  clear hu7
                  simp only []
                  refine HKK.out _ _ hA ?_
                  clear HKK
                  simp only [Act.put, List.setIfInBounds_toArray, List.set]
                  refine wpG_takeT (i := 14) (v := .slice va1 vs1.length vc1) rfl (fun L hc h => (hc.waits (n := 15) (i := 14) (by kernel_rfl) h)) (by kernel_rfl) (fun _ _ _ h => h) hA (.inl ⟨rfl, fun w5 q1 => ?_⟩) ?_
                  · go_simp
                  simp only [Act.put, List.setIfInBounds_toArray, List.set]
                  refine wpG_tail_lit (k := 15) rfl rfl (by kernel_rfl) ?_
                  simp only [List.drop]
                  have HA23 := Lib.hid hA
                  clear hA
                  go_upto_region 23 with fail
                  have HNc := Lib.hid (((HGW.out.trans HA23.out).block _ (lt_of_heap HN18.out) (fun e => e)).trans HN18.out)
                  have HXc := Lib.hid ((HA23.out.block _ (lt_of_heap HX22.out) (fun e => e)).trans HX22.out)
                  have HBG := Lib.hid (begins_any (lc := vc2) (hc := vc1) w7 (HVI2.out.kept (HGW.out.trans HA23.out)) (HVI1.out.kept (HGW.out.trans HA23.out)) (by omega) (by omega))
                  rw [HVS.out.pre] at HBG
                  have HUG := Lib.hid (HU22.out.trans HA23.out)
                  obtain ⟨m, hm⟩ : ∃ m, m = (nb && sameK ⟨ns, nk, nv⟩ ⟨y.src, y.key, 0⟩) := ⟨_, rfl⟩
                  rw [← hm] at HVS
                  go_cut [27] from 166 to 194 (fun v wx => v = .bool m ∧ wx = w7)
                  case first =>
                    obtain ⟨k0, k1, k2⟩ := cells3_of HNc.out
                    obtain ⟨x0, x1, x2⟩ := cells3_of HXc.out
                    have HM := Lib.hid hm
                    clear hm
                    cases nb with
                    | false =>
                      go_wp2
                      go_meet
                      case rel => exact ⟨by rw [HM.out]; rfl, rfl⟩
                    | true =>
                      by_cases h1 : y.src = ns
                      · by_cases h2 : y.key = nk
                        · go_wp2
                          go_meet
                          case rel => exact ⟨by rw [HM.out]; simp [sameK, h1, h2], rfl⟩
                        · go_wp2
                          go_meet
                          case rel => exact ⟨by
                            have e1 : (y.key == nk) = false := by simpa using h2
                            have e2 : (nk == y.key) = false := by simpa using Ne.symm h2
                            rw [HM.out]; simp [sameK, h1, e1, e2], rfl⟩
                      · go_wp2
                        go_meet
                        case rel => exact ⟨by
                          have e1 : (y.src == ns) = false := by simpa using h1
                          have e2 : (ns == y.src) = false := by simpa using Ne.symm h1
                          rw [HM.out]; simp [sameK, e1, e2], rfl⟩
                  case rest =>
                    obtain ⟨rfl, hwc⟩ := hcut
                    subst hwc
                    clear hm
                    go_wp2_with (go_at_call 18; fail)
                    (with_reducible refine HBG.out.mono ?_)
                    rintro _ w24 ⟨rfl, hu24⟩
                    have HU24 := Lib.hid (HUG.out.trans hu24)
                    clear hu24 HBG
                    simp only []
                    have hone : ¬ ((vs1.length : Int) + 1 < vs2.length) := by have := HVS.out.one; omega
                    have hwr : IntKind.i64.wrap ((vs1.length : Int) + 1) = (vs1.length : Int) + 1 := by rw [IntKind.wrap_i64]; omega
                    cases m with
                    | true =>
                      go_wp2
                      go_roundw
                      case rel => exact ⟨k + 1, by omega, by go_num, HU24⟩
                      case measure => simp [intOf]; omega
                    | false =>
                      have hsl := HVS.out.same rfl
                      go_wp2
                      go_roundw
                      case rel => exact ⟨k + 1, by omega, by go_num, HU24⟩
                      case measure => simp [intOf]; omega
                · obtain rfl : k = L.length := by omega
                  obtain ⟨T, hT⟩ : ∃ T, T = T1 ++ T2 := ⟨_, rfl⟩
                  have htl1 : T1.length ≤ 640 := by
                    have e2 := tabOf_len t1 (keysL xs)
                    have e3 := keysL_len xs
                    rw [HTT1.out]
                    omega
                  have htl2 : T2.length ≤ 640 := by
                    have e2 := tabOf_len t2 (keysL xs)
                    have e3 := keysL_len xs
                    rw [HTT2.out]
                    omega
                  have htl : T.length ≤ 1280 := by rw [hT, List.length_append]; omega
                  have HTL := Lib.hid hT
                  have hgr : Upd0 w18 wr := HU21.out.trans HR.out
                  have HGR := Lib.hid hgr
                  have HBr := Lib.hid ((hgr.block _ (lt_of_heap HB18.out) (fun e => e)).trans HB18.out)
                  have HBr' := Lib.hid ((hgr.block _ (lt_of_heap HB18'.out) (fun e => e)).trans HB18'.out)
                  have HNr := Lib.hid ((hgr.block _ (lt_of_heap HN18.out) (fun e => e)).trans HN18.out)
                  have HCr := Lib.hid (HC18.out.kept hgr); have HCr' := Lib.hid (HC18'.out.kept hgr)
                  clear hT hgr HK18 HK18' HIN21 HLL
                  go_upto_region 27 with fail
                  have hA : Upd0 wr wr.drew := (Upd.refl _ _).drew
                  refine wp_region_G 7 (fun W => Upd0 wr W) [false, false, false, false, false, false, false, false, false] rfl (by kernel_rfl) ?_
                  generalize wr.drew = we at hA ⊢
                  refine wpG_takeP (i := 8) (v := .int .i64 0) rfl (by kernel_rfl) (fun _ _ _ h => h) hA (.inl ⟨rfl, fun w5 q1 => ?_⟩) ?_
                  · go_simp
                  simp only [Act.put, List.setIfInBounds_toArray, List.set]
                  refine wpG_takeT (i := 1) (v := .pointer (some ⟨bt, 0, none⟩)) rfl (fun L hc h => (hc.waits (n := 7) (i := 6) (by kernel_rfl) (hc.waits (n := 6) (i := 3) (by kernel_rfl) (hc.waits (n := 3) (i := 2) (by kernel_rfl) (hc.waits (n := 2) (i := 1) (by kernel_rfl) h))))) (by kernel_rfl) (fun _ _ _ h => h) hA (.inl ⟨rfl, fun w5 q1 => ?_⟩) ?_
                  · go_simp
                  simp only [Act.put, List.setIfInBounds_toArray, List.set]
                  refine wpG_takeT (i := 2) (v := .slice a3 T1.length d3) rfl (fun L hc h => (hc.waits (n := 7) (i := 6) (by kernel_rfl) (hc.waits (n := 6) (i := 3) (by kernel_rfl) (hc.waits (n := 3) (i := 2) (by kernel_rfl) h)))) (by kernel_rfl) (fun _ _ _ h => h) hA (.inl ⟨rfl, fun w5 q1 => ?_⟩) ?_
                  · have c0 := cells1_of ((q1.block _ (lt_of_heap HBr.out) (fun e => e)).trans HBr.out)
                    go_simp
                  simp only [Act.put, List.setIfInBounds_toArray, List.set]
                  refine wpG_takeT (i := 4) (v := .pointer (some ⟨bt2, 0, none⟩)) rfl (fun L hc h => (hc.waits (n := 7) (i := 6) (by kernel_rfl) (hc.waits (n := 6) (i := 5) (by kernel_rfl) (hc.waits (n := 5) (i := 4) (by kernel_rfl) h)))) (by kernel_rfl) (fun _ _ _ h => h) hA (.inl ⟨rfl, fun w5 q1 => ?_⟩) ?_
                  · go_simp
                  simp only [Act.put, List.setIfInBounds_toArray, List.set]
                  refine wpG_takeT (i := 5) (v := .slice a4 T2.length d4) rfl (fun L hc h => (hc.waits (n := 7) (i := 6) (by kernel_rfl) (hc.waits (n := 6) (i := 5) (by kernel_rfl) h))) (by kernel_rfl) (fun _ _ _ h => h) hA (.inl ⟨rfl, fun w5 q1 => ?_⟩) ?_
                  · have c0 := cells1_of ((q1.block _ (lt_of_heap HBr'.out) (fun e => e)).trans HBr'.out)
                    go_simp
                  simp only [Act.put, List.setIfInBounds_toArray, List.set]
                  refine wpG_doIf (i := 0) rfl (by kernel_rfl) rfl (fun K hK => ?_)
                  have HKK := Lib.hid hK
                  clear hK
                  go_step
                  obtain ⟨wf, hwf⟩ : ∃ wf, wf = we.alloc (.cells #[] 63) := ⟨_, rfl⟩
                  have huf : Upd0 we wf := by rw [hwf]; exact (Upd.refl _ we).alloc _
                  have HEf := Lib.hid (show wf.ownsRow wr.heap.size 63 4 (.slice (some ⟨we.heap.size, 0, none⟩) 0 0) 0 [] by rw [hwf]; exact own_empty we 63 4 hA.size)
                  obtain ⟨be, hbe⟩ : ∃ be, be = we.heap.size := ⟨_, rfl⟩
                  rw [← hwf, ← hbe]
                  rw [← hbe] at HEf
                  have hZe : wr.heap.size ≤ be := by rw [hbe]; exact hA.size
                  have hA := hA.trans huf
                  clear hwf hbe huf
                  refine HKK.out _ _ hA ?_
                  clear HKK
                  simp only [Act.put, List.setIfInBounds_toArray, List.set]
                  refine wpG_doIf (i := 3) rfl (by kernel_rfl) rfl (fun K hK => ?_)
                  have HKK := Lib.hid hK
                  clear hK
                  obtain ⟨i0, hi, hz0, hs, hb⟩ := info_parts infoKC
                  have hrow := HCr.out.kept hA
                  refine wp_appR (.tmp 219) (.tmp 221) 49 rfl wr.heap.size 63 i0 (.agg #[.int .i64 0, .int .i64 0, .int .i64 0, .int .i64 0]) 4 32 Tryz.underlying49 hi hz0 hs hb rfl (by decide) (.slice (some ⟨be, 0, none⟩) 0 0) 0 [] rfl HEf.out a3 T1.length d3 (T1.map KcV.cells) rfl hrow (by simp) (oneC _) (by unfold maxLen; omega) (by omega) hA.size ?_
                  clear hi hz0 hs hb hrow
                  intro v6 wg hown hu
                  obtain ⟨a7, d7, rfl, hn7⟩ := appKc hown
                  have HOg := Lib.hid hn7
                  have hA := hA.cut hu (fun j hj => by simp [Value.ownBlock] at hj; omega)
                  clear hown hu hn7 HEf
                  refine HKK.out _ _ hA ?_
                  clear HKK
                  simp only [Act.put, List.setIfInBounds_toArray, List.set]
                  refine wpG_doIf (i := 6) rfl (by kernel_rfl) rfl (fun K hK => ?_)
                  have HKK := Lib.hid hK
                  clear hK
                  obtain ⟨i0, hi, hz0, hs, hb⟩ := info_parts infoKC
                  have hrow := HCr'.out.kept hA
                  refine wp_appR (.tmp 222) (.tmp 224) 49 rfl wr.heap.size 63 i0 (.agg #[.int .i64 0, .int .i64 0, .int .i64 0, .int .i64 0]) 4 32 Tryz.underlying49 hi hz0 hs hb rfl (by decide) (.slice a7 T1.length d7) T1.length (T1.map KcV.cells).flatten rfl HOg.out a4 T2.length d4 (T2.map KcV.cells) rfl hrow (by simp) (oneC _) (by unfold maxLen; omega) (by omega) hA.size ?_
                  clear hi hz0 hs hb hrow
                  intro v6 wh hown hu
                  obtain ⟨a8, d8, rfl, hn8⟩ := appKc2 HTL.out hown
                  have HINT := Lib.hid hn8
                  have hA := hA.cut hu (fun j hj => (World.ownsRow.lt HOg.out j hj).1)
                  clear hown hu hn8 HOg
                  refine HKK.out _ _ hA ?_
                  clear HKK
                  simp only [Act.put, List.setIfInBounds_toArray, List.set]
                  refine wpG_doIf (i := 7) rfl (by kernel_rfl) rfl (fun K hK => ?_)
                  have HKK := Lib.hid hK
                  clear hK
                  go_step
                  refine HKK.out _ _ hA ?_
                  clear HKK
                  simp only [Act.put, List.setIfInBounds_toArray, List.set]
                  refine ⟨by kernel_rfl, ?_⟩
                  have HUZ := Lib.hid hA
                  clear hA
                  go_wp2_with (fail)
                  have HUW := Lib.hid (HGR.out.trans HUZ.out)
                  have HBz := Lib.hid ((HUZ.out.block _ (lt_of_heap HBr.out) (fun e => e)).trans HBr.out)
                  have HBz' := Lib.hid ((HUZ.out.block _ (lt_of_heap HBr'.out) (fun e => e)).trans HBr'.out)
                  have HNz := Lib.hid ((HUZ.out.block _ (lt_of_heap HNr.out) (fun e => e)).trans HNr.out)
                  have HCz := Lib.hid (HCr.out.kept HUZ.out); have HCz' := Lib.hid (HCr'.out.kept HUZ.out)
                  clear HBr HBr' HNr HCr HCr'
                  go_loopw [227] (fun i wr => ∃ k : Nat, k ≤ T.length ∧ i = .int .i64 k ∧ Hid (Upd0 wh wr)) (fun i _ => T.length - (intOf i).toNat)
                  case atStart => exact ⟨0, Nat.zero_le _, rfl, Lib.hid (Upd.refl _ _)⟩
                  case round =>
                    obtain ⟨k, hk, rfl, HR⟩ := hrel
                    by_cases hlt : k < T.length
                    · obtain ⟨y, hy⟩ : ∃ y, T[k]? = some y := ⟨_, List.getElem?_eq_getElem hlt⟩
                      obtain ⟨b, f, rfl, c0, c1, c2, c3⟩ := (HINT.out.kept HR.out).at hy
                      have hbl := lt_of_cell c0
                      obtain ⟨w30, hw30⟩ : ∃ w30, w30 = (wr.alloc (.cells #[.int .i64 y.src, .int .i64 y.key, .int .i64 y.count, .int .i64 y.sum] 63)).alloc (.cells #[.int .i64 y.src, .int .i64 y.key, .int .i64 0] 36) := ⟨_, rfl⟩
                      have hu30 : Upd0 wr w30 := by rw [hw30]; exact ((Upd.refl _ wr).alloc _).alloc _
                      obtain ⟨bx, hbx⟩ : ∃ bx, bx = wr.heap.size := ⟨_, rfl⟩
                      have HX30 := Lib.hid (show w30.heap[bx]? = some (.cells #[.int .i64 y.src, .int .i64 y.key, .int .i64 y.count, .int .i64 y.sum] 63 (0, 0)) by rw [hw30, hbx]; exact (alloc_lt (by simp)).trans (alloc_at rfl))
                      have HY30 := Lib.hid (show w30.heap[bx + 1]? = some (.cells #[.int .i64 y.src, .int .i64 y.key, .int .i64 0] 36 (0, 0)) by rw [hw30, hbx]; exact alloc_at (by simp))
                      have HU30 := Lib.hid (HR.out.trans hu30)
                      have HBw := Lib.hid ((HU30.out.block _ (lt_of_heap HBz.out) (fun e => e)).trans HBz.out)
                      have HBw' := Lib.hid ((HU30.out.block _ (lt_of_heap HBz'.out) (fun e => e)).trans HBz'.out)
                      have HNw := Lib.hid ((HU30.out.block _ (lt_of_heap HNz.out) (fun e => e)).trans HNz.out)
                      have HG1' := Lib.hid (fun (W : World) (hW : Upd0 w30 W) => tget_any (c := d3) ⟨y.src, y.key, 0⟩ W ((HCz.out.kept HU30.out).kept hW) (by omega))
                      have HG2' := Lib.hid (fun (W : World) (hW : Upd0 w30 W) => tget_any (c := d4) ⟨y.src, y.key, 0⟩ W ((HCz'.out.kept HU30.out).kept hW) (by omega))
                      have HST := Lib.hid (fun (hno : ownK np ⟨y.src, y.key, 0⟩ = false) => cell_step HSL.out n (keysL_val (chkW_in (chkAt_w HCK.out.symm).1)) ⟨y.src, y.key, 0⟩ rfl hno)
                      rw [← HT1.out, ← HT2.out, ← HTT1.out, ← HTT2.out, HNO.out] at HST
                      obtain ⟨cl, hcl⟩ : ∃ cl, cl = getC T1 ⟨y.src, y.key, 0⟩ := ⟨_, rfl⟩
                      obtain ⟨cl2, hcl2⟩ : ∃ cl, cl = getC T2 ⟨y.src, y.key, 0⟩ := ⟨_, rfl⟩
                      rw [← hcl] at HG1' HST
                      rw [← hcl2] at HG2' HST
                      clear hy hu30 hcl hcl2
                      go_upto_region 31 with fail
                      try simp only [Nat.add_assoc, Nat.reduceAdd]
                      rw [← hw30, ← hbx]
                      clear hw30 hbx c0 c1 c2 c3 hbl
                      have hA : Upd0 w30 w30.drew := (Upd.refl _ _).drew
                      cases nb with
                      | false =>
                        have hcc := (HST.out rfl).symm
                        subst hcc
                        refine wp_region_G 24 (fun W => Upd0 w30 W) [false, false, false, false, false, false, false, false, false, false, false, false, false, false, false, false, false, false, false, false, false, false, false, false, false] rfl (by kernel_rfl) ?_
                        generalize w30.drew = we2 at hA ⊢
                        refine wpG_takeT (i := 0) (v := .bool false) rfl (fun L hc h => (hc.waits (n := 24) (i := 16) (by kernel_rfl) (hc.waits (n := 16) (i := 9) (by kernel_rfl) (hc.waits (n := 9) (i := 2) (by kernel_rfl) (hc.waits (n := 2) (i := 1) (by kernel_rfl) (hc.waits (n := 1) (i := 0) (by kernel_rfl) h)))))) (by kernel_rfl) (fun _ _ _ h => h) hA (.inl ⟨rfl, fun w5 q1 => ?_⟩) ?_
                        · go_simp
                        simp only [Act.put, List.setIfInBounds_toArray, List.set]
                        refine wpG_takeT (i := 1) (v := .bool true) rfl (fun L hc h => (hc.waits (n := 24) (i := 16) (by kernel_rfl) (hc.waits (n := 16) (i := 9) (by kernel_rfl) (hc.waits (n := 9) (i := 2) (by kernel_rfl) (hc.waits (n := 2) (i := 1) (by kernel_rfl) h))))) (by kernel_rfl) (fun _ _ _ h => h) hA (.inl ⟨rfl, fun w5 q1 => ?_⟩) ?_
                        · go_simp
                        simp only [Act.put, List.setIfInBounds_toArray, List.set]
                        refine wpG_takeT (i := 2) (v := .bool true) rfl (fun L hc h => (hc.waits (n := 24) (i := 16) (by kernel_rfl) (hc.waits (n := 16) (i := 9) (by kernel_rfl) (hc.waits (n := 9) (i := 2) (by kernel_rfl) h)))) (by kernel_rfl) (fun _ _ _ h => h) hA (.inl ⟨rfl, fun w5 q1 => ?_⟩) ?_
                        · go_simp
                        simp only [Act.put, List.setIfInBounds_toArray, List.set]
                        refine wpG_takeT (i := 3) (v := undef) rfl (fun L hc h => (hc.waits (n := 24) (i := 16) (by kernel_rfl) (hc.waits (n := 16) (i := 9) (by kernel_rfl) (hc.waits (n := 9) (i := 8) (by kernel_rfl) (hc.waits (n := 8) (i := 7) (by kernel_rfl) (hc.waits (n := 7) (i := 4) (by kernel_rfl) (hc.waits (n := 4) (i := 3) (by kernel_rfl) h))))))) (by kernel_rfl) (fun _ _ _ h => h) hA (.inr ⟨rfl, rfl⟩) ?_
                        simp only [Act.put, List.setIfInBounds_toArray, List.set]
                        refine wpG_takeT (i := 4) (v := undef) rfl (fun L hc h => (hc.waits (n := 24) (i := 16) (by kernel_rfl) (hc.waits (n := 16) (i := 9) (by kernel_rfl) (hc.waits (n := 9) (i := 8) (by kernel_rfl) (hc.waits (n := 8) (i := 7) (by kernel_rfl) (hc.waits (n := 7) (i := 4) (by kernel_rfl) h)))))) (by kernel_rfl) (fun _ _ _ h => h) hA (.inr ⟨rfl, rfl⟩) ?_
                        simp only [Act.put, List.setIfInBounds_toArray, List.set]
                        refine wpG_takeT (i := 5) (v := undef) rfl (fun L hc h => (hc.waits (n := 24) (i := 16) (by kernel_rfl) (hc.waits (n := 16) (i := 9) (by kernel_rfl) (hc.waits (n := 9) (i := 8) (by kernel_rfl) (hc.waits (n := 8) (i := 7) (by kernel_rfl) (hc.waits (n := 7) (i := 6) (by kernel_rfl) (hc.waits (n := 6) (i := 5) (by kernel_rfl) h))))))) (by kernel_rfl) (fun _ _ _ h => h) hA (.inr ⟨rfl, rfl⟩) ?_
                        simp only [Act.put, List.setIfInBounds_toArray, List.set]
                        refine wpG_takeT (i := 6) (v := undef) rfl (fun L hc h => (hc.waits (n := 24) (i := 16) (by kernel_rfl) (hc.waits (n := 16) (i := 9) (by kernel_rfl) (hc.waits (n := 9) (i := 8) (by kernel_rfl) (hc.waits (n := 8) (i := 7) (by kernel_rfl) (hc.waits (n := 7) (i := 6) (by kernel_rfl) h)))))) (by kernel_rfl) (fun _ _ _ h => h) hA (.inr ⟨rfl, rfl⟩) ?_
                        simp only [Act.put, List.setIfInBounds_toArray, List.set]
                        refine wpG_takeT (i := 7) (v := undef) rfl (fun L hc h => (hc.waits (n := 24) (i := 16) (by kernel_rfl) (hc.waits (n := 16) (i := 9) (by kernel_rfl) (hc.waits (n := 9) (i := 8) (by kernel_rfl) (hc.waits (n := 8) (i := 7) (by kernel_rfl) h))))) (by kernel_rfl) (fun _ _ _ h => h) hA (.inr ⟨rfl, rfl⟩) ?_
                        simp only [Act.put, List.setIfInBounds_toArray, List.set]
                        refine wpG_takeT (i := 8) (v := .bool true) rfl (fun L hc h => (hc.waits (n := 24) (i := 16) (by kernel_rfl) (hc.waits (n := 16) (i := 9) (by kernel_rfl) (hc.waits (n := 9) (i := 8) (by kernel_rfl) h)))) (by kernel_rfl) (fun _ _ _ h => h) hA (.inl ⟨rfl, fun w5 q1 => ?_⟩) ?_
                        · go_simp
                        simp only [Act.put, List.setIfInBounds_toArray, List.set]
                        refine wpG_takeT (i := 9) (v := .bool true) rfl (fun L hc h => (hc.waits (n := 24) (i := 16) (by kernel_rfl) (hc.waits (n := 16) (i := 9) (by kernel_rfl) h))) (by kernel_rfl) (fun _ _ _ h => h) hA (.inl ⟨rfl, fun w5 q1 => ?_⟩) ?_
                        · go_simp
                        simp only [Act.put, List.setIfInBounds_toArray, List.set]
                        refine wpG_takeT (i := 10) (v := undef) rfl (fun L hc h => (hc.waits (n := 24) (i := 16) (by kernel_rfl) (hc.waits (n := 16) (i := 15) (by kernel_rfl) (hc.waits (n := 15) (i := 14) (by kernel_rfl) (hc.waits (n := 14) (i := 11) (by kernel_rfl) (hc.waits (n := 11) (i := 10) (by kernel_rfl) h)))))) (by kernel_rfl) (fun _ _ _ h => h) hA (.inr ⟨rfl, rfl⟩) ?_
                        simp only [Act.put, List.setIfInBounds_toArray, List.set]
                        refine wpG_takeT (i := 11) (v := undef) rfl (fun L hc h => (hc.waits (n := 24) (i := 16) (by kernel_rfl) (hc.waits (n := 16) (i := 15) (by kernel_rfl) (hc.waits (n := 15) (i := 14) (by kernel_rfl) (hc.waits (n := 14) (i := 11) (by kernel_rfl) h))))) (by kernel_rfl) (fun _ _ _ h => h) hA (.inr ⟨rfl, rfl⟩) ?_
                        simp only [Act.put, List.setIfInBounds_toArray, List.set]
                        refine wpG_takeT (i := 12) (v := undef) rfl (fun L hc h => (hc.waits (n := 24) (i := 16) (by kernel_rfl) (hc.waits (n := 16) (i := 15) (by kernel_rfl) (hc.waits (n := 15) (i := 14) (by kernel_rfl) (hc.waits (n := 14) (i := 13) (by kernel_rfl) (hc.waits (n := 13) (i := 12) (by kernel_rfl) h)))))) (by kernel_rfl) (fun _ _ _ h => h) hA (.inr ⟨rfl, rfl⟩) ?_
                        simp only [Act.put, List.setIfInBounds_toArray, List.set]
                        refine wpG_takeT (i := 13) (v := undef) rfl (fun L hc h => (hc.waits (n := 24) (i := 16) (by kernel_rfl) (hc.waits (n := 16) (i := 15) (by kernel_rfl) (hc.waits (n := 15) (i := 14) (by kernel_rfl) (hc.waits (n := 14) (i := 13) (by kernel_rfl) h))))) (by kernel_rfl) (fun _ _ _ h => h) hA (.inr ⟨rfl, rfl⟩) ?_
                        simp only [Act.put, List.setIfInBounds_toArray, List.set]
                        refine wpG_takeT (i := 14) (v := undef) rfl (fun L hc h => (hc.waits (n := 24) (i := 16) (by kernel_rfl) (hc.waits (n := 16) (i := 15) (by kernel_rfl) (hc.waits (n := 15) (i := 14) (by kernel_rfl) h)))) (by kernel_rfl) (fun _ _ _ h => h) hA (.inr ⟨rfl, rfl⟩) ?_
                        simp only [Act.put, List.setIfInBounds_toArray, List.set]
                        refine wpG_takeT (i := 15) (v := .bool true) rfl (fun L hc h => (hc.waits (n := 24) (i := 16) (by kernel_rfl) (hc.waits (n := 16) (i := 15) (by kernel_rfl) h))) (by kernel_rfl) (fun _ _ _ h => h) hA (.inl ⟨rfl, fun w5 q1 => ?_⟩) ?_
                        · go_simp
                        simp only [Act.put, List.setIfInBounds_toArray, List.set]
                        refine wpG_takeT (i := 16) (v := .bool true) rfl (fun L hc h => (hc.waits (n := 24) (i := 16) (by kernel_rfl) h)) (by kernel_rfl) (fun _ _ _ h => h) hA (.inl ⟨rfl, fun w5 q1 => ?_⟩) ?_
                        · go_simp
                        simp only [Act.put, List.setIfInBounds_toArray, List.set]
                        refine wpG_takeT (i := 17) (v := .agg #[.slice a3 T1.length d3]) rfl (fun L hc h => (hc.waits (n := 24) (i := 23) (by kernel_rfl) (hc.waits (n := 23) (i := 19) (by kernel_rfl) (hc.waits (n := 19) (i := 17) (by kernel_rfl) h)))) (by kernel_rfl) (fun _ _ _ h => h) hA (.inl ⟨rfl, fun w5 q1 => ?_⟩) ?_
                        · have c0 := cells1_of ((q1.block _ (lt_of_heap HBw.out) (fun e => e)).trans HBw.out)
                          go_simp
                        simp only [Act.put, List.setIfInBounds_toArray, List.set]
                        refine wpG_takeT (i := 18) (v := .agg #[.int .i64 y.src, .int .i64 y.key, .int .i64 0]) rfl (fun L hc h => (hc.waits (n := 24) (i := 23) (by kernel_rfl) (hc.waits (n := 23) (i := 19) (by kernel_rfl) (hc.waits (n := 19) (i := 18) (by kernel_rfl) h)))) (by kernel_rfl) (fun _ _ _ h => h) hA (.inl ⟨rfl, fun w5 q1 => ?_⟩) ?_
                        · obtain ⟨c0, c1, c2⟩ := cells3_of ((q1.block _ (lt_of_heap HY30.out) (fun e => e)).trans HY30.out)
                          go_simp
                        simp only [Act.put, List.setIfInBounds_toArray, List.set]
                        refine wpG_takeT (i := 20) (v := .agg #[.slice a4 T2.length d4]) rfl (fun L hc h => (hc.waits (n := 24) (i := 23) (by kernel_rfl) (hc.waits (n := 23) (i := 22) (by kernel_rfl) (hc.waits (n := 22) (i := 20) (by kernel_rfl) h)))) (by kernel_rfl) (fun _ _ _ h => h) hA (.inl ⟨rfl, fun w5 q1 => ?_⟩) ?_
                        · have c0 := cells1_of ((q1.block _ (lt_of_heap HBw'.out) (fun e => e)).trans HBw'.out)
                          go_simp
                        simp only [Act.put, List.setIfInBounds_toArray, List.set]
                        refine wpG_takeT (i := 21) (v := .agg #[.int .i64 y.src, .int .i64 y.key, .int .i64 0]) rfl (fun L hc h => (hc.waits (n := 24) (i := 23) (by kernel_rfl) (hc.waits (n := 23) (i := 22) (by kernel_rfl) (hc.waits (n := 22) (i := 21) (by kernel_rfl) h)))) (by kernel_rfl) (fun _ _ _ h => h) hA (.inl ⟨rfl, fun w5 q1 => ?_⟩) ?_
                        · obtain ⟨c0, c1, c2⟩ := cells3_of ((q1.block _ (lt_of_heap HY30.out) (fun e => e)).trans HY30.out)
                          go_simp
                        simp only [Act.put, List.setIfInBounds_toArray, List.set]
                        refine wpG_doIf (i := 19) rfl (by kernel_rfl) rfl (fun K hK => ?_)
                        have HKK := Lib.hid hK
                        clear hK
                        go_step
                        (with_reducible refine (HG1'.out _ hA).mono ?_)
                        rintro _ w7 ⟨rfl, hu7⟩
                        have hA := hA.trans hu7
                        clear hu7
                        simp only []
                        refine HKK.out _ _ hA ?_
                        clear HKK
                        simp only [Act.put, List.setIfInBounds_toArray, List.set]
                        refine wpG_doIf (i := 22) rfl (by kernel_rfl) rfl (fun K hK => ?_)
                        have HKK := Lib.hid hK
                        clear hK
                        go_step
                        (with_reducible refine (HG2'.out _ hA).mono ?_)
                        rintro _ w7 ⟨rfl, hu7⟩
                        have hA := hA.trans hu7
                        clear hu7
                        simp only []
                        refine HKK.out _ _ hA ?_
                        clear HKK
                        simp only [Act.put, List.setIfInBounds_toArray, List.set]
                        refine wpG_takeT (i := 23) (v := .bool false) rfl (fun L hc h => (hc.waits (n := 24) (i := 23) (by kernel_rfl) h)) (by kernel_rfl) (fun _ _ _ h => h) hA (.inl ⟨rfl, fun w5 q1 => ?_⟩) ?_
                        · have q := same_cell cl w5
                          go_simp
                        simp only [Act.put, List.setIfInBounds_toArray, List.set]
                        refine wpG_tail_lit (k := 24) rfl rfl (by kernel_rfl) ?_
                        simp only [List.drop]
                        go_wp2
                        go_roundw
                        case rel => exact ⟨k + 1, by omega, by go_num, Lib.hid (HU30.out.trans hA)⟩
                        case measure => simp [intOf]; omega
                      | true =>
                        by_cases h1 : y.src = ns
                        · subst h1
                          by_cases h2 : y.key = nk
                          · subst h2
                            refine wp_region_G 24 (fun W => Upd0 w30 W) [false, false, false, false, false, false, false, false, false, false, false, false, false, false, false, false, false, false, false, false, false, false, false, false, false] rfl (by kernel_rfl) ?_
                            generalize w30.drew = we2 at hA ⊢
                            refine wpG_takeT (i := 0) (v := .bool true) rfl (fun L hc h => (hc.waits (n := 24) (i := 16) (by kernel_rfl) (hc.waits (n := 16) (i := 9) (by kernel_rfl) (hc.waits (n := 9) (i := 2) (by kernel_rfl) (hc.waits (n := 2) (i := 1) (by kernel_rfl) (hc.waits (n := 1) (i := 0) (by kernel_rfl) h)))))) (by kernel_rfl) (fun _ _ _ h => h) hA (.inl ⟨rfl, fun w5 q1 => ?_⟩) ?_
                            · go_simp
                            simp only [Act.put, List.setIfInBounds_toArray, List.set]
                            refine wpG_takeT (i := 1) (v := .bool false) rfl (fun L hc h => (hc.waits (n := 24) (i := 16) (by kernel_rfl) (hc.waits (n := 16) (i := 9) (by kernel_rfl) (hc.waits (n := 9) (i := 2) (by kernel_rfl) (hc.waits (n := 2) (i := 1) (by kernel_rfl) h))))) (by kernel_rfl) (fun _ _ _ h => h) hA (.inl ⟨rfl, fun w5 q1 => ?_⟩) ?_
                            · go_simp
                            simp only [Act.put, List.setIfInBounds_toArray, List.set]
                            refine wpG_takeT (i := 2) (v := .bool false) rfl (fun L hc h => (hc.waits (n := 24) (i := 16) (by kernel_rfl) (hc.waits (n := 16) (i := 9) (by kernel_rfl) (hc.waits (n := 9) (i := 2) (by kernel_rfl) h)))) (by kernel_rfl) (fun _ _ _ h => h) hA (.inl ⟨rfl, fun w5 q1 => ?_⟩) ?_
                            · go_simp
                            simp only [Act.put, List.setIfInBounds_toArray, List.set]
                            refine wpG_takeT (i := 3) (v := .pointer (some ⟨bx, 0, none⟩)) rfl (fun L hc h => (hc.waits (n := 24) (i := 16) (by kernel_rfl) (hc.waits (n := 16) (i := 9) (by kernel_rfl) (hc.waits (n := 9) (i := 8) (by kernel_rfl) (hc.waits (n := 8) (i := 7) (by kernel_rfl) (hc.waits (n := 7) (i := 4) (by kernel_rfl) (hc.waits (n := 4) (i := 3) (by kernel_rfl) h))))))) (by kernel_rfl) (fun _ _ _ h => h) hA (.inl ⟨rfl, fun w5 q1 => ?_⟩) ?_
                            · go_simp
                            simp only [Act.put, List.setIfInBounds_toArray, List.set]
                            refine wpG_takeT (i := 4) (v := .int .i64 y.src) rfl (fun L hc h => (hc.waits (n := 24) (i := 16) (by kernel_rfl) (hc.waits (n := 16) (i := 9) (by kernel_rfl) (hc.waits (n := 9) (i := 8) (by kernel_rfl) (hc.waits (n := 8) (i := 7) (by kernel_rfl) (hc.waits (n := 7) (i := 4) (by kernel_rfl) h)))))) (by kernel_rfl) (fun _ _ _ h => h) hA (.inl ⟨rfl, fun w5 q1 => ?_⟩) ?_
                            · obtain ⟨c0, c1, c2, c3⟩ := cells4_at ((q1.block _ (lt_of_heap HX30.out) (fun e => e)).trans HX30.out)
                              go_simp
                            simp only [Act.put, List.setIfInBounds_toArray, List.set]
                            refine wpG_takeT (i := 5) (v := .pointer (some ⟨bn, 0, none⟩)) rfl (fun L hc h => (hc.waits (n := 24) (i := 16) (by kernel_rfl) (hc.waits (n := 16) (i := 9) (by kernel_rfl) (hc.waits (n := 9) (i := 8) (by kernel_rfl) (hc.waits (n := 8) (i := 7) (by kernel_rfl) (hc.waits (n := 7) (i := 6) (by kernel_rfl) (hc.waits (n := 6) (i := 5) (by kernel_rfl) h))))))) (by kernel_rfl) (fun _ _ _ h => h) hA (.inl ⟨rfl, fun w5 q1 => ?_⟩) ?_
                            · go_simp
                            simp only [Act.put, List.setIfInBounds_toArray, List.set]
                            refine wpG_takeT (i := 6) (v := .int .i64 y.src) rfl (fun L hc h => (hc.waits (n := 24) (i := 16) (by kernel_rfl) (hc.waits (n := 16) (i := 9) (by kernel_rfl) (hc.waits (n := 9) (i := 8) (by kernel_rfl) (hc.waits (n := 8) (i := 7) (by kernel_rfl) (hc.waits (n := 7) (i := 6) (by kernel_rfl) h)))))) (by kernel_rfl) (fun _ _ _ h => h) hA (.inl ⟨rfl, fun w5 q1 => ?_⟩) ?_
                            · obtain ⟨c0, c1, c2⟩ := cells3_of ((q1.block _ (lt_of_heap HNw.out) (fun e => e)).trans HNw.out)
                              go_simp
                            simp only [Act.put, List.setIfInBounds_toArray, List.set]
                            refine wpG_takeT (i := 7) (v := .bool false) rfl (fun L hc h => (hc.waits (n := 24) (i := 16) (by kernel_rfl) (hc.waits (n := 16) (i := 9) (by kernel_rfl) (hc.waits (n := 9) (i := 8) (by kernel_rfl) (hc.waits (n := 8) (i := 7) (by kernel_rfl) h))))) (by kernel_rfl) (fun _ _ _ h => h) hA (.inl ⟨rfl, fun w5 q1 => ?_⟩) ?_
                            · go_simp
                            simp only [Act.put, List.setIfInBounds_toArray, List.set]
                            refine wpG_takeT (i := 8) (v := .bool false) rfl (fun L hc h => (hc.waits (n := 24) (i := 16) (by kernel_rfl) (hc.waits (n := 16) (i := 9) (by kernel_rfl) (hc.waits (n := 9) (i := 8) (by kernel_rfl) h)))) (by kernel_rfl) (fun _ _ _ h => h) hA (.inl ⟨rfl, fun w5 q1 => ?_⟩) ?_
                            · go_simp
                            simp only [Act.put, List.setIfInBounds_toArray, List.set]
                            refine wpG_takeT (i := 9) (v := .bool false) rfl (fun L hc h => (hc.waits (n := 24) (i := 16) (by kernel_rfl) (hc.waits (n := 16) (i := 9) (by kernel_rfl) h))) (by kernel_rfl) (fun _ _ _ h => h) hA (.inl ⟨rfl, fun w5 q1 => ?_⟩) ?_
                            · go_simp
                            simp only [Act.put, List.setIfInBounds_toArray, List.set]
                            refine wpG_takeT (i := 10) (v := .pointer (some ⟨bx, 1, none⟩)) rfl (fun L hc h => (hc.waits (n := 24) (i := 16) (by kernel_rfl) (hc.waits (n := 16) (i := 15) (by kernel_rfl) (hc.waits (n := 15) (i := 14) (by kernel_rfl) (hc.waits (n := 14) (i := 11) (by kernel_rfl) (hc.waits (n := 11) (i := 10) (by kernel_rfl) h)))))) (by kernel_rfl) (fun _ _ _ h => h) hA (.inl ⟨rfl, fun w5 q1 => ?_⟩) ?_
                            · go_simp
                            simp only [Act.put, List.setIfInBounds_toArray, List.set]
                            refine wpG_takeT (i := 11) (v := .int .i64 y.key) rfl (fun L hc h => (hc.waits (n := 24) (i := 16) (by kernel_rfl) (hc.waits (n := 16) (i := 15) (by kernel_rfl) (hc.waits (n := 15) (i := 14) (by kernel_rfl) (hc.waits (n := 14) (i := 11) (by kernel_rfl) h))))) (by kernel_rfl) (fun _ _ _ h => h) hA (.inl ⟨rfl, fun w5 q1 => ?_⟩) ?_
                            · obtain ⟨c0, c1, c2, c3⟩ := cells4_at ((q1.block _ (lt_of_heap HX30.out) (fun e => e)).trans HX30.out)
                              go_simp
                            simp only [Act.put, List.setIfInBounds_toArray, List.set]
                            refine wpG_takeT (i := 12) (v := .pointer (some ⟨bn, 1, none⟩)) rfl (fun L hc h => (hc.waits (n := 24) (i := 16) (by kernel_rfl) (hc.waits (n := 16) (i := 15) (by kernel_rfl) (hc.waits (n := 15) (i := 14) (by kernel_rfl) (hc.waits (n := 14) (i := 13) (by kernel_rfl) (hc.waits (n := 13) (i := 12) (by kernel_rfl) h)))))) (by kernel_rfl) (fun _ _ _ h => h) hA (.inl ⟨rfl, fun w5 q1 => ?_⟩) ?_
                            · go_simp
                            simp only [Act.put, List.setIfInBounds_toArray, List.set]
                            refine wpG_takeT (i := 13) (v := .int .i64 y.key) rfl (fun L hc h => (hc.waits (n := 24) (i := 16) (by kernel_rfl) (hc.waits (n := 16) (i := 15) (by kernel_rfl) (hc.waits (n := 15) (i := 14) (by kernel_rfl) (hc.waits (n := 14) (i := 13) (by kernel_rfl) h))))) (by kernel_rfl) (fun _ _ _ h => h) hA (.inl ⟨rfl, fun w5 q1 => ?_⟩) ?_
                            · obtain ⟨c0, c1, c2⟩ := cells3_of ((q1.block _ (lt_of_heap HNw.out) (fun e => e)).trans HNw.out)
                              go_simp
                            simp only [Act.put, List.setIfInBounds_toArray, List.set]
                            refine wpG_takeT (i := 14) (v := .bool false) rfl (fun L hc h => (hc.waits (n := 24) (i := 16) (by kernel_rfl) (hc.waits (n := 16) (i := 15) (by kernel_rfl) (hc.waits (n := 15) (i := 14) (by kernel_rfl) h)))) (by kernel_rfl) (fun _ _ _ h => h) hA (.inl ⟨rfl, fun w5 q1 => ?_⟩) ?_
                            · go_simp
                            simp only [Act.put, List.setIfInBounds_toArray, List.set]
                            refine wpG_takeT (i := 15) (v := .bool false) rfl (fun L hc h => (hc.waits (n := 24) (i := 16) (by kernel_rfl) (hc.waits (n := 16) (i := 15) (by kernel_rfl) h))) (by kernel_rfl) (fun _ _ _ h => h) hA (.inl ⟨rfl, fun w5 q1 => ?_⟩) ?_
                            · go_simp
                            simp only [Act.put, List.setIfInBounds_toArray, List.set]
                            refine wpG_takeT (i := 16) (v := .bool false) rfl (fun L hc h => (hc.waits (n := 24) (i := 16) (by kernel_rfl) h)) (by kernel_rfl) (fun _ _ _ h => h) hA (.inl ⟨rfl, fun w5 q1 => ?_⟩) ?_
                            · go_simp
                            simp only [Act.put, List.setIfInBounds_toArray, List.set]
                            refine wpG_takeT (i := 17) (v := undef) rfl (fun L hc h => (hc.waits (n := 24) (i := 23) (by kernel_rfl) (hc.waits (n := 23) (i := 19) (by kernel_rfl) (hc.waits (n := 19) (i := 17) (by kernel_rfl) h)))) (by kernel_rfl) (fun _ _ _ h => h) hA (.inr ⟨rfl, rfl⟩) ?_
                            simp only [Act.put, List.setIfInBounds_toArray, List.set]
                            refine wpG_takeT (i := 18) (v := undef) rfl (fun L hc h => (hc.waits (n := 24) (i := 23) (by kernel_rfl) (hc.waits (n := 23) (i := 19) (by kernel_rfl) (hc.waits (n := 19) (i := 18) (by kernel_rfl) h)))) (by kernel_rfl) (fun _ _ _ h => h) hA (.inr ⟨rfl, rfl⟩) ?_
                            simp only [Act.put, List.setIfInBounds_toArray, List.set]
                            refine wpG_takeT (i := 19) (v := undef) rfl (fun L hc h => (hc.waits (n := 24) (i := 23) (by kernel_rfl) (hc.waits (n := 23) (i := 19) (by kernel_rfl) h))) (by kernel_rfl) (fun _ _ _ h => h) hA (.inr ⟨rfl, rfl⟩) ?_
                            simp only [Act.put, List.setIfInBounds_toArray, List.set]
                            refine wpG_takeT (i := 20) (v := undef) rfl (fun L hc h => (hc.waits (n := 24) (i := 23) (by kernel_rfl) (hc.waits (n := 23) (i := 22) (by kernel_rfl) (hc.waits (n := 22) (i := 20) (by kernel_rfl) h)))) (by kernel_rfl) (fun _ _ _ h => h) hA (.inr ⟨rfl, rfl⟩) ?_
                            simp only [Act.put, List.setIfInBounds_toArray, List.set]
                            refine wpG_takeT (i := 21) (v := undef) rfl (fun L hc h => (hc.waits (n := 24) (i := 23) (by kernel_rfl) (hc.waits (n := 23) (i := 22) (by kernel_rfl) (hc.waits (n := 22) (i := 21) (by kernel_rfl) h)))) (by kernel_rfl) (fun _ _ _ h => h) hA (.inr ⟨rfl, rfl⟩) ?_
                            simp only [Act.put, List.setIfInBounds_toArray, List.set]
                            refine wpG_takeT (i := 22) (v := undef) rfl (fun L hc h => (hc.waits (n := 24) (i := 23) (by kernel_rfl) (hc.waits (n := 23) (i := 22) (by kernel_rfl) h))) (by kernel_rfl) (fun _ _ _ h => h) hA (.inr ⟨rfl, rfl⟩) ?_
                            simp only [Act.put, List.setIfInBounds_toArray, List.set]
                            refine wpG_takeT (i := 23) (v := undef) rfl (fun L hc h => (hc.waits (n := 24) (i := 23) (by kernel_rfl) h)) (by kernel_rfl) (fun _ _ _ h => h) hA (.inr ⟨rfl, rfl⟩) ?_
                            simp only [Act.put, List.setIfInBounds_toArray, List.set]
                            refine wpG_tail_lit (k := 24) rfl rfl (by kernel_rfl) ?_
                            simp only [List.drop]
                            go_wp2
                            go_roundw
                            case rel => exact ⟨k + 1, by omega, by go_num, Lib.hid (HU30.out.trans hA)⟩
                            case measure => simp [intOf]; omega
                          · have hcc := (HST.out (by
                              have e2 : (nk == y.key) = false := by simpa using Ne.symm h2
                              simp [sameK, e2])).symm
                            subst hcc
                            refine wp_region_G 24 (fun W => Upd0 w30 W) [false, false, false, false, false, false, false, false, false, false, false, false, false, false, false, false, false, false, false, false, false, false, false, false, false] rfl (by kernel_rfl) ?_
                            generalize w30.drew = we2 at hA ⊢
                            refine wpG_takeT (i := 0) (v := .bool true) rfl (fun L hc h => (hc.waits (n := 24) (i := 16) (by kernel_rfl) (hc.waits (n := 16) (i := 9) (by kernel_rfl) (hc.waits (n := 9) (i := 2) (by kernel_rfl) (hc.waits (n := 2) (i := 1) (by kernel_rfl) (hc.waits (n := 1) (i := 0) (by kernel_rfl) h)))))) (by kernel_rfl) (fun _ _ _ h => h) hA (.inl ⟨rfl, fun w5 q1 => ?_⟩) ?_
                            · go_simp
                            simp only [Act.put, List.setIfInBounds_toArray, List.set]
                            refine wpG_takeT (i := 1) (v := .bool false) rfl (fun L hc h => (hc.waits (n := 24) (i := 16) (by kernel_rfl) (hc.waits (n := 16) (i := 9) (by kernel_rfl) (hc.waits (n := 9) (i := 2) (by kernel_rfl) (hc.waits (n := 2) (i := 1) (by kernel_rfl) h))))) (by kernel_rfl) (fun _ _ _ h => h) hA (.inl ⟨rfl, fun w5 q1 => ?_⟩) ?_
                            · go_simp
                            simp only [Act.put, List.setIfInBounds_toArray, List.set]
                            refine wpG_takeT (i := 2) (v := .bool false) rfl (fun L hc h => (hc.waits (n := 24) (i := 16) (by kernel_rfl) (hc.waits (n := 16) (i := 9) (by kernel_rfl) (hc.waits (n := 9) (i := 2) (by kernel_rfl) h)))) (by kernel_rfl) (fun _ _ _ h => h) hA (.inl ⟨rfl, fun w5 q1 => ?_⟩) ?_
                            · go_simp
                            simp only [Act.put, List.setIfInBounds_toArray, List.set]
                            refine wpG_takeT (i := 3) (v := .pointer (some ⟨bx, 0, none⟩)) rfl (fun L hc h => (hc.waits (n := 24) (i := 16) (by kernel_rfl) (hc.waits (n := 16) (i := 9) (by kernel_rfl) (hc.waits (n := 9) (i := 8) (by kernel_rfl) (hc.waits (n := 8) (i := 7) (by kernel_rfl) (hc.waits (n := 7) (i := 4) (by kernel_rfl) (hc.waits (n := 4) (i := 3) (by kernel_rfl) h))))))) (by kernel_rfl) (fun _ _ _ h => h) hA (.inl ⟨rfl, fun w5 q1 => ?_⟩) ?_
                            · go_simp
                            simp only [Act.put, List.setIfInBounds_toArray, List.set]
                            refine wpG_takeT (i := 4) (v := .int .i64 y.src) rfl (fun L hc h => (hc.waits (n := 24) (i := 16) (by kernel_rfl) (hc.waits (n := 16) (i := 9) (by kernel_rfl) (hc.waits (n := 9) (i := 8) (by kernel_rfl) (hc.waits (n := 8) (i := 7) (by kernel_rfl) (hc.waits (n := 7) (i := 4) (by kernel_rfl) h)))))) (by kernel_rfl) (fun _ _ _ h => h) hA (.inl ⟨rfl, fun w5 q1 => ?_⟩) ?_
                            · obtain ⟨c0, c1, c2, c3⟩ := cells4_at ((q1.block _ (lt_of_heap HX30.out) (fun e => e)).trans HX30.out)
                              go_simp
                            simp only [Act.put, List.setIfInBounds_toArray, List.set]
                            refine wpG_takeT (i := 5) (v := .pointer (some ⟨bn, 0, none⟩)) rfl (fun L hc h => (hc.waits (n := 24) (i := 16) (by kernel_rfl) (hc.waits (n := 16) (i := 9) (by kernel_rfl) (hc.waits (n := 9) (i := 8) (by kernel_rfl) (hc.waits (n := 8) (i := 7) (by kernel_rfl) (hc.waits (n := 7) (i := 6) (by kernel_rfl) (hc.waits (n := 6) (i := 5) (by kernel_rfl) h))))))) (by kernel_rfl) (fun _ _ _ h => h) hA (.inl ⟨rfl, fun w5 q1 => ?_⟩) ?_
                            · go_simp
                            simp only [Act.put, List.setIfInBounds_toArray, List.set]
                            refine wpG_takeT (i := 6) (v := .int .i64 y.src) rfl (fun L hc h => (hc.waits (n := 24) (i := 16) (by kernel_rfl) (hc.waits (n := 16) (i := 9) (by kernel_rfl) (hc.waits (n := 9) (i := 8) (by kernel_rfl) (hc.waits (n := 8) (i := 7) (by kernel_rfl) (hc.waits (n := 7) (i := 6) (by kernel_rfl) h)))))) (by kernel_rfl) (fun _ _ _ h => h) hA (.inl ⟨rfl, fun w5 q1 => ?_⟩) ?_
                            · obtain ⟨c0, c1, c2⟩ := cells3_of ((q1.block _ (lt_of_heap HNw.out) (fun e => e)).trans HNw.out)
                              go_simp
                            simp only [Act.put, List.setIfInBounds_toArray, List.set]
                            refine wpG_takeT (i := 7) (v := .bool false) rfl (fun L hc h => (hc.waits (n := 24) (i := 16) (by kernel_rfl) (hc.waits (n := 16) (i := 9) (by kernel_rfl) (hc.waits (n := 9) (i := 8) (by kernel_rfl) (hc.waits (n := 8) (i := 7) (by kernel_rfl) h))))) (by kernel_rfl) (fun _ _ _ h => h) hA (.inl ⟨rfl, fun w5 q1 => ?_⟩) ?_
                            · go_simp
                            simp only [Act.put, List.setIfInBounds_toArray, List.set]
                            refine wpG_takeT (i := 8) (v := .bool false) rfl (fun L hc h => (hc.waits (n := 24) (i := 16) (by kernel_rfl) (hc.waits (n := 16) (i := 9) (by kernel_rfl) (hc.waits (n := 9) (i := 8) (by kernel_rfl) h)))) (by kernel_rfl) (fun _ _ _ h => h) hA (.inl ⟨rfl, fun w5 q1 => ?_⟩) ?_
                            · go_simp
                            simp only [Act.put, List.setIfInBounds_toArray, List.set]
                            refine wpG_takeT (i := 9) (v := .bool false) rfl (fun L hc h => (hc.waits (n := 24) (i := 16) (by kernel_rfl) (hc.waits (n := 16) (i := 9) (by kernel_rfl) h))) (by kernel_rfl) (fun _ _ _ h => h) hA (.inl ⟨rfl, fun w5 q1 => ?_⟩) ?_
                            · go_simp
                            simp only [Act.put, List.setIfInBounds_toArray, List.set]
                            refine wpG_takeT (i := 10) (v := .pointer (some ⟨bx, 1, none⟩)) rfl (fun L hc h => (hc.waits (n := 24) (i := 16) (by kernel_rfl) (hc.waits (n := 16) (i := 15) (by kernel_rfl) (hc.waits (n := 15) (i := 14) (by kernel_rfl) (hc.waits (n := 14) (i := 11) (by kernel_rfl) (hc.waits (n := 11) (i := 10) (by kernel_rfl) h)))))) (by kernel_rfl) (fun _ _ _ h => h) hA (.inl ⟨rfl, fun w5 q1 => ?_⟩) ?_
                            · go_simp
                            simp only [Act.put, List.setIfInBounds_toArray, List.set]
                            refine wpG_takeT (i := 11) (v := .int .i64 y.key) rfl (fun L hc h => (hc.waits (n := 24) (i := 16) (by kernel_rfl) (hc.waits (n := 16) (i := 15) (by kernel_rfl) (hc.waits (n := 15) (i := 14) (by kernel_rfl) (hc.waits (n := 14) (i := 11) (by kernel_rfl) h))))) (by kernel_rfl) (fun _ _ _ h => h) hA (.inl ⟨rfl, fun w5 q1 => ?_⟩) ?_
                            · obtain ⟨c0, c1, c2, c3⟩ := cells4_at ((q1.block _ (lt_of_heap HX30.out) (fun e => e)).trans HX30.out)
                              go_simp
                            simp only [Act.put, List.setIfInBounds_toArray, List.set]
                            refine wpG_takeT (i := 12) (v := .pointer (some ⟨bn, 1, none⟩)) rfl (fun L hc h => (hc.waits (n := 24) (i := 16) (by kernel_rfl) (hc.waits (n := 16) (i := 15) (by kernel_rfl) (hc.waits (n := 15) (i := 14) (by kernel_rfl) (hc.waits (n := 14) (i := 13) (by kernel_rfl) (hc.waits (n := 13) (i := 12) (by kernel_rfl) h)))))) (by kernel_rfl) (fun _ _ _ h => h) hA (.inl ⟨rfl, fun w5 q1 => ?_⟩) ?_
                            · go_simp
                            simp only [Act.put, List.setIfInBounds_toArray, List.set]
                            refine wpG_takeT (i := 13) (v := .int .i64 nk) rfl (fun L hc h => (hc.waits (n := 24) (i := 16) (by kernel_rfl) (hc.waits (n := 16) (i := 15) (by kernel_rfl) (hc.waits (n := 15) (i := 14) (by kernel_rfl) (hc.waits (n := 14) (i := 13) (by kernel_rfl) h))))) (by kernel_rfl) (fun _ _ _ h => h) hA (.inl ⟨rfl, fun w5 q1 => ?_⟩) ?_
                            · obtain ⟨c0, c1, c2⟩ := cells3_of ((q1.block _ (lt_of_heap HNw.out) (fun e => e)).trans HNw.out)
                              go_simp
                            simp only [Act.put, List.setIfInBounds_toArray, List.set]
                            refine wpG_takeT (i := 14) (v := .bool true) rfl (fun L hc h => (hc.waits (n := 24) (i := 16) (by kernel_rfl) (hc.waits (n := 16) (i := 15) (by kernel_rfl) (hc.waits (n := 15) (i := 14) (by kernel_rfl) h)))) (by kernel_rfl) (fun _ _ _ h => h) hA (.inl ⟨rfl, fun w5 q1 => ?_⟩) ?_
                            · go_simp
                            simp only [Act.put, List.setIfInBounds_toArray, List.set]
                            refine wpG_takeT (i := 15) (v := .bool true) rfl (fun L hc h => (hc.waits (n := 24) (i := 16) (by kernel_rfl) (hc.waits (n := 16) (i := 15) (by kernel_rfl) h))) (by kernel_rfl) (fun _ _ _ h => h) hA (.inl ⟨rfl, fun w5 q1 => ?_⟩) ?_
                            · go_simp
                            simp only [Act.put, List.setIfInBounds_toArray, List.set]
                            refine wpG_takeT (i := 16) (v := .bool true) rfl (fun L hc h => (hc.waits (n := 24) (i := 16) (by kernel_rfl) h)) (by kernel_rfl) (fun _ _ _ h => h) hA (.inl ⟨rfl, fun w5 q1 => ?_⟩) ?_
                            · go_simp
                            simp only [Act.put, List.setIfInBounds_toArray, List.set]
                            refine wpG_takeT (i := 17) (v := .agg #[.slice a3 T1.length d3]) rfl (fun L hc h => (hc.waits (n := 24) (i := 23) (by kernel_rfl) (hc.waits (n := 23) (i := 19) (by kernel_rfl) (hc.waits (n := 19) (i := 17) (by kernel_rfl) h)))) (by kernel_rfl) (fun _ _ _ h => h) hA (.inl ⟨rfl, fun w5 q1 => ?_⟩) ?_
                            · have c0 := cells1_of ((q1.block _ (lt_of_heap HBw.out) (fun e => e)).trans HBw.out)
                              go_simp
                            simp only [Act.put, List.setIfInBounds_toArray, List.set]
                            refine wpG_takeT (i := 18) (v := .agg #[.int .i64 y.src, .int .i64 y.key, .int .i64 0]) rfl (fun L hc h => (hc.waits (n := 24) (i := 23) (by kernel_rfl) (hc.waits (n := 23) (i := 19) (by kernel_rfl) (hc.waits (n := 19) (i := 18) (by kernel_rfl) h)))) (by kernel_rfl) (fun _ _ _ h => h) hA (.inl ⟨rfl, fun w5 q1 => ?_⟩) ?_
                            · obtain ⟨c0, c1, c2⟩ := cells3_of ((q1.block _ (lt_of_heap HY30.out) (fun e => e)).trans HY30.out)
                              go_simp
                            simp only [Act.put, List.setIfInBounds_toArray, List.set]
                            refine wpG_takeT (i := 20) (v := .agg #[.slice a4 T2.length d4]) rfl (fun L hc h => (hc.waits (n := 24) (i := 23) (by kernel_rfl) (hc.waits (n := 23) (i := 22) (by kernel_rfl) (hc.waits (n := 22) (i := 20) (by kernel_rfl) h)))) (by kernel_rfl) (fun _ _ _ h => h) hA (.inl ⟨rfl, fun w5 q1 => ?_⟩) ?_
                            · have c0 := cells1_of ((q1.block _ (lt_of_heap HBw'.out) (fun e => e)).trans HBw'.out)
                              go_simp
                            simp only [Act.put, List.setIfInBounds_toArray, List.set]
                            refine wpG_takeT (i := 21) (v := .agg #[.int .i64 y.src, .int .i64 y.key, .int .i64 0]) rfl (fun L hc h => (hc.waits (n := 24) (i := 23) (by kernel_rfl) (hc.waits (n := 23) (i := 22) (by kernel_rfl) (hc.waits (n := 22) (i := 21) (by kernel_rfl) h)))) (by kernel_rfl) (fun _ _ _ h => h) hA (.inl ⟨rfl, fun w5 q1 => ?_⟩) ?_
                            · obtain ⟨c0, c1, c2⟩ := cells3_of ((q1.block _ (lt_of_heap HY30.out) (fun e => e)).trans HY30.out)
                              go_simp
                            simp only [Act.put, List.setIfInBounds_toArray, List.set]
                            refine wpG_doIf (i := 19) rfl (by kernel_rfl) rfl (fun K hK => ?_)
                            have HKK := Lib.hid hK
                            clear hK
                            go_step
                            (with_reducible refine (HG1'.out _ hA).mono ?_)
                            rintro _ w7 ⟨rfl, hu7⟩
                            have hA := hA.trans hu7
                            clear hu7
                            simp only []
                            refine HKK.out _ _ hA ?_
                            clear HKK
                            simp only [Act.put, List.setIfInBounds_toArray, List.set]
                            refine wpG_doIf (i := 22) rfl (by kernel_rfl) rfl (fun K hK => ?_)
                            have HKK := Lib.hid hK
                            clear hK
                            go_step
                            (with_reducible refine (HG2'.out _ hA).mono ?_)
                            rintro _ w7 ⟨rfl, hu7⟩
                            have hA := hA.trans hu7
                            clear hu7
                            simp only []
                            refine HKK.out _ _ hA ?_
                            clear HKK
                            simp only [Act.put, List.setIfInBounds_toArray, List.set]
                            refine wpG_takeT (i := 23) (v := .bool false) rfl (fun L hc h => (hc.waits (n := 24) (i := 23) (by kernel_rfl) h)) (by kernel_rfl) (fun _ _ _ h => h) hA (.inl ⟨rfl, fun w5 q1 => ?_⟩) ?_
                            · have q := same_cell cl w5
                              go_simp
                            simp only [Act.put, List.setIfInBounds_toArray, List.set]
                            refine wpG_tail_lit (k := 24) rfl rfl (by kernel_rfl) ?_
                            simp only [List.drop]
                            go_wp2
                            go_roundw
                            case rel => exact ⟨k + 1, by omega, by go_num, Lib.hid (HU30.out.trans hA)⟩
                            case measure => simp [intOf]; omega
                        · have hcc := (HST.out (by
                            have e2 : (ns == y.src) = false := by simpa using Ne.symm h1
                            simp [sameK, e2])).symm
                          subst hcc
                          refine wp_region_G 24 (fun W => Upd0 w30 W) [false, false, false, false, false, false, false, false, false, false, false, false, false, false, false, false, false, false, false, false, false, false, false, false, false] rfl (by kernel_rfl) ?_
                          generalize w30.drew = we2 at hA ⊢
                          refine wpG_takeT (i := 0) (v := .bool true) rfl (fun L hc h => (hc.waits (n := 24) (i := 16) (by kernel_rfl) (hc.waits (n := 16) (i := 9) (by kernel_rfl) (hc.waits (n := 9) (i := 2) (by kernel_rfl) (hc.waits (n := 2) (i := 1) (by kernel_rfl) (hc.waits (n := 1) (i := 0) (by kernel_rfl) h)))))) (by kernel_rfl) (fun _ _ _ h => h) hA (.inl ⟨rfl, fun w5 q1 => ?_⟩) ?_
                          · go_simp
                          simp only [Act.put, List.setIfInBounds_toArray, List.set]
                          refine wpG_takeT (i := 1) (v := .bool false) rfl (fun L hc h => (hc.waits (n := 24) (i := 16) (by kernel_rfl) (hc.waits (n := 16) (i := 9) (by kernel_rfl) (hc.waits (n := 9) (i := 2) (by kernel_rfl) (hc.waits (n := 2) (i := 1) (by kernel_rfl) h))))) (by kernel_rfl) (fun _ _ _ h => h) hA (.inl ⟨rfl, fun w5 q1 => ?_⟩) ?_
                          · go_simp
                          simp only [Act.put, List.setIfInBounds_toArray, List.set]
                          refine wpG_takeT (i := 2) (v := .bool false) rfl (fun L hc h => (hc.waits (n := 24) (i := 16) (by kernel_rfl) (hc.waits (n := 16) (i := 9) (by kernel_rfl) (hc.waits (n := 9) (i := 2) (by kernel_rfl) h)))) (by kernel_rfl) (fun _ _ _ h => h) hA (.inl ⟨rfl, fun w5 q1 => ?_⟩) ?_
                          · go_simp
                          simp only [Act.put, List.setIfInBounds_toArray, List.set]
                          refine wpG_takeT (i := 3) (v := .pointer (some ⟨bx, 0, none⟩)) rfl (fun L hc h => (hc.waits (n := 24) (i := 16) (by kernel_rfl) (hc.waits (n := 16) (i := 9) (by kernel_rfl) (hc.waits (n := 9) (i := 8) (by kernel_rfl) (hc.waits (n := 8) (i := 7) (by kernel_rfl) (hc.waits (n := 7) (i := 4) (by kernel_rfl) (hc.waits (n := 4) (i := 3) (by kernel_rfl) h))))))) (by kernel_rfl) (fun _ _ _ h => h) hA (.inl ⟨rfl, fun w5 q1 => ?_⟩) ?_
                          · go_simp
                          simp only [Act.put, List.setIfInBounds_toArray, List.set]
                          refine wpG_takeT (i := 4) (v := .int .i64 y.src) rfl (fun L hc h => (hc.waits (n := 24) (i := 16) (by kernel_rfl) (hc.waits (n := 16) (i := 9) (by kernel_rfl) (hc.waits (n := 9) (i := 8) (by kernel_rfl) (hc.waits (n := 8) (i := 7) (by kernel_rfl) (hc.waits (n := 7) (i := 4) (by kernel_rfl) h)))))) (by kernel_rfl) (fun _ _ _ h => h) hA (.inl ⟨rfl, fun w5 q1 => ?_⟩) ?_
                          · obtain ⟨c0, c1, c2, c3⟩ := cells4_at ((q1.block _ (lt_of_heap HX30.out) (fun e => e)).trans HX30.out)
                            go_simp
                          simp only [Act.put, List.setIfInBounds_toArray, List.set]
                          refine wpG_takeT (i := 5) (v := .pointer (some ⟨bn, 0, none⟩)) rfl (fun L hc h => (hc.waits (n := 24) (i := 16) (by kernel_rfl) (hc.waits (n := 16) (i := 9) (by kernel_rfl) (hc.waits (n := 9) (i := 8) (by kernel_rfl) (hc.waits (n := 8) (i := 7) (by kernel_rfl) (hc.waits (n := 7) (i := 6) (by kernel_rfl) (hc.waits (n := 6) (i := 5) (by kernel_rfl) h))))))) (by kernel_rfl) (fun _ _ _ h => h) hA (.inl ⟨rfl, fun w5 q1 => ?_⟩) ?_
                          · go_simp
                          simp only [Act.put, List.setIfInBounds_toArray, List.set]
                          refine wpG_takeT (i := 6) (v := .int .i64 ns) rfl (fun L hc h => (hc.waits (n := 24) (i := 16) (by kernel_rfl) (hc.waits (n := 16) (i := 9) (by kernel_rfl) (hc.waits (n := 9) (i := 8) (by kernel_rfl) (hc.waits (n := 8) (i := 7) (by kernel_rfl) (hc.waits (n := 7) (i := 6) (by kernel_rfl) h)))))) (by kernel_rfl) (fun _ _ _ h => h) hA (.inl ⟨rfl, fun w5 q1 => ?_⟩) ?_
                          · obtain ⟨c0, c1, c2⟩ := cells3_of ((q1.block _ (lt_of_heap HNw.out) (fun e => e)).trans HNw.out)
                            go_simp
                          simp only [Act.put, List.setIfInBounds_toArray, List.set]
                          refine wpG_takeT (i := 7) (v := .bool true) rfl (fun L hc h => (hc.waits (n := 24) (i := 16) (by kernel_rfl) (hc.waits (n := 16) (i := 9) (by kernel_rfl) (hc.waits (n := 9) (i := 8) (by kernel_rfl) (hc.waits (n := 8) (i := 7) (by kernel_rfl) h))))) (by kernel_rfl) (fun _ _ _ h => h) hA (.inl ⟨rfl, fun w5 q1 => ?_⟩) ?_
                          · go_simp
                          simp only [Act.put, List.setIfInBounds_toArray, List.set]
                          refine wpG_takeT (i := 8) (v := .bool true) rfl (fun L hc h => (hc.waits (n := 24) (i := 16) (by kernel_rfl) (hc.waits (n := 16) (i := 9) (by kernel_rfl) (hc.waits (n := 9) (i := 8) (by kernel_rfl) h)))) (by kernel_rfl) (fun _ _ _ h => h) hA (.inl ⟨rfl, fun w5 q1 => ?_⟩) ?_
                          · go_simp
                          simp only [Act.put, List.setIfInBounds_toArray, List.set]
                          refine wpG_takeT (i := 9) (v := .bool true) rfl (fun L hc h => (hc.waits (n := 24) (i := 16) (by kernel_rfl) (hc.waits (n := 16) (i := 9) (by kernel_rfl) h))) (by kernel_rfl) (fun _ _ _ h => h) hA (.inl ⟨rfl, fun w5 q1 => ?_⟩) ?_
                          · go_simp
                          simp only [Act.put, List.setIfInBounds_toArray, List.set]
                          refine wpG_takeT (i := 10) (v := undef) rfl (fun L hc h => (hc.waits (n := 24) (i := 16) (by kernel_rfl) (hc.waits (n := 16) (i := 15) (by kernel_rfl) (hc.waits (n := 15) (i := 14) (by kernel_rfl) (hc.waits (n := 14) (i := 11) (by kernel_rfl) (hc.waits (n := 11) (i := 10) (by kernel_rfl) h)))))) (by kernel_rfl) (fun _ _ _ h => h) hA (.inr ⟨rfl, rfl⟩) ?_
                          simp only [Act.put, List.setIfInBounds_toArray, List.set]
                          refine wpG_takeT (i := 11) (v := undef) rfl (fun L hc h => (hc.waits (n := 24) (i := 16) (by kernel_rfl) (hc.waits (n := 16) (i := 15) (by kernel_rfl) (hc.waits (n := 15) (i := 14) (by kernel_rfl) (hc.waits (n := 14) (i := 11) (by kernel_rfl) h))))) (by kernel_rfl) (fun _ _ _ h => h) hA (.inr ⟨rfl, rfl⟩) ?_
                          simp only [Act.put, List.setIfInBounds_toArray, List.set]
                          refine wpG_takeT (i := 12) (v := undef) rfl (fun L hc h => (hc.waits (n := 24) (i := 16) (by kernel_rfl) (hc.waits (n := 16) (i := 15) (by kernel_rfl) (hc.waits (n := 15) (i := 14) (by kernel_rfl) (hc.waits (n := 14) (i := 13) (by kernel_rfl) (hc.waits (n := 13) (i := 12) (by kernel_rfl) h)))))) (by kernel_rfl) (fun _ _ _ h => h) hA (.inr ⟨rfl, rfl⟩) ?_
                          simp only [Act.put, List.setIfInBounds_toArray, List.set]
                          refine wpG_takeT (i := 13) (v := undef) rfl (fun L hc h => (hc.waits (n := 24) (i := 16) (by kernel_rfl) (hc.waits (n := 16) (i := 15) (by kernel_rfl) (hc.waits (n := 15) (i := 14) (by kernel_rfl) (hc.waits (n := 14) (i := 13) (by kernel_rfl) h))))) (by kernel_rfl) (fun _ _ _ h => h) hA (.inr ⟨rfl, rfl⟩) ?_
                          simp only [Act.put, List.setIfInBounds_toArray, List.set]
                          refine wpG_takeT (i := 14) (v := undef) rfl (fun L hc h => (hc.waits (n := 24) (i := 16) (by kernel_rfl) (hc.waits (n := 16) (i := 15) (by kernel_rfl) (hc.waits (n := 15) (i := 14) (by kernel_rfl) h)))) (by kernel_rfl) (fun _ _ _ h => h) hA (.inr ⟨rfl, rfl⟩) ?_
                          simp only [Act.put, List.setIfInBounds_toArray, List.set]
                          refine wpG_takeT (i := 15) (v := .bool true) rfl (fun L hc h => (hc.waits (n := 24) (i := 16) (by kernel_rfl) (hc.waits (n := 16) (i := 15) (by kernel_rfl) h))) (by kernel_rfl) (fun _ _ _ h => h) hA (.inl ⟨rfl, fun w5 q1 => ?_⟩) ?_
                          · go_simp
                          simp only [Act.put, List.setIfInBounds_toArray, List.set]
                          refine wpG_takeT (i := 16) (v := .bool true) rfl (fun L hc h => (hc.waits (n := 24) (i := 16) (by kernel_rfl) h)) (by kernel_rfl) (fun _ _ _ h => h) hA (.inl ⟨rfl, fun w5 q1 => ?_⟩) ?_
                          · go_simp
                          simp only [Act.put, List.setIfInBounds_toArray, List.set]
                          refine wpG_takeT (i := 17) (v := .agg #[.slice a3 T1.length d3]) rfl (fun L hc h => (hc.waits (n := 24) (i := 23) (by kernel_rfl) (hc.waits (n := 23) (i := 19) (by kernel_rfl) (hc.waits (n := 19) (i := 17) (by kernel_rfl) h)))) (by kernel_rfl) (fun _ _ _ h => h) hA (.inl ⟨rfl, fun w5 q1 => ?_⟩) ?_
                          · have c0 := cells1_of ((q1.block _ (lt_of_heap HBw.out) (fun e => e)).trans HBw.out)
                            go_simp
                          simp only [Act.put, List.setIfInBounds_toArray, List.set]
                          refine wpG_takeT (i := 18) (v := .agg #[.int .i64 y.src, .int .i64 y.key, .int .i64 0]) rfl (fun L hc h => (hc.waits (n := 24) (i := 23) (by kernel_rfl) (hc.waits (n := 23) (i := 19) (by kernel_rfl) (hc.waits (n := 19) (i := 18) (by kernel_rfl) h)))) (by kernel_rfl) (fun _ _ _ h => h) hA (.inl ⟨rfl, fun w5 q1 => ?_⟩) ?_
                          · obtain ⟨c0, c1, c2⟩ := cells3_of ((q1.block _ (lt_of_heap HY30.out) (fun e => e)).trans HY30.out)
                            go_simp
                          simp only [Act.put, List.setIfInBounds_toArray, List.set]
                          refine wpG_takeT (i := 20) (v := .agg #[.slice a4 T2.length d4]) rfl (fun L hc h => (hc.waits (n := 24) (i := 23) (by kernel_rfl) (hc.waits (n := 23) (i := 22) (by kernel_rfl) (hc.waits (n := 22) (i := 20) (by kernel_rfl) h)))) (by kernel_rfl) (fun _ _ _ h => h) hA (.inl ⟨rfl, fun w5 q1 => ?_⟩) ?_
                          · have c0 := cells1_of ((q1.block _ (lt_of_heap HBw'.out) (fun e => e)).trans HBw'.out)
                            go_simp
                          simp only [Act.put, List.setIfInBounds_toArray, List.set]
                          refine wpG_takeT (i := 21) (v := .agg #[.int .i64 y.src, .int .i64 y.key, .int .i64 0]) rfl (fun L hc h => (hc.waits (n := 24) (i := 23) (by kernel_rfl) (hc.waits (n := 23) (i := 22) (by kernel_rfl) (hc.waits (n := 22) (i := 21) (by kernel_rfl) h)))) (by kernel_rfl) (fun _ _ _ h => h) hA (.inl ⟨rfl, fun w5 q1 => ?_⟩) ?_
                          · obtain ⟨c0, c1, c2⟩ := cells3_of ((q1.block _ (lt_of_heap HY30.out) (fun e => e)).trans HY30.out)
                            go_simp
                          simp only [Act.put, List.setIfInBounds_toArray, List.set]
                          refine wpG_doIf (i := 19) rfl (by kernel_rfl) rfl (fun K hK => ?_)
                          have HKK := Lib.hid hK
                          clear hK
                          go_step
                          (with_reducible refine (HG1'.out _ hA).mono ?_)
                          rintro _ w7 ⟨rfl, hu7⟩
                          have hA := hA.trans hu7
                          clear hu7
                          simp only []
                          refine HKK.out _ _ hA ?_
                          clear HKK
                          simp only [Act.put, List.setIfInBounds_toArray, List.set]
                          refine wpG_doIf (i := 22) rfl (by kernel_rfl) rfl (fun K hK => ?_)
                          have HKK := Lib.hid hK
                          clear hK
                          go_step
                          (with_reducible refine (HG2'.out _ hA).mono ?_)
                          rintro _ w7 ⟨rfl, hu7⟩
                          have hA := hA.trans hu7
                          clear hu7
                          simp only []
                          refine HKK.out _ _ hA ?_
                          clear HKK
                          simp only [Act.put, List.setIfInBounds_toArray, List.set]
                          refine wpG_takeT (i := 23) (v := .bool false) rfl (fun L hc h => (hc.waits (n := 24) (i := 23) (by kernel_rfl) h)) (by kernel_rfl) (fun _ _ _ h => h) hA (.inl ⟨rfl, fun w5 q1 => ?_⟩) ?_
                          · have q := same_cell cl w5
                            go_simp
                          simp only [Act.put, List.setIfInBounds_toArray, List.set]
                          refine wpG_tail_lit (k := 24) rfl rfl (by kernel_rfl) ?_
                          simp only [List.drop]
                          go_wp2
                          go_roundw
                          case rel => exact ⟨k + 1, by omega, by go_num, Lib.hid (HU30.out.trans hA)⟩
                          case measure => simp [intOf]; omega
                    · obtain rfl : k = T.length := by omega
                      go_wp2
                      go_ret
                      exact ⟨rfl, HF4.out.trans (HG11.out.trans (HU17.out.trans (HU18.out.trans (HUW.out.trans HR.out))))⟩
      · go_wp2
        go_ret
        exact ⟨rfl, HF4.out⟩
end Go.Proofs.YtbonfdkgkcbkmaaGreat
