/- Walks: table.Put behind all others, table.Get. -/
import Derived.Test.YtbonfdkgkcbkmaaGreatW1
import Derived.Test.YtbonfdkgkcbkmaaGreatW11
import Derived.Test.YtbonfdkgkcbkmaaGreatW13
set_option linter.unusedVariables false
set_option linter.unusedSimpArgs false

section
namespace Go.Proofs.YtbonfdkgkcbkmaaGreat
set_option maxRecDepth 100000
open Go.RowKit Go.Shelf

attribute [local go_sem] Oper.semAt_some run_store_func
/-! ### Get -/
set_option maxHeartbeats 1000000 in
theorem idxfC_any {a : Option Addr} {l : List KcV} {c g : Nat} {lb : Array Value} {p : KcV → Bool} (w : World) (h : KcsIn w a l) (hl : l.length ≤ 140737488351232) (eg : ∀ args w, (callFunc g args).run Tryz.prog w = .ok (.enter g args) w)
    (hc : ∀ z W, z ∈ l → Upd0 w W → Calls Tryz.prog g (#[.agg #[.int .i64 z.src, .int .i64 z.key, .int .i64 z.count, .int .i64 z.sum]] ++ lb) W fun e w' => e = .returned (.bool (p z)) ∧ Upd0 W w') :
    Calls Tryz.prog 65 #[.slice a l.length c, .func (.func g) #[] lb] w fun e w' => e = .returned (.int .i64 (idxP p l)) ∧ Upd0 w w' := by
  have H := Lib.hid h; have HC := Lib.hid hc
  clear h hc
  go_enter Tryz.func65, Tryz.ntmps65
  go_wp2_with fail
  go_loopw [8] (fun i wr => ∃ k : Nat, k ≤ l.length ∧ i = .int .i64 k ∧ Hid (idxFrom p (l.drop k) k = idxP p l) ∧ Hid (Upd0 w wr)) (fun i _ => l.length - (intOf i).toNat)
  case atStart => exact ⟨0, Nat.zero_le _, rfl, Lib.hid rfl, Lib.hid (Upd.refl _ w)⟩
  case round =>
    obtain ⟨k, hk, rfl, hr, hu⟩ := hrel
    by_cases hlt : k < l.length
    · obtain ⟨z, hz⟩ : ∃ z, l[k]? = some z := ⟨_, List.getElem?_eq_getElem hlt⟩
      obtain ⟨b, o, rfl, c0, c1, c2, c3⟩ := (H.out.kept hu.out).at hz
      have HR : Hid (idxFrom p (z :: l.drop (k + 1)) k = idxP p l) := by rw [← drop_cons' hz]; exact hr
      have HZ := Lib.hid (HC.out z wr (List.mem_of_getElem? hz) hu.out)
      clear hr hz
      go_wp2_with fail
      refine HZ.out.mono ?_
      rintro e w2 ⟨rfl, hu2⟩
      have HU2 := Lib.hid (hu.out.trans hu2)
      clear hu2
      cases hp : p z
      · simp only []
        go_wp2
        go_roundw
        case rel => exact ⟨k + 1, by omega, by go_num, Lib.hid (by rw [← HR.out]; simp [idxFrom, hp]), HU2⟩
        case measure => simp [intOf]; omega
      · simp only []
        go_wp2
        go_ret
        exact ⟨ret_int (by rw [← HR.out]; simp [idxFrom, hp]), HU2.out⟩
    · go_wp2_with fail
      go_ret
      refine ⟨ret_int ?_, hu.out⟩
      rw [← hr.out, List.drop_of_length_le (by omega)]
      rfl
end Go.Proofs.YtbonfdkgkcbkmaaGreat
end

section
namespace Go.Proofs.YtbonfdkgkcbkmaaGreat
set_option maxRecDepth 100000
open Go.RowKit Go.Shelf

attribute [local go_sem] Oper.semAt_some
theorem containsfC_any {a : Option Addr} {l : List KcV} {c g : Nat} {lb : Array Value} {p : KcV → Bool} (w : World) (h : KcsIn w a l) (hl : l.length ≤ 140737488351232) (eg : ∀ args w, (callFunc g args).run Tryz.prog w = .ok (.enter g args) w)
    (hc : ∀ z W, z ∈ l → Upd0 w W → Calls Tryz.prog g (#[.agg #[.int .i64 z.src, .int .i64 z.key, .int .i64 z.count, .int .i64 z.sum]] ++ lb) W fun e w' => e = .returned (.bool (p z)) ∧ Upd0 W w') :
    Calls Tryz.prog 160 #[.slice a l.length c, .func (.func g) #[] lb] w fun e w' => e = .returned (.bool (l.any p)) ∧ Upd0 w w' := by
  have HC := Lib.hid (idxfC_any (c := c) w h hl eg hc)
  have HA := Lib.hid (idxFrom_any p l 0)
  clear h hc eg
  go_enter Tryz.func160, Tryz.ntmps160
  go_wp2_with (go_at_call 65; refine HC.out.mono ?_; rintro e w' ⟨rfl, hu⟩)
  go_ret
  exact ⟨ret_bool HA.out, hu⟩
end Go.Proofs.YtbonfdkgkcbkmaaGreat
end

section
namespace Go.Proofs.YtbonfdkgkcbkmaaGreat
set_option maxRecDepth 100000
open Go.RowKit Go.Shelf

attribute [local go_sem] Oper.semAt_some run_store_func
theorem opsfits_any (o : OpM) (c : CellV) (w : World) (h : IntsIn w o.ia o.ins) (hl : o.ins.length ≤ 140737488351232) :
    Calls Tryz.prog 159 #[.agg #[.int .i64 o.tag, .int .i64 o.width, .slice o.ia o.ins.length o.ic, .int .i64 o.a, .int .i64 o.b], .agg #[.int .i64 c.count, .int .i64 c.sum]] w fun e w' => e = .returned (.bool (rightI o c == 0)) ∧ Upd0 w w' := by
  obtain ⟨b, hb⟩ : ∃ b, b = w.heap.size := ⟨_, rfl⟩
  obtain ⟨w1, hw1⟩ : ∃ w1, w1 = (w.alloc (.cells #[.int .i64 o.tag, .int .i64 o.width, .slice o.ia o.ins.length o.ic, .int .i64 o.a, .int .i64 o.b] 89)).alloc (.cells #[.int .i64 c.count, .int .i64 c.sum] 61) := ⟨_, rfl⟩
  have hu1 : Upd0 w w1 := by rw [hw1]; exact ((Upd.refl _ w).alloc _).alloc _
  obtain ⟨c0, c1, c2, c3, c4⟩ := cells5_of (show w1.heap[b]? = some (.cells #[.int .i64 o.tag, .int .i64 o.width, .slice o.ia o.ins.length o.ic, .int .i64 o.a, .int .i64 o.b] 89 (0, 0)) by rw [hw1, hb]; exact (alloc_lt (by simp)).trans (alloc_at rfl))
  obtain ⟨d0, d1⟩ := cells2_of (show w1.heap[b + 1]? = some (.cells #[.int .i64 c.count, .int .i64 c.sum] 61 (0, 0)) by rw [hw1, hb]; exact alloc_at (by simp))
  have HR := Lib.hid (right_any o c w1 (h.kept hu1) hl)
  have HU := Lib.hid hu1
  clear h hl hu1
  go_enter Tryz.func159, Tryz.ntmps159
  go_wp2_with (go_at_call 182; fail)
  rw [← hw1]
  clear hw1
  (with_reducible refine HR.out.mono ?_)
  rintro _ w2 ⟨rfl, hu2⟩
  have HU2 := Lib.hid (HU.out.trans hu2)
  obtain ⟨r, hr⟩ : ∃ r, r = rightI o c := ⟨_, rfl⟩
  rw [← hr]
  have HRR := Lib.hid hr
  clear hu2 hr HR c0 c1 c2 c3 c4 d0 d1
  simp only []
  go_wp2
  go_ret
  exact ⟨by rw [← HRR.out]; rfl, HU2.out⟩
/-- A row of a table whose cell does not fit. -/
theorem snapfits1_any {ob : Nat} (o : OpM) (x : KcV) (w : World) (h : IntsIn w o.ia o.ins) (hl : o.ins.length ≤ 140737488351232) (hob : w.heap[ob]? = some (.cells #[.int .i64 o.tag, .int .i64 o.width, .slice o.ia o.ins.length o.ic, .int .i64 o.a, .int .i64 o.b] 89 (0, 0))) :
    Calls Tryz.prog 158 #[.agg #[.int .i64 x.src, .int .i64 x.key, .int .i64 x.count, .int .i64 x.sum], .pointer (some ⟨ob, 0, none⟩)] w fun e w' => e = .returned (.bool (!(rightI o ⟨x.count, x.sum⟩ == 0))) ∧ Upd0 w w' := by
  obtain ⟨w1, hw1⟩ : ∃ w1, w1 = w.alloc (.cells #[.int .i64 x.src, .int .i64 x.key, .int .i64 x.count, .int .i64 x.sum] 63) := ⟨_, rfl⟩
  have hu1 : Upd0 w w1 := by rw [hw1]; exact (Upd.refl _ w).alloc _
  obtain ⟨c0, c1, c2, c3⟩ := cells4_at (show w1.heap[w.heap.size]? = some (.cells #[.int .i64 x.src, .int .i64 x.key, .int .i64 x.count, .int .i64 x.sum] 63 (0, 0)) by rw [hw1]; exact alloc_at rfl)
  obtain ⟨d0, d1, d2, d3, d4⟩ := cells5_of ((hu1.block _ (lt_of_heap hob) (fun e => e)).trans hob)
  have HR := Lib.hid (opsfits_any o ⟨x.count, x.sum⟩ w1 (h.kept hu1) hl)
  have HU := Lib.hid hu1
  clear h hl hu1 hob
  go_enter Tryz.func158, Tryz.ntmps158
  go_upto_region 1 with fail
  rw [← hw1]
  clear hw1
  go_wp2_with (go_at_call 159; fail)
  (with_reducible refine HR.out.mono ?_)
  rintro _ w2 ⟨rfl, hu2⟩
  have HU2 := Lib.hid (HU.out.trans hu2)
  clear hu2 HR c0 c1 c2 c3 d0 d1 d2 d3 d4
  simp only []
  go_wp2
  go_ret
  exact ⟨rfl, HU2.out⟩
end Go.Proofs.YtbonfdkgkcbkmaaGreat
end

section
namespace Go.Proofs.YtbonfdkgkcbkmaaGreat
set_option maxRecDepth 100000
open Go.RowKit Go.Shelf

attribute [local go_sem] Oper.semAt_some run_store_func
/-- A sink. -/
structure SkV where
  sub : Int
  att : Int
  ser : Int
  opn : Bool
  na : Option Addr
  nc : Nat
  names : List NmV
end Go.Proofs.YtbonfdkgkcbkmaaGreat
end

