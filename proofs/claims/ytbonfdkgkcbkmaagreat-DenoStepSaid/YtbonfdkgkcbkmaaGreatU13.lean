/- Walks: table.Put behind all others, table.Get. -/
import Derived.Test.YtbonfdkgkcbkmaaGreatU8
import Derived.Test.YtbonfdkgkcbkmaaGreatU10
import Derived.Test.YtbonfdkgkcbkmaaGreatU12
set_option linter.unusedVariables false
set_option linter.unusedSimpArgs false

section
namespace Go.Proofs.YtbonfdkgkcbkmaaGreat
set_option maxRecDepth 100000
open Go.RowKit Go.Shelf

attribute [local go_sem] Oper.semAt_some run_store_func
set_option maxHeartbeats 4000000 in
theorem tput1_any {a : Option Addr} {l : List KcV} {c B tb kb cb : Nat} (k : RecV) (cl : CellV) (w : World) (hb : w.heap[tb]? = some (.cells #[.slice a l.length c] 51 (0, 0))) (h : OwnC w B (.slice a l.length c) l) (hB : B ≤ w.heap.size) (hl : l.length ≤ 1000) (hlt : ∀ x ∈ l, ltK k x = true)
    (hk : w.heap[kb]? = some (.cells #[.int .i64 k.src, .int .i64 k.key, .int .i64 k.val] 36 (0, 0))) (hcb : w.heap[cb]? = some (.cells #[.int .i64 cl.count, .int .i64 cl.sum] 61 (0, 0))) (hck : chkRec k = 0) (hok : CellOk cl) :
    Calls Tryz.prog 141 #[.pointer (some ⟨tb, 0, none⟩), .pointer (some ⟨kb, 0, none⟩), .pointer (some ⟨cb, 0, none⟩)] w fun e w' => e = .returned (.int .i64 0) ∧ ∃ a' c', w'.heap[tb]? = some (.cells #[.slice a' (setEnd l k cl).length c'] 51 (0, 0)) ∧ OwnC w' B (.slice a' (setEnd l k cl).length c') (setEnd l k cl) ∧ Upd (fun q => q = tb ∨ (Value.slice a l.length c).ownBlock = some q) w w' := by
  have HC := Lib.hid (reccheck_any k w)
  rw [hck] at HC
  have HS := Lib.hid (fun (W : World) (hW : Upd0 w W) => tset_end k cl W ((hW.block _ (lt_of_heap hb) (fun e => e)).trans hb) (ownsRow_any h hW (fun _ _ e => e)) (Nat.le_trans hB hW.size) hl hlt)
  have HK := Lib.hid hk; have HCB := Lib.hid hcb
  obtain ⟨k0, k1, k2⟩ := cells3_of hk
  obtain ⟨ho1, ho2⟩ := hok
  have ho3 : ¬ cl.count < 0 := by omega
  clear h hb hB hl hlt hk hcb hck
  go_enter Tryz.func141, Tryz.ntmps141
  go_wp2_with (go_at_call 142; fail)
  refine HC.out.mono ?_
  rintro _ w2 ⟨rfl, hu2⟩
  have HU2 := Lib.hid hu2
  have HS2 := Lib.hid (HS.out w2 hu2)
  obtain ⟨c0, c1⟩ := cells2_of ((hu2.block _ (lt_of_heap HCB.out) (fun e => e)).trans HCB.out)
  obtain ⟨q0, q1, q2⟩ := cells3_of ((hu2.block _ (lt_of_heap HK.out) (fun e => e)).trans HK.out)
  clear hu2 HC HS k0 k1 k2
  simp only []
  by_cases hz : cl.count = 0
  · have hs := ho2 hz
    clear ho2 ho1 ho3
    have HZ := Lib.hid hz; have HZS := Lib.hid hs
    rw [hz] at c0
    rw [hs] at c1
    rw [hz, hs] at HS2
    clear hz hs
    go_wp2_with (go_at_call 143; fail)
    (with_reducible refine HS2.out.mono ?_)
    rintro _ w3 ⟨rfl, a', c', hb3, ho3, hu3⟩
    have HR := Lib.hid (And.intro hb3 (And.intro ho3 hu3))
    clear hb3 ho3 hu3 c0 c1 q0 q1 q2
    simp only []
    go_wp2
    go_ret
    exact ⟨rfl, a', c', HR.out.1, HR.out.2.1, (HU2.out.mono (fun _ _ e => e.elim)).trans HR.out.2.2⟩
  · clear ho2
    go_wp2_with (go_at_call 143; fail)
    (with_reducible refine HS2.out.mono ?_)
    rintro _ w3 ⟨rfl, a', c', hb3, ho3, hu3⟩
    have HR := Lib.hid (And.intro hb3 (And.intro ho3 hu3))
    clear hb3 ho3 hu3 c0 c1 q0 q1 q2
    simp only []
    go_wp2
    go_ret
    exact ⟨rfl, a', c', HR.out.1, HR.out.2.1, (HU2.out.mono (fun _ _ e => e.elim)).trans HR.out.2.2⟩
def withE (l : List KcV) (E : Int) : Int := if chkT l ≠ 0 then chkT l else E
def withL (l : List KcV) (E : Int) (l2 : List KcV) : List KcV := if chkT l ≠ 0 then [] else if E ≠ 0 then [] else l2
theorem sizeTab : (Tryz.prog.info? 51).map (·.size) = some 1 := by kernel_rfl
theorem loadTab {W : World} {t : Nat} {u : Value} (h : W.heap[t]? = some (.cells #[u] 51 (0, 0))) : (loadVar 51 ⟨t, 0, none⟩).run Tryz.prog W = .ok (.agg #[u]) W :=
  run_loadVar_mid (P := Tryz.prog) _ t 0 51 [_] _ (rangeAt_block h) Tryz.underlying51 rfl sizeTab
set_option maxHeartbeats 4000000 in
theorem twith_any {a : Option Addr} {l l2 : List KcV} {c g : Nat} {lb : Array Value} {E : Int} (w : World) (h : KcsIn w a l) (hl : l.length ≤ 1000) (eg : ∀ args w, (callFunc g args).run Tryz.prog w = .ok (.enter g args) w)
    (hc : ∀ (W : World) (tb : Nat) (a' : Option Addr) (c' : Nat), Upd0 w W → W.heap[tb]? = some (.cells #[.slice a' l.length c'] 51 (0, 0)) → OwnC W w.heap.size (.slice a' l.length c') l → w.heap.size ≤ tb → Calls Tryz.prog g (#[.pointer (some ⟨tb, 0, none⟩)] ++ lb) W fun e W' => e = .returned (.int .i64 E) ∧ ∃ a2 c2, W'.heap[tb]? = some (.cells #[.slice a2 l2.length c2] 51 (0, 0)) ∧ OwnC W' w.heap.size (.slice a2 l2.length c2) l2 ∧ Upd (fun q => q = tb ∨ (Value.slice a' l.length c').ownBlock = some q) W W') :
    Calls Tryz.prog 140 #[.agg #[.slice a l.length c], .func (.func g) #[] lb] w fun e w' => ∃ a2 c2, e = .returned (.tuple #[.agg #[.slice a2 (withL l E l2).length c2], .int .i64 (withE l E)]) ∧ OwnC w' w.heap.size (.slice a2 (withL l E l2).length c2) (withL l E l2) ∧ Upd0 w w' := by
  obtain ⟨b, hb⟩ : ∃ b, b = w.heap.size := ⟨_, rfl⟩
  obtain ⟨w1, hw1⟩ : ∃ w1, w1 = (w.alloc (.cells #[.slice a l.length c] 51)).alloc (.cells #[.slice none 0 0] 51) := ⟨_, rfl⟩
  have hu1 : Upd0 w w1 := by rw [hw1]; exact ((Upd.refl _ w).alloc _).alloc _
  have HT := Lib.hid (show w1.heap[b]? = some (.cells #[.slice a l.length c] 51 (0, 0)) by rw [hw1, hb]; exact (alloc_lt (by simp)).trans (alloc_at rfl))
  have HO := Lib.hid (show w1.heap[b + 1]? = some (.cells #[.slice none 0 0] 51 (0, 0)) by rw [hw1, hb]; exact alloc_at (by simp))
  have HU := Lib.hid hu1
  have HBB := Lib.hid hb
  have HCK := Lib.hid (tcheck_any (c := c) w1 (h.kept hu1) (by omega))
  have HCL := Lib.hid (fun (W : World) (hW : Upd0 w W) => cloneC_any (c := c) W (h.kept hW) (by omega))
  have HC := Lib.hid hc
  obtain ⟨ck, hck⟩ : ∃ ck, ck = chkT l := ⟨_, rfl⟩
  have HE := Lib.hid (show withE l E = if ck ≠ 0 then ck else E by rw [hck]; rfl)
  have HL := Lib.hid (show withL l E l2 = if ck ≠ 0 then [] else if E ≠ 0 then [] else l2 by rw [hck]; rfl)
  rw [← hck] at HCK
  have c0 := cells1_of HT.out
  clear h hc hck hu1
  go_enter Tryz.func140, Tryz.ntmps140
  go_wp2_with (go_at_call 217; fail)
  rw [← hw1, ← hb]
  clear hw1 hb
  (with_reducible refine HCK.out.mono ?_)
  rintro _ w2 ⟨rfl, hu2⟩
  have HU2 := Lib.hid (HU.out.trans hu2)
  have HT2 := Lib.hid ((hu2.block _ (lt_of_heap HT.out) (fun e => e)).trans HT.out)
  have HO2 := Lib.hid ((hu2.block _ (lt_of_heap HO.out) (fun e => e)).trans HO.out)
  clear hu2 c0 HT HO HU HCK
  simp only []
  have o0 := cells1_of HO2.out
  have of0 : w2.frozen? ⟨b + 1, 0, none⟩ = false := frozen_of_heap HO2.out
  by_cases hz : ck = 0
  · subst hz
    rw [if_neg (by simp)] at HE HL
    have HCL2 := Lib.hid (HCL.out w2 HU2.out)
    have c0 := cells1_of HT2.out
    clear o0 of0 HCL
    go_wp2_with (go_at_call 218; fail)
    (with_reducible refine HCL2.out.mono ?_)
    rintro _ w3 ⟨a3, c3, rfl, ho3, hu3⟩
    obtain ⟨w4, hw4⟩ : ∃ w4, w4 = w3.alloc (.cells #[.slice a3 l.length c3] 51) := ⟨_, rfl⟩
    have hu4 : Upd0 w3 w4 := by rw [hw4]; exact (Upd.refl _ w3).alloc _
    obtain ⟨tb, htb⟩ : ∃ tb, tb = w3.heap.size := ⟨_, rfl⟩
    have hb4 : w4.heap[tb]? = some (.cells #[.slice a3 l.length c3] 51 (0, 0)) := by rw [hw4, htb]; exact alloc_at rfl
    have HU4 := Lib.hid ((HU2.out.trans hu3).trans hu4)
    have HO4 := Lib.hid (((hu3.trans hu4).block _ (lt_of_heap HO2.out) (fun e => e)).trans HO2.out)
    have HTB := Lib.hid (show b + 1 < tb by have := lt_of_heap HO2.out; have := hu3.size; omega)
    have HCC := Lib.hid (HC.out w4 tb a3 c3 HU4.out hb4 (ownsRow_low (ownsRow_any ho3 hu4 (fun _ _ e => e)) HU2.out.size) (by have := HTB.out; have := HBB.out; omega))
    have HQ4 := Lib.hid (show ∀ q, (Value.slice a3 l.length c3).ownBlock = some q → w2.heap.size ≤ q from fun q hq => (World.ownsRow.lt ho3 q hq).1)
    have HW2 := Lib.hid HU2.out.size
    have HL2 := Lib.hid (lt_of_heap HO2.out)
    clear ho3 hu3 hu4 hb4 c0 HC HCL2 HO2 HT2 HU2
    simp only []
    go_upto_region 5 with fail
    rw [← hw4, ← htb]
    clear hw4 htb
    go_wp2_with (fail)
    (with_reducible refine HCC.out.mono ?_)
    rintro _ w5 ⟨rfl, a5, c5, hb5, ho5, hu5⟩
    have hq5 : ∀ q, (Value.slice a3 l.length c3).ownBlock = some q → w2.heap.size ≤ q := HQ4.out
    have HU5 := Lib.hid (HU4.out.cut hu5 (fun q hq => by
      rcases hq with hq | hq
      · have := HTB.out; have := HBB.out; omega
      · have := hq5 q hq; have := HW2.out; omega))
    have HO5 := Lib.hid (show w5.heap[b + 1]? = some (.cells #[.slice none 0 0] 51 (0, 0)) from
      (hu5.block _ (lt_of_heap HO4.out) (fun e => by
        rcases e with e | e
        · have := HTB.out; omega
        · have := hq5 _ e; have := HL2.out; omega)).trans HO4.out)
    have HB5 := Lib.hid hb5; have HR5 := Lib.hid ho5
    clear hb5 ho5 hu5 hq5 HCC HO4 HU4
    have o0 := cells1_of HO5.out
    have of0 : w5.frozen? ⟨b + 1, 0, none⟩ = false := frozen_of_heap HO5.out
    have t0 := cells1_of HB5.out
    simp only []
    by_cases he : E = 0
    · subst he
      rw [if_neg (by simp)] at HL
      go_wp2
      have hp := blk_set (i := 0) (v := .slice a5 l2.length c5) HO5.out
      refine bodyPost_ret (results_ct (fn := Tryz.f140) rfl rfl (loadTab (by simpa using hp))) rfl ⟨a5, c5, ?_, ?_, HU5.out.cut (upd_own _ _ _ _) (fun q hq => by have := HBB.out; omega)⟩
      · rw [HE.out, HL.out]; rfl
      · rw [HL.out]
        refine ownsRow_heap HR5.out (fun q hq => set_ne (fun e => ?_))
        obtain ⟨cur, hcur⟩ := ownsRow_at HR5.out hq
        have e' : q = b + 1 := e
        rw [e', HO5.out] at hcur
        injection hcur with hcur
        injection hcur with _ hcur
        exact absurd hcur (by decide)
    · have he' : (E != 0) = true := by simpa using he
      rw [if_pos he] at HL
      clear he
      go_wp2
      have hp := blk_set (i := 0) (v := .slice none 0 0) HO5.out
      refine bodyPost_ret (results_ct (fn := Tryz.f140) rfl rfl (loadTab (by simpa using hp))) rfl ⟨none, 0, ?_, ?_, HU5.out.cut (upd_own _ _ _ _) (fun q hq => by have := HBB.out; omega)⟩
      · rw [HE.out, HL.out]; rfl
      · rw [HL.out]; exact World.ownsRow_nil _ _ _ _
  · have hz' : (ck != 0) = true := by simpa using hz
    rw [if_pos hz] at HE HL
    clear hz
    go_wp2
    have hp := blk_set (i := 0) (v := .slice none 0 0) HO2.out
    refine bodyPost_ret (results_ct (fn := Tryz.f140) rfl rfl (loadTab (by simpa using hp))) rfl ⟨none, 0, ?_, ?_, HU2.out.cut (upd_own _ _ _ _) (fun q hq => by have := HBB.out; omega)⟩
    · rw [HE.out, HL.out]; rfl
    · rw [HL.out]; exact World.ownsRow_nil _ _ _ _
theorem callPut1 : ∀ args w, (callFunc 141 args).run Tryz.prog w = .ok (.enter 141 args) w := enters_of Tryz.func141 (by kernel_rfl) rfl
set_option maxHeartbeats 4000000 in
theorem tput_any {a : Option Addr} {l : List KcV} {c : Nat} (k : RecV) (cl : CellV) (w : World) (h : KcsIn w a l) (hl : l.length ≤ 1000) (hlt : ∀ x ∈ l, ltK k x = true) (hck : chkRec k = 0) (hok : CellOk cl) (hT : chkT l = 0) :
    Calls Tryz.prog 62 #[.agg #[.slice a l.length c], .agg #[.int .i64 k.src, .int .i64 k.key, .int .i64 k.val], .agg #[.int .i64 cl.count, .int .i64 cl.sum]] w fun e w' => ∃ a2 c2, e = .returned (.tuple #[.agg #[.slice a2 (setEnd l k cl).length c2], .int .i64 0]) ∧ OwnC w' w.heap.size (.slice a2 (setEnd l k cl).length c2) (setEnd l k cl) ∧ Upd0 w w' := by
  obtain ⟨b, hb⟩ : ∃ b, b = w.heap.size := ⟨_, rfl⟩
  obtain ⟨w1, hw1⟩ : ∃ w1, w1 = (((w.alloc (.cells #[.slice a l.length c] 51)).alloc (.cells #[.int .i64 k.src, .int .i64 k.key, .int .i64 k.val] 36)).alloc (.cells #[.int .i64 cl.count, .int .i64 cl.sum] 61)).alloc (.cells #[.slice none 0 0] 51) := ⟨_, rfl⟩
  have hu1 : Upd0 w w1 := by rw [hw1]; exact ((((Upd.refl _ w).alloc _).alloc _).alloc _).alloc _
  have HT := Lib.hid (show w1.heap[b]? = some (.cells #[.slice a l.length c] 51 (0, 0)) by rw [hw1, hb]; exact (alloc_lt (by simp <;> omega)).trans ((alloc_lt (by simp <;> omega)).trans ((alloc_lt (by simp)).trans (alloc_at rfl))))
  have hk := show w1.heap[b + 1]? = some (.cells #[.int .i64 k.src, .int .i64 k.key, .int .i64 k.val] 36 (0, 0)) by rw [hw1, hb]; exact (alloc_lt (by simp <;> omega)).trans ((alloc_lt (by simp)).trans (alloc_at (by simp)))
  have hcb := show w1.heap[b + 2]? = some (.cells #[.int .i64 cl.count, .int .i64 cl.sum] 61 (0, 0)) by rw [hw1, hb]; exact (alloc_lt (by simp)).trans (alloc_at (by simp))
  have HO := Lib.hid (show w1.heap[b + 3]? = some (.cells #[.slice none 0 0] 51 (0, 0)) by rw [hw1, hb]; exact alloc_at (by simp))
  have HU := Lib.hid hu1
  have HBB := Lib.hid hb
  have HW := Lib.hid (twith_any (c := c) (l2 := setEnd l k cl) (E := 0) (g := 141) (lb := #[.pointer (some ⟨b + 1, 0, none⟩), .pointer (some ⟨b + 2, 0, none⟩)]) w1 (h.kept hu1) hl callPut1 (fun W tb a' c' hW htb hown _ =>
    tput1_any k cl W htb hown hW.size hl hlt ((hW.block _ (lt_of_heap hk) (fun e => e)).trans hk) ((hW.block _ (lt_of_heap hcb) (fun e => e)).trans hcb) hck hok))
  rw [show withE l 0 = 0 by rw [withE, hT]; rfl, show withL l 0 (setEnd l k cl) = setEnd l k cl by rw [withL, hT]; rfl] at HW
  have c0 := cells1_of HT.out
  clear h hl hlt hck hok hT hk hcb hu1
  go_enter Tryz.func62, Tryz.ntmps62
  go_wp2_with (go_at_call 140; fail)
  rw [← hw1, ← hb]
  clear hw1 hb
  simp only [Nat.add_assoc, Nat.reduceAdd]
  (with_reducible refine HW.out.mono ?_)
  rintro _ w2 ⟨a2, c2, rfl, ho2, hu2⟩
  have HO2 := Lib.hid ((hu2.block _ (lt_of_heap HO.out) (fun e => e)).trans HO.out)
  have HU2 := Lib.hid (HU.out.trans hu2)
  have HR2 := Lib.hid ho2
  clear ho2 hu2 HW c0
  have o0 := cells1_of HO2.out
  have of0 : w2.frozen? ⟨b + 3, 0, none⟩ = false := frozen_of_heap HO2.out
  simp only []
  go_wp2
  have hp := blk_set (i := 0) (v := .slice a2 (setEnd l k cl).length c2) HO2.out
  refine bodyPost_ret (results_ct (fn := Tryz.f62) rfl rfl (loadTab (by simpa using hp))) rfl ⟨a2, c2, rfl, ?_, HU2.out.cut (upd_own _ _ _ _) (fun q hq => by have := HBB.out; omega)⟩
  refine ownsRow_low (ownsRow_heap HR2.out (fun q hq => set_ne (fun e => ?_))) HU.out.size
  obtain ⟨cur, hcur⟩ := ownsRow_at HR2.out hq
  have e' : q = b + 3 := e
  rw [e', HO2.out] at hcur
  injection hcur with hcur
  injection hcur with _ hcur
  exact absurd hcur (by decide)

/-! ### Get -/
set_option maxHeartbeats 1000000 in
theorem idxfC_any {a : Option Addr} {l : List KcV} {c g : Nat} {lb : Array Value} {p : KcV → Bool} (w : World) (h : KcsIn w a l) (hl : l.length ≤ 140737488351232) (eg : ∀ args w, (callFunc g args).run Tryz.prog w = .ok (.enter g args) w)
    (hc : ∀ z W, z ∈ l → Upd0 w W → Calls Tryz.prog g (#[.agg #[.int .i64 z.src, .int .i64 z.key, .int .i64 z.count, .int .i64 z.sum]] ++ lb) W fun e w' => e = .returned (.bool (p z)) ∧ Upd0 W w') :
    Calls Tryz.prog 65 #[.slice a l.length c, .func (.func g) #[] lb] w fun e w' => e = .returned (.int .i64 (idxP p l)) ∧ Upd0 w w' := by
  have H := Lib.hid h; have HC := Lib.hid hc
  clear h hc
  go_enter Tryz.func65, Tryz.ntmps65
  go_wp2_with fail
  go_loopw [8] (fun i wr => ∃ k : Nat, k ≤ l.length ∧ i = .int .i64 k ∧ Hid (idxFrom p (l.drop k) k = idxP p l) ∧ Hid (Upd0 w wr)) (fun i _ => l.length - (intOf i).toNat)
  case atStart => exact ⟨0, Nat.zero_le _, rfl, Lib.hid rfl, Lib.hid (Upd.refl _ w)⟩
  case round =>
    obtain ⟨k, hk, rfl, hr, hu⟩ := hrel
    by_cases hlt : k < l.length
    · obtain ⟨z, hz⟩ : ∃ z, l[k]? = some z := ⟨_, List.getElem?_eq_getElem hlt⟩
      obtain ⟨b, o, rfl, c0, c1, c2, c3⟩ := (H.out.kept hu.out).at hz
      have HR : Hid (idxFrom p (z :: l.drop (k + 1)) k = idxP p l) := by rw [← drop_cons' hz]; exact hr
      have HZ := Lib.hid (HC.out z wr (List.mem_of_getElem? hz) hu.out)
      clear hr hz
      go_wp2_with fail
      refine HZ.out.mono ?_
      rintro e w2 ⟨rfl, hu2⟩
      have HU2 := Lib.hid (hu.out.trans hu2)
      clear hu2
      cases hp : p z
      · simp only []
        go_wp2
        go_roundw
        case rel => exact ⟨k + 1, by omega, by go_num, Lib.hid (by rw [← HR.out]; simp [idxFrom, hp]), HU2⟩
        case measure => simp [intOf]; omega
      · simp only []
        go_wp2
        go_ret
        exact ⟨ret_int (by rw [← HR.out]; simp [idxFrom, hp]), HU2.out⟩
    · go_wp2_with fail
      go_ret
      refine ⟨ret_int ?_, hu.out⟩
      rw [← hr.out, List.drop_of_length_le (by omega)]
      rfl
theorem tget1_any {kb : Nat} (x : KcV) (k : RecV) (w : World) (hk : w.heap[kb]? = some (.cells #[.int .i64 k.src, .int .i64 k.key, .int .i64 k.val] 36 (0, 0))) : Calls Tryz.prog 66 #[.agg #[.int .i64 x.src, .int .i64 x.key, .int .i64 x.count, .int .i64 x.sum], .pointer (some ⟨kb, 0, none⟩)] w fun e w' => e = .returned (.bool (sameK x.rec' k)) ∧ Upd0 w w' := by
  obtain ⟨w1, hw1⟩ : ∃ w1, w1 = w.alloc (.cells #[.int .i64 x.src, .int .i64 x.key, .int .i64 x.count, .int .i64 x.sum] 63) := ⟨_, rfl⟩
  have hu1 : Upd0 w w1 := by rw [hw1]; exact (Upd.refl _ w).alloc _
  have HU := Lib.hid hu1
  obtain ⟨bx, hbx⟩ : ∃ bx, bx = w.heap.size := ⟨_, rfl⟩
  have HX4 := Lib.hid (show w1.heap[bx]? = some (.cells #[.int .i64 x.src, .int .i64 x.key, .int .i64 x.count, .int .i64 x.sum] 63 (0, 0)) by rw [hw1, hbx]; exact alloc_at rfl)
  have HK := Lib.hid ((hu1.block _ (lt_of_heap hk) (fun e => e)).trans hk)
  have HCM := Lib.hid (fun W => samekey_any x.rec' k W)
  obtain ⟨cm, hcm⟩ : ∃ cm, cm = sameK x.rec' k := ⟨_, rfl⟩
  rw [← hcm] at HCM ⊢
  clear hcm hk hu1
  go_enter Tryz.func66, Tryz.ntmps66
  go_wp2
  rw [← hw1, ← hbx]
  clear hw1 hbx
  have hA : Upd0 w1 w1.drew := (Upd.refl _ _).drew
  refine wp_region_G 3 (fun W => Upd0 w1 W) [false, false, false, false, false] rfl (by kernel_rfl) ?_
  refine wpG_takeT (i := 0) (v := .agg #[.int .i64 x.src, .int .i64 x.key, .int .i64 x.count, .int .i64 x.sum]) rfl (fun L hc h => (hc.waits (n := 3) (i := 1) (by kernel_rfl) (hc.waits (n := 1) (i := 0) (by kernel_rfl) h))) (by kernel_rfl) (fun _ _ _ h => h) hA (.inl ⟨rfl, fun w5 q1 => ?_⟩) ?_
  · obtain ⟨c0, c1, c2, c3⟩ := cells4_at ((q1.block _ (lt_of_heap HX4.out) (fun e => e)).trans HX4.out)
    go_simp
  simp only [Act.put, List.setIfInBounds_toArray, List.set]
  refine wpG_takeT (i := 2) (v := .agg #[.int .i64 k.src, .int .i64 k.key, .int .i64 k.val]) rfl (fun L hc h => (hc.waits (n := 3) (i := 2) (by kernel_rfl) h)) (by kernel_rfl) (fun _ _ _ h => h) hA (.inl ⟨rfl, fun w5 q1 => ?_⟩) ?_
  · have kk := (q1.block _ (lt_of_heap HK.out) (fun e => e)).trans HK.out
    obtain ⟨c0, c1, c2⟩ := cells3_of kk
    go_simp
  simp only [Act.put, List.setIfInBounds_toArray, List.set]
  refine wpG_doIf (i := 1) rfl (by kernel_rfl) rfl (fun K hK => ?_)
  have HKK := Lib.hid hK
  clear hK
  go_step
  refine (tkey_any x _).mono ?_
  rintro _ w7 ⟨rfl, hu6⟩
  have hA5 := hA.trans hu6
  clear hu6
  simp only []
  refine HKK.out _ _ hA5 ?_
  clear HKK
  simp only [Act.put, List.setIfInBounds_toArray, List.set]
  refine wpG_tail_lit (k := 3) rfl rfl (by kernel_rfl) ?_
  simp only [List.drop]
  go_wp2_with (go_at_call 67; fail)
  refine (HCM.out _).mono ?_
  rintro _ w9 ⟨rfl, hu9⟩
  have HU9 := Lib.hid (HU.out.trans (hA5.trans hu9))
  clear hu9 hA5 hA
  simp only []
  go_wp2
  go_ret
  exact ⟨rfl, HU9.out⟩
theorem callGet1 : ∀ args w, (callFunc 66 args).run Tryz.prog w = .ok (.enter 66 args) w := enters_of Tryz.func66 (by kernel_rfl) rfl
def getC (l : List KcV) (k : RecV) : CellV := match l.find? (fun x => sameK x.rec' k) with
  | some x => ⟨x.count, x.sum⟩
  | none => ⟨0, 0⟩
theorem idxFrom_find {α : Type} (p : α → Bool) : ∀ (l : List α) (k : Nat), (idxFrom p l k = -1 ∧ l.find? p = none) ∨ ∃ i x, idxFrom p l k = ((k + i : Nat) : Int) ∧ l[i]? = some x ∧ l.find? p = some x
  | [], k => .inl ⟨rfl, rfl⟩
  | z :: r, k => by
    cases h : p z with
    | true => exact .inr ⟨0, z, by simp [idxFrom, h], rfl, by simp [h]⟩
    | false =>
      rcases idxFrom_find p r (k + 1) with ⟨h1, h2⟩ | ⟨i, x, h1, h2, h3⟩
      · exact .inl ⟨by simp [idxFrom, h, h1], by simp [h, h2]⟩
      · exact .inr ⟨i + 1, x, by simp only [idxFrom, h]; rw [if_neg (by simp), h1]; omega, by simpa using h2, by simp [h, h3]⟩
set_option maxHeartbeats 4000000 in
theorem tget_any {a : Option Addr} {l : List KcV} {c : Nat} (k : RecV) (w : World) (h : KcsIn w a l) (hl : l.length ≤ 140737488351232) :
    Calls Tryz.prog 19 #[.agg #[.slice a l.length c], .agg #[.int .i64 k.src, .int .i64 k.key, .int .i64 k.val]] w fun e w' => e = .returned (.agg #[.int .i64 (getC l k).count, .int .i64 (getC l k).sum]) ∧ Upd0 w w' := by
  obtain ⟨b, hb⟩ : ∃ b, b = w.heap.size := ⟨_, rfl⟩
  obtain ⟨w1, hw1⟩ : ∃ w1, w1 = ((w.alloc (.cells #[.slice a l.length c] 51)).alloc (.cells #[.int .i64 k.src, .int .i64 k.key, .int .i64 k.val] 36)).alloc (.cells #[.int .i64 0, .int .i64 0] 61) := ⟨_, rfl⟩
  have hu1 : Upd0 w w1 := by rw [hw1]; exact (((Upd.refl _ w).alloc _).alloc _).alloc _
  have HT := Lib.hid (show w1.heap[b]? = some (.cells #[.slice a l.length c] 51 (0, 0)) by rw [hw1, hb]; exact (alloc_lt (by simp <;> omega)).trans ((alloc_lt (by simp)).trans (alloc_at rfl)))
  have hk := show w1.heap[b + 1]? = some (.cells #[.int .i64 k.src, .int .i64 k.key, .int .i64 k.val] 36 (0, 0)) by rw [hw1, hb]; exact (alloc_lt (by simp)).trans (alloc_at (by simp))
  have HO := Lib.hid (show w1.heap[b + 2]? = some (.cells #[.int .i64 0, .int .i64 0] 61 (0, 0)) by rw [hw1, hb]; exact alloc_at (by simp))
  have HU := Lib.hid hu1
  have HBB := Lib.hid hb
  have HIN := Lib.hid (h.kept hu1)
  have HI := Lib.hid (idxfC_any (c := c) (g := 66) (lb := #[.pointer (some ⟨b + 1, 0, none⟩)]) (p := fun x => sameK x.rec' k) w1 (h.kept hu1) hl callGet1 (fun z W _ hW => tget1_any z k W ((hW.block _ (lt_of_heap hk) (fun e => e)).trans hk)))
  have HF := Lib.hid (idxFrom_find (fun x : KcV => sameK x.rec' k) l 0)
  have HG := Lib.hid (getC.eq_1 l k)
  obtain ⟨gc, hgc⟩ : ∃ gc, gc = getC l k := ⟨_, rfl⟩
  rw [← hgc] at HG ⊢
  obtain ⟨ix, hix⟩ : ∃ ix, ix = idxP (fun x : KcV => sameK x.rec' k) l := ⟨_, rfl⟩
  rw [← hix] at HI
  have HIX := Lib.hid hix
  have c0 := cells1_of HT.out
  clear h hk hu1 hgc hix
  go_enter Tryz.func19, Tryz.ntmps19
  go_wp2_with (go_at_call 65; fail)
  rw [← hw1, ← hb]
  clear hw1 hb
  simp only [Nat.add_assoc, Nat.reduceAdd]
  (with_reducible refine HI.out.mono ?_)
  rintro _ w2 ⟨rfl, hu2⟩
  have HO2 := Lib.hid ((hu2.block _ (lt_of_heap HO.out) (fun e => e)).trans HO.out)
  have HT2 := Lib.hid ((hu2.block _ (lt_of_heap HT.out) (fun e => e)).trans HT.out)
  have HU2 := Lib.hid (HU.out.trans hu2)
  have HIN2 := Lib.hid (HIN.out.kept hu2)
  clear hu2 HI c0
  obtain ⟨o0, o1⟩ := cells2_of HO2.out
  have f0 : w2.frozen? ⟨b + 2, 0, none⟩ = false := frozen_of_heap HO2.out
  have f1 : w2.frozen? ⟨b + 2, 1, none⟩ = false := frozen_of_heap HO2.out
  simp only []
  rcases HF.out with ⟨h1, h2⟩ | ⟨i, x, h1, h2, h3⟩
  · have hx : ix = -1 := by rw [HIX.out]; exact h1
    subst hx
    clear h1
    go_wp2
    obtain ⟨p1, p2⟩ := put2 (u := .int .i64 0) (v := .int .i64 0) HO2.out
    refine bodyPost_ret (results_c (fn := Tryz.f19) rfl rfl (load44 p1)) rfl ⟨?_, HU2.out.cut p2 (fun q hq => by have := HBB.out; omega)⟩
    rw [HG.out, h2]
  · have hx : ix = (i : Nat) := by rw [HIX.out]; have : idxP (fun x : KcV => sameK x.rec' k) l = ((0 + i : Nat) : Int) := h1; rw [this]; simp
    subst hx
    obtain ⟨b2, f2, rfl, d0, d1, d2, d3⟩ := HIN2.out.at h2
    have hil := (List.getElem?_eq_some_iff.1 h2).1
    have H3 := Lib.hid h3
    have t0 := cells1_of HT2.out
    have hilI : (i : Int) < l.length := by omega
    clear h1 h2 h3
    go_wp2
    obtain ⟨p1, p2⟩ := put2 (u := .int .i64 x.count) (v := .int .i64 x.sum) HO2.out
    refine bodyPost_ret (results_c (fn := Tryz.f19) rfl rfl (load44 p1)) rfl ⟨?_, HU2.out.cut p2 (fun q hq => by have := HBB.out; omega)⟩
    rw [HG.out, H3.out]
end Go.Proofs.YtbonfdkgkcbkmaaGreat
end

section
namespace Go.Proofs.YtbonfdkgkcbkmaaGreat
set_option maxRecDepth 100000
open Go.RowKit Go.Shelf

attribute [local go_sem] Oper.semAt_some run_store_func
structure KrV where
  src : Int
  key : Int
  va : Option Addr
  vc : Nat
  vals : List Int
def KrV.cells (x : KrV) : List Value := [.int .i64 x.src, .int .i64 x.key, .slice x.va x.vals.length x.vc]
def KrV.core (x : KrV) : Int × Int × List Int := (x.src, x.key, x.vals)
abbrev OwnKr (w : World) (B : Nat) (v : Value) (l : List KrV) : Prop := w.ownsRow B 57 3 v l.length (l.map KrV.cells).flatten
theorem mapKr_lens (l : List KrV) : ∀ y ∈ l.map KrV.cells, y.length = 3 := fun y hy => by obtain ⟨r, _, rfl⟩ := List.mem_map.1 hy; rfl
theorem infoKr : (Tryz.prog.info? 57).map (fun i => (i.zero, i.size, i.bytes)) = some (some (.agg #[.int .i64 0, .int .i64 0, .slice none 0 0]), 3, 40) := by kernel_rfl
/-- What comes, key by key. -/
def rowsOf (f : RecV → List Int) (ks : List RecV) : List (Int × Int × List Int) := ks.filterMap fun k => if f k = [] then none else some (k.src, k.key, f k)
theorem rowsOf_no {f : RecV → List Int} {ks : List RecV} {k : RecV} (h : f k = []) : rowsOf f (ks ++ [k]) = rowsOf f ks := by simp [rowsOf, h]
theorem rowsOf_yes {f : RecV → List Int} {ks : List RecV} {k : RecV} (h : f k ≠ []) : rowsOf f (ks ++ [k]) = rowsOf f ks ++ [(k.src, k.key, f k)] := by simp [rowsOf, h]
theorem rowsOf_len (f : RecV → List Int) (ks : List RecV) : (rowsOf f ks).length ≤ ks.length := List.length_filterMap_le _ _
theorem keys1_len (x : InM) : (keys1 x).length ≤ 32 := by
  unfold keys1
  rw [List.length_map]
  exact Nat.le_trans (List.length_filter_le _ _) (by simp)
theorem keysL_len : ∀ (xs : List InM), (keysL xs).length ≤ 32 * xs.length
  | [] => by simp [keysL]
  | x :: xs => by
    have := keysL_len xs
    have h := keys1_len x
    rw [keysL, List.flatMap_cons, List.length_append, List.length_cons]
    rw [keysL] at this
    omega
/-- Rows in memory of their own. -/
structure KrsAt (W : World) (B : Nat) (a : Option Addr) (c : Nat) (L : List KrV) : Prop where
  row : OwnKr W B (.slice a L.length c) L
  each : ∀ x ∈ L, OwnI W B 2 (.slice x.va x.vals.length x.vc) x.vals
theorem KrsAt.T {Φ : Nat → TypeId → Prop} {W W' : World} {B : Nat} {a : Option Addr} {c : Nat} {L : List KrV} (h : KrsAt W B a c L) (hu : UpdT Φ W W') (hp : ∀ k t, Φ k t → B ≤ k → t ≠ 57 ∧ t ≠ 2) : KrsAt W' B a c L :=
  ⟨ownsRow_T h.row hu (fun k hk p => (hp _ _ p hk).1 rfl), fun x hx => ownsRow_T (h.each x hx) hu (fun k hk p => (hp _ _ p hk).2 rfl)⟩
theorem KrsAt.kept {W W' : World} {B : Nat} {a : Option Addr} {c : Nat} {L : List KrV} (h : KrsAt W B a c L) (hu : Upd0 W W') : KrsAt W' B a c L :=
  ⟨ownsRow_any h.row hu (fun _ _ e => e), fun x hx => ownsRow_any (h.each x hx) hu (fun _ _ e => e)⟩
theorem KrsAt.put {W : World} {B : Nat} {a : Option Addr} {c : Nat} {L : List KrV} (h : KrsAt W B a c L) {l : Nat} {o : Obj} (o' : Obj) (ho : W.heap[l]? = some o) (hc : o.isCells = false) : KrsAt (W.putObj l o') B a c L :=
  ⟨ownsRow_put h.row o' ho hc, fun x hx => ownsRow_put (h.each x hx) o' ho hc⟩
theorem KrsAt.low {W : World} {B B' : Nat} {a : Option Addr} {c : Nat} {L : List KrV} (h : KrsAt W B a c L) (hb : B' ≤ B) : KrsAt W B' a c L :=
  ⟨ownsRow_low h.row hb, fun x hx => ownsRow_low (h.each x hx) hb⟩
/-- Between the rounds of Rows. -/
structure RwAt (f : RecV → List Int) (w : World) (bx : Nat) (pre : List RecV) (W : World) : Prop where
  out : ∃ a c L, W.heap[bx]? = some (.cells #[.slice a L.length c] 46 (0, 0)) ∧ KrsAt W (bx + 1) a c L ∧ L.map KrV.core = rowsOf f pre
  r0 : ∃ v, W.heap[w.heap.size]? = some (.cells #[v] 46 (0, 0))
  r1 : ∃ v, W.heap[w.heap.size + 1]? = some (.cells #[v] 33 (0, 0))
  upd : Upd0 w W
  up : bx = w.heap.size + 2
  wk : ∃ u v, W.heap[bx + 1]? = some (.cells #[u, v] 27 (0, 0))
/-- What its body may write. -/
def rwB (bx : Nat) : Nat → TypeId → Prop := fun k t => (k = bx ∧ t = 46) ∨ (bx < k ∧ t = 57)
theorem RwAt.T {f : RecV → List Int} {w W W' : World} {bx : Nat} {pre : List RecV} {Φ : Nat → TypeId → Prop} (h : RwAt f w bx pre W) (hu : UpdT Φ W W') (hp : ∀ k t, Φ k t → w.heap.size ≤ k ∧ t ≠ 46 ∧ t ≠ 33 ∧ t ≠ 57 ∧ t ≠ 2 ∧ t ≠ 27) : RwAt f w bx pre W' := by
  obtain ⟨a, c, L, h1, h2, h3⟩ := h.out
  obtain ⟨v0, h4⟩ := h.r0
  obtain ⟨v1, h5⟩ := h.r1
  obtain ⟨u, v, h6⟩ := h.wk
  refine ⟨⟨a, c, L, hu.keep h1 (fun cs t fr e p => ?_), h2.T hu (fun k t p _ => ⟨(hp _ _ p).2.2.2.1, (hp _ _ p).2.2.2.2.1⟩), h3⟩, ⟨v0, hu.keep h4 (fun cs t fr e p => ?_)⟩, ⟨v1, hu.keep h5 (fun cs t fr e p => ?_)⟩, Upd.step h.upd hu (fun k hk ⟨_, _, _, _, p⟩ => by have := (hp _ _ p).1; omega), h.up, ⟨u, v, hu.keep h6 (fun cs t fr e p => ?_)⟩⟩
  all_goals
    injection e with _ e
    subst e
  · exact (hp _ _ p).2.1 rfl
  · exact (hp _ _ p).2.1 rfl
  · exact (hp _ _ p).2.2.1 rfl
  · exact (hp _ _ p).2.2.2.2.2 rfl
theorem RwAt.kept {f : RecV → List Int} {w W W' : World} {bx : Nat} {pre : List RecV} (h : RwAt f w bx pre W) (hu : Upd0 W W') : RwAt f w bx pre W' :=
  h.T (Φ := fun _ _ => False) (UpdT.of0 hu) (fun _ _ p => p.elim)
theorem RwAt.put {f : RecV → List Int} {w W : World} {bx : Nat} {pre : List RecV} (h : RwAt f w bx pre W) {l : Nat} {o : Loop} {o' : Obj} (hl : w.heap.size ≤ l) (ho : W.heap[l]? = some (.loop o)) : RwAt f w bx pre (W.putObj l o') := by
  obtain ⟨a, c, L, h1, h2, h3⟩ := h.out
  obtain ⟨v0, h4⟩ := h.r0
  obtain ⟨v1, h5⟩ := h.r1
  obtain ⟨u, v, h6⟩ := h.wk
  exact ⟨⟨a, c, L, cells_put _ h1 rfl ho rfl, h2.put _ ho rfl, h3⟩, ⟨v0, cells_put _ h4 rfl ho rfl⟩, ⟨v1, cells_put _ h5 rfl ho rfl⟩, h.upd.step (upd_put _) (fun k hk e => by omega), h.up, ⟨u, v, cells_put _ h6 rfl ho rfl⟩⟩
theorem RwAt.skip {f : RecV → List Int} {w W : World} {bx : Nat} {pre : List RecV} {k : RecV} (h : RwAt f w bx pre W) (hf : f k = []) : RwAt f w bx (pre ++ [k]) W := by
  obtain ⟨a, c, L, h1, h2, h3⟩ := h.out
  exact ⟨⟨a, c, L, h1, h2, by rw [rowsOf_no hf]; exact h3⟩, h.r0, h.r1, h.upd, h.up, h.wk⟩
theorem RwAt.box {W w4 : World} {bx : Nat} {L : List KrV} {cs : Array Value} {a : Option Addr} {c : Nat} (h1 : W.heap[bx]? = some (.cells #[.slice a L.length c] 46 (0, 0))) (h2 : OwnKr W (bx + 1) (.slice a L.length c) L) (hgrow : (W.alloc (.cells cs 57)).grownBy w4 (Value.slice a L.length c).ownBlock) :
    w4.heap[bx]? = some (.cells #[.slice a L.length c] 46 (0, 0)) :=
  (hgrow.block _ (by simp; have := lt_of_heap h1; omega) (fun e => by have := (World.ownsRow.lt h2 _ e.symm).1; omega)).trans ((alloc_lt (lt_of_heap h1)).trans h1)
theorem RwAt.more {f : RecV → List Int} {w W w4 : World} {bx : Nat} {pre : List RecV} {k : RecV} {x : KrV} {L : List KrV} {a : Option Addr} {c g4 cap4 : Nat} (h : RwAt f w bx pre W) (h1 : W.heap[bx]? = some (.cells #[.slice a L.length c] 46 (0, 0))) (h2 : KrsAt W (bx + 1) a c L) (h3 : L.map KrV.core = rowsOf f pre)
    (hf : f k ≠ []) (hx : x.core = (k.src, k.key, f k)) (hxo : OwnI W (bx + 1) 2 (.slice x.va x.vals.length x.vc) x.vals)
    (hown4 : w4.ownsRow (bx + 1) 57 3 (.slice (some ⟨g4, 0, none⟩) (L.length + 1) cap4) (L.length + 1) ((L.map KrV.cells).flatten ++ x.cells)) (hgrow : (W.alloc (.cells x.cells.toArray 57)).grownBy w4 (Value.slice a L.length c).ownBlock) :
    RwAt f w bx (pre ++ [k]) (w4.setCell ⟨bx, 0, none⟩ (.slice (some ⟨g4, 0, none⟩) (L.length + 1) cap4)) ∧ UpdT (rwB bx) W (w4.setCell ⟨bx, 0, none⟩ (.slice (some ⟨g4, 0, none⟩) (L.length + 1) cap4)) := by
  have hv : ∀ q, (Value.slice a L.length c).ownBlock = some q → bx + 1 ≤ q := fun q hq => (World.ownsRow.lt h2.row q hq).1
  have hbx := RwAt.box h1 h2.row hgrow
  have hg4 : bx + 1 ≤ g4 := (World.ownsRow.lt hown4 g4 rfl).1
  have hua : Upd (fun q => (Value.slice a L.length c).ownBlock = some q) W w4 := ((Upd.refl _ W).alloc _).trans (Upd.of_grown hgrow (fun q hq => hq))
  have hub : Upd (fun q => (Value.slice a L.length c).ownBlock = some q ∨ q = bx) W (w4.setCell ⟨bx, 0, none⟩ (.slice (some ⟨g4, 0, none⟩) (L.length + 1) cap4)) :=
    (hua.mono (fun _ _ e => .inl e)).trans ((upd_own w4 bx 0 _).mono (fun _ _ e => .inr e))
  have hut : UpdT (rwB bx) W (w4.setCell ⟨bx, 0, none⟩ (.slice (some ⟨g4, 0, none⟩) (L.length + 1) cap4)) := hub.mono (fun q hq e => by
    rcases e with e | e
    · obtain ⟨cur, hcur⟩ := ownsRow_at h2.row e
      exact ⟨_, _, _, hcur, .inr ⟨by have := hv q e; omega, rfl⟩⟩
    · subst e
      exact ⟨_, _, _, h1, .inl ⟨rfl, rfl⟩⟩)
  have ht64 : ∀ (q : Nat) (t : TypeId), rwB bx q t → t ≠ 2 := fun q t p => by rcases p with ⟨_, p⟩ | ⟨_, p⟩ <;> subst p <;> decide
  obtain ⟨v1, hr1⟩ := h.r1
  obtain ⟨v0, hr0⟩ := h.r0
  obtain ⟨u, v, hwk⟩ := h.wk
  have hup := h.up
  refine ⟨⟨⟨some ⟨g4, 0, none⟩, cap4, L ++ [x], ?_, ⟨?_, ?_⟩, ?_⟩, ⟨v0, ?_⟩, ⟨v1, ?_⟩, ?_, h.up, ⟨u, v, ?_⟩⟩, hut⟩
  · have := blk_set (i := 0) (v := .slice (some ⟨g4, 0, none⟩) (L.length + 1) cap4) hbx
    rw [List.length_append]
    simpa using this
  · show World.ownsRow _ _ _ _ _ _ _
    rw [List.map_append, List.flatten_append, List.length_append]
    have e1 : (List.map KrV.cells [x]).flatten = x.cells := by simp
    rw [e1]
    refine ownsRow_heap hown4 (fun q hq => ?_)
    simp only [Value.ownBlock, Option.some.injEq] at hq
    exact set_ne (by show q ≠ bx; omega)
  · intro y hy
    rw [List.mem_append] at hy
    rcases hy with hy | hy
    · exact ownsRow_T (h2.each y hy) hut (fun q _ p => ht64 _ _ p rfl)
    · have e : y = x := by simpa using hy
      subst e
      exact ownsRow_T hxo hut (fun q _ p => ht64 _ _ p rfl)
  · rw [List.map_append, h3, rowsOf_yes hf, ← hx]; rfl
  · exact hut.keep hr0 (fun cs t fr e p => by
      injection e with _ e
      subst e
      rcases p with ⟨p, _⟩ | ⟨p, _⟩ <;> omega)
  · exact hut.keep hr1 (fun cs t fr e p => by
      injection e with _ e
      subst e
      rcases p with ⟨p, _⟩ | ⟨p, _⟩ <;> omega)
  · exact Upd.step h.upd hut (fun q hq ⟨_, _, _, _, p⟩ => by rcases p with ⟨p, _⟩ | ⟨p, _⟩ <;> omega)
  · exact hut.keep hwk (fun cs t fr e p => by
      injection e with _ e
      subst e
      rcases p with ⟨_, p⟩ | ⟨_, p⟩ <;> exact absurd p (by decide))
theorem load46 {W : World} {t : Nat} {x : Value} (h : W.heap[t]? = some (.cells #[x] 46 (0, 0))) : (loadVar 46 ⟨t, 0, none⟩).run Tryz.prog W = .ok x W := by
  have c := cells1_of h
  simp [loadVar, go_sem, c, Tryz.isAgg46]
theorem load33 {W : World} {t : Nat} {x : Value} (h : W.heap[t]? = some (.cells #[x] 33 (0, 0))) : (loadVar 33 ⟨t, 0, none⟩).run Tryz.prog W = .ok x W := by
  have c := cells1_of h
  simp [loadVar, go_sem, c, Tryz.isAgg33]
set_option maxHeartbeats 8000000 in
theorem rows1_any {oa xa aa : Option Addr} {os : List OpM} {xs : List InM} {ats : List (List Int)} {oc xc ac wk ab nb n : Nat} (w : World) (h : WkIn w oa os oc xa xs) (ha : AtIn w aa ats)
    (bw : w.heap[wk]? = some (.cells #[.slice oa os.length oc, .slice xa xs.length xc] 27 (0, 0))) (ba : w.heap[ab]? = some (.cells #[.slice aa ats.length ac] 29 (0, 0))) (bn : w.heap[nb]? = some (.cells #[.int .i64 n] 3 (0, 0)))
    (hg : (chkG os).2 = 0) (hal : ats.length = xs.length) (hoa : ∀ o ∈ os, o.a ≤ 9223372036854775807) (hn : n < os.length) (hin : ∀ x ∈ xs, chkIn x = 0) (hok : ∀ key, (comesV os xs ats key n).2.2 = 0) (hlen : ∀ key, (comesV os xs ats key n).1.length ≤ 40) :
    Calls Tryz.prog 57 #[.pointer (some ⟨wk, 0, none⟩), .pointer (some ⟨ab, 0, none⟩), .pointer (some ⟨nb, 0, none⟩)] w fun e w' => ∃ a c L, e = .returned (.tuple #[.slice a L.length c, .int .i64 0]) ∧ KrsAt w' w.heap.size a c L ∧ L.map KrV.core = rowsOf (fun k => (comesV os xs ats k n).1) (keysL xs) ∧ Upd0 w w' := by
  obtain ⟨f, hf⟩ : ∃ f, f = fun k => (comesV os xs ats k n).1 := ⟨_, rfl⟩
  rw [← hf]
  obtain ⟨bx, hbx⟩ : ∃ bx, bx = w.heap.size + 2 := ⟨_, rfl⟩
  obtain ⟨w3, hw3⟩ : ∃ w3, w3 = ((w.alloc (.cells #[.slice none 0 0] 46)).alloc (.cells #[.int .i64 0] 33)).alloc (.cells #[.slice none 0 0] 46) := ⟨_, rfl⟩
  have hu3 : Upd0 w w3 := by rw [hw3]; exact (((Upd.refl _ w).alloc _).alloc _).alloc _
  have hb0 : w3.heap[w.heap.size]? = some (.cells #[.slice none 0 0] 46 (0, 0)) := by rw [hw3]; exact (alloc_lt (by simp <;> omega)).trans ((alloc_lt (by simp)).trans (alloc_at rfl))
  have hb1 : w3.heap[w.heap.size + 1]? = some (.cells #[.int .i64 0] 33 (0, 0)) := by rw [hw3]; exact (alloc_lt (by simp)).trans (alloc_at (by simp))
  have hb2 : w3.heap[bx]? = some (.cells #[.slice none 0 0] 46 (0, 0)) := by rw [hw3, hbx]; exact alloc_at (by simp)
  have hz3 : w3.heap.size = bx + 1 := by rw [hw3, hbx]; simp
  have HAL := Lib.hid (all_any (oa := oa) (xa := xa) (os := os.length) (xs := xs.length) (oc := oc) (xc := xc) w3)
  have HW := Lib.hid h; have HA := Lib.hid ha; have HBW := Lib.hid bw; have HBA := Lib.hid ba; have HBN := Lib.hid bn; have HIN := Lib.hid hin
  have HCM := Lib.hid (fun (key : RecV) (W : World) (hW : Upd0 w W) => comes_any (xc := xc) (ac := ac) key W (h.kept hW) (ha.kept hW) hg hal hoa hn)
  have HOK := Lib.hid hok; have HLN := Lib.hid hlen; have HF := Lib.hid hf
  have HU3 := Lib.hid hu3; have H0 := Lib.hid hb0; have H1 := Lib.hid hb1; have H2 := Lib.hid hb2; have HZ3 := Lib.hid hz3
  have HBX := Lib.hid hbx
  obtain ⟨c0, c1⟩ := cells2_of ((hu3.block _ (lt_of_heap bw) (fun e => e)).trans bw)
  clear h ha bw ba bn hg hal hoa hn hin hok hlen hf hu3 hb0 hb1 hb2 hz3
  refine (callsIn_wide (n := 5)).1 ?_
  refine callsIn_of_wp_marks Tryz.func57 rfl trivial ?_ rfl
  simp only [Tryz.ntmps57, List.size_toArray, List.length_cons, List.length_nil, Nat.reduceAdd, Nat.reduceSub, Array.replicate_succ, Array.replicate_zero, List.push_toArray, List.append_toArray, List.nil_append, List.cons_append]
  gi_upto_region 2 with fail
  rw [← hw3]
  simp only [Nat.add_assoc, Nat.reduceAdd]
  rw [← hbx]
  clear hw3 hbx
  gi_wp2_with (gi_at_call 58; fail)
  refine ⟨trivial, callsIn_wide.2 (HAL.out.mono ?_)⟩
  rintro e w5 ⟨rfl, hw5⟩
  clear HAL c0 c1
  simp only []
  gi_wp2
  have hu5 : Upd0 w3 w5 := by rw [hw5]; exact (Upd.refl _ w3).alloc _
  have k3 : ∀ {j p}, w3.heap[j]? = some p → w5.heap[j]? = some p := fun hp => (hu5.block _ (lt_of_heap hp) (fun e => e)).trans hp
  have hb5 : w5.heap[bx + 1]? = some (.cells #[.slice oa os.length oc, .slice xa xs.length xc] 27 (0, 0)) := by rw [hw5]; exact alloc_at HZ3.out.symm
  have HZ5 := Lib.hid (show w5.heap.size = bx + 2 by rw [hw5]; simp [HZ3.out])
  have HB5 := Lib.hid hb5
  have HU5 := Lib.hid (HU3.out.trans hu5)
  have HAT := Lib.hid (show RwAt f w bx [] w5 from ⟨⟨none, 0, [], k3 H2.out, ⟨World.ownsRow_nil _ _ _ _, fun x hx => by simp at hx⟩, rfl⟩, ⟨_, k3 H0.out⟩, ⟨_, k3 H1.out⟩, HU3.out.trans hu5, HBX.out, ⟨_, _, hb5⟩⟩)
  clear hw5 hu5 k3 hb5
  refine wpIn_rangeFunc_T (α := RecV) (encs := fun z => #[.agg #[.int .i64 z.src, .int .i64 z.key, .int .i64 z.val]]) rfl (by omega) (gf := 130) (lb := #[.pointer (some ⟨w3.heap.size, 0, none⟩)]) rfl trivial (fun _ _ => rfl) (fun _ => rfl) (fun _ _ => False) (rwB bx) (fun pre x' => ∃ rest, keysL xs = (pre ++ [x']) ++ rest) (fun ks _ => ks = keysL xs) (RwAt f w bx) (fun _ _ => False)
    ?hIU ?hIP (fun _ _ _ _ e => e.elim) (fun _ _ _ _ _ e => e.elim) HAT.out (fun _ _ _ _ _ e _ _ => e) ?hseq (fun z a' W => ∃ rb, W.heap[rb]? = some (.cells #[.int .i64 z.src, .int .i64 z.key, .int .i64 z.val] 36 (0, 0)) ∧ a' = { tmps := #[.pointer (some ⟨wk, 0, none⟩), .pointer (some ⟨ab, 0, none⟩), .pointer (some ⟨nb, 0, none⟩), .pointer (some ⟨w.heap.size, 0, none⟩), .pointer (some ⟨w.heap.size + 1, 0, none⟩), .pointer (some ⟨bx, 0, none⟩), .pointer (some ⟨rb, 0, none⟩), undef, undef, undef, .agg #[.slice oa os.length oc, .slice xa xs.length xc], .func (.func 130) #[] #[.pointer (some ⟨w3.heap.size, 0, none⟩)], .agg #[.int .i64 z.src, .int .i64 z.key, .int .i64 z.val], undef, undef, undef, undef, undef, undef, undef, undef, undef, undef, undef, undef, undef, undef, undef, undef, undef, undef, undef, undef, undef, undef, undef, undef, undef], defers := [] }) ?hAP ?hassign ?hbody ?hdone (fun _ _ e => e.elim)
  case hIU =>
    rintro pre W W' hs h hu
    exact h.T hu (fun _ _ p => p.elim)
  case hIP =>
    rintro pre W l o o' h hl ho
    exact h.put (by have := HZ5.out; have := HBX.out; omega) ho
  case hseq =>
    intro l J Jx W h0 hu hJ hJx hY
    have hz := HZ5.out
    have hz3 := HZ3.out
    have hbx := HBX.out
    rw [hz3]
    refine all1_any (B := bx + 2) (wk := bx + 1) (Φb := rwB bx) (oa := oa) (oc := oc) (os := os) (xa := xa) (xc := xc) (fun W => Upd0 w W ∧ W.heap[bx + 1]? = some (.cells #[.slice oa os.length oc, .slice xa xs.length xc] 27 (0, 0)) ∧ bx + 2 ≤ W.heap.size) (fun W hW => ⟨HW.out.kept hW.1, hW.2.1, hW.2.2⟩) (fun W W' hW hu' => ⟨hW.1.trans hu', (hu'.block _ (lt_of_heap hW.2.1) (fun e => e)).trans hW.2.1, Nat.le_trans hW.2.2 hu'.size⟩) HIN.out
      (fun W W' hW hu' => ⟨Upd.step hW.1 hu' (fun k hk ⟨_, _, _, _, p⟩ => by rcases p with ⟨p, _⟩ | ⟨p, _⟩ <;> omega), hu'.keep hW.2.1 (fun cs t fr e p => by injection e with _ e; subst e; rcases p with ⟨_, p⟩ | ⟨_, p⟩ <;> exact absurd p (by decide)), Nat.le_trans hW.2.2 hu'.size⟩)
      (fun k t p => by rcases p with ⟨_, p⟩ | ⟨_, p⟩ <;> subst p <;> decide) l J Jx W ⟨HU5.out.trans hu, (hu.block _ (lt_of_heap HB5.out) (fun e => e)).trans HB5.out, by have := hu.size; omega⟩ h0 (fun pre W W' hs hj hu' => hJ pre W W' (by omega) hj (UpdT.of0 hu')) (fun pre x W1 hg hj hp => hY pre x W1 (by have := hg.2.2; omega) hj hp)
  case hAP =>
    rintro z a' W l o o' ⟨rb, h1, h2⟩ hl ho
    exact ⟨rb, cells_put o' h1 rfl ho rfl, h2⟩
  case hassign =>
    intro l z W K _ hK
    have HK := Lib.hid hK
    clear hK
    gi_wp2
    exact HK.out _ _ ((Upd.refl _ W).alloc _) ⟨W.heap.size, alloc_at rfl, rfl⟩
  case hbody =>
    rintro l pre z a' W r hl hs hi ⟨rest, hpl⟩ ⟨rb, h5, rfl⟩ hlr
    have hple : pre.length < 1000 := by
      have h1 := congrArg List.length hpl
      have h2 := keysL_len xs
      have h3 := HW.out.xl
      simp only [List.length_append, List.length_cons, List.length_nil] at h1
      omega
    have HI := Lib.hid hi; have H5 := Lib.hid h5
    have hu := hi.upd
    obtain ⟨r0, r1, r2⟩ := cells3_of h5
    obtain ⟨d0, d1⟩ := cells2_of ((hu.block _ (lt_of_heap HBW.out) (fun e => e)).trans HBW.out)
    have g0 := cells1_of ((hu.block _ (lt_of_heap HBA.out) (fun e => e)).trans HBA.out)
    have g1 := cells1_of ((hu.block _ (lt_of_heap HBN.out) (fun e => e)).trans HBN.out)
    have HCV := Lib.hid (HCM.out z W hu)
    have HOKZ := Lib.hid (HOK.out z)
    have HLNZ := Lib.hid (HLN.out z)
    have HFZ := Lib.hid (show f z = (comesV os xs ats z n).1 by rw [HF.out])
    obtain ⟨rr, hrr⟩ : ∃ rr, rr = comesV os xs ats z n := ⟨_, rfl⟩
    rw [← hrr] at HCV HOKZ HLNZ HFZ
    obtain ⟨rl, rc, re⟩ := rr
    simp only at HOKZ HLNZ HFZ
    have he := HOKZ.out
    subst he
    clear hi hpl h5 hlr hu hrr HOKZ
    gi_wp2_with (gi_at_call 59; fail)
    refine ⟨trivial, ?_⟩
    refine (CallsIn.inRound l (callsIn_wide.2 HCV.out)).mono ?_
    rintro e W3 ⟨a3, c3, rfl, ho3, hu3⟩
    have HI3 := Lib.hid (HI.out.kept hu3); have HO3 := Lib.hid ho3; have HU3' := Lib.hid hu3
    have H53 := Lib.hid ((hu3.block _ (lt_of_heap H5.out) (fun e => e)).trans H5.out)
    have HWS := Lib.hid hs
    clear hu3 ho3 r0 r1 r2 d0 d1 g0 g1 HCV hs
    simp only []
    cases rl with
    | nil =>
      gi_wp2
      exact ⟨(HI3.out.kept ((Upd.refl _ W3).alloc _)).skip HFZ.out, UpdT.of0 (HU3'.out.trans ((Upd.refl _ W3).alloc _))⟩
    | cons v0 vs =>
      obtain ⟨vl, hvl⟩ : ∃ vl, vl = v0 :: vs := ⟨_, rfl⟩
      rw [← hvl] at HLNZ HFZ HO3 ⊢
      have HNE := Lib.hid (show f z ≠ [] by rw [HFZ.out, hvl]; simp)
      have hvp : (0 : Int) < vl.length := by rw [hvl]; simp
      clear hvl
      obtain ⟨W4, hW4⟩ : ∃ W4, W4 = W3.alloc (.cells #[.int .i64 rc.count, .int .i64 rc.sum] 61) := ⟨_, rfl⟩
      have hu4 : Upd0 W3 W4 := by rw [hW4]; exact (Upd.refl _ W3).alloc _
      have HI4 := Lib.hid (HI3.out.kept hu4)
      have HU4 := Lib.hid (HU3'.out.trans hu4)
      have HO4 := Lib.hid (show OwnI W4 (bx + 1) 2 (.slice a3 vl.length c3) vl from ownsRow_low (ownsRow_any HO3.out hu4 (fun _ _ e => e)) (by have := HWS.out; have := HZ5.out; omega))
      obtain ⟨e0, e1, e2⟩ := cells3_of ((hu4.block _ (lt_of_heap H53.out) (fun e => e)).trans H53.out)
      obtain ⟨a, c, L, h1, h2, h3⟩ := HI4.out.out
      have hLl : L.length < 1000 := by
        have := congrArg List.length h3
        have := rowsOf_len f pre
        simp only [List.length_map] at *
        omega
      have x0 := cells1_of h1
      have H1' := Lib.hid h1; have H2' := Lib.hid h2; have H3' := Lib.hid h3
      have HR' := Lib.hid h2.row
      have hbl := lt_of_heap h1
      have HSZ := Lib.hid (show bx + 1 ≤ W4.heap.size by omega)
      clear h1 h2 h3 hu4
      gi_upto_region 8 with fail
      rw [← hW4]
      clear hW4
      gi_wp2_with (gi_at_builtin; obtain ⟨i0, hi0, hz0, hz1, hz2⟩ := info_parts infoKr; refine wpListIn_append_own _ rfl (.tmp 28) (.tmp 35) 46 rfl (bx + 1) 57 i0 (.agg #[.int .i64 0, .int .i64 0, .slice none 0 0]) 3 40 Tryz.underlying46 hi0 hz0 hz1 hz2 rfl (by omega) (.slice a L.length c) L.length ((L.map KrV.cells).flatten) rfl (HR'.out.alloc _) ⟨W4.heap.size, 0, none⟩ 1 1 [.int .i64 z.src, .int .i64 z.key, .slice a3 vl.length c3] rfl rfl (World.news_of_block (cs := #[.int .i64 z.src, .int .i64 z.key, .slice a3 vl.length c3]) (alloc_at rfl)) (by simp [Value.oneCell']) (by unfold maxLen; omega) (by omega) (by simp; have := HSZ.out; omega) ?_; clear hi0 hz0 hz1 hz2; intro v' w4 hown4 hgrow _; obtain ⟨g4, cap4, rfl⟩ := ownsRow_succ hown4; have hbx4 := RwAt.box H1'.out HR'.out hgrow; have c4' := cells1_of hbx4; have f4' : w4.frozen? ⟨bx, 0, none⟩ = false := frozen_of_heap hbx4; have HM := Lib.hid (RwAt.more (k := z) (x := ⟨z.src, z.key, a3, c3, vl⟩) HI4.out H1'.out H2'.out H3'.out HNE.out (by rw [HFZ.out]; rfl) HO4.out hown4 hgrow); clear hown4 hgrow hbx4)
      exact ⟨HM.out.1, (UpdT.of0 HU4.out).trans HM.out.2⟩
  case hdone =>
    rintro ks W hS h hD
    subst hS
    obtain ⟨a, c, L, h1, h2, h3⟩ := h.out
    obtain ⟨v0, hr0⟩ := h.r0
    obtain ⟨v1, hr1⟩ := h.r1
    have x0 := cells1_of h1
    have y0 := cells1_of hr0
    have y1 := cells1_of hr1
    have f0 : W.frozen? ⟨w.heap.size, 0, none⟩ = false := frozen_of_heap hr0
    have f1 : W.frozen? ⟨w.heap.size + 1, 0, none⟩ = false := frozen_of_heap hr1
    have H2' := Lib.hid h2; have H3' := Lib.hid h3; have HD := Lib.hid hD; have HR0 := Lib.hid hr0; have HR1 := Lib.hid hr1; have HUW := Lib.hid h.upd
    clear h1 h2 h3 hr0 hr1 hD h
    gi_wp2
    have hz := HZ5.out; have hbx := HBX.out
    obtain ⟨W9, hW9⟩ : ∃ W9, W9 = (W.setCell ⟨w.heap.size, 0, none⟩ (.slice a L.length c)).setCell ⟨w.heap.size + 1, 0, none⟩ (.int .i64 0) := ⟨_, rfl⟩
    rw [← hW9]
    have hu9 : Upd (fun q => q = w.heap.size ∨ q = w.heap.size + 1) W W9 := by
      rw [hW9]
      exact ((upd_own W w.heap.size 0 _).mono (fun _ _ e => .inl e)).trans ((upd_own _ (w.heap.size + 1) 0 _).mono (fun _ _ e => .inr e))
    have g0 : W9.heap[w.heap.size]? = some (.cells #[.slice a L.length c] 46 (0, 0)) := by
      rw [hW9, set_ne (by show w.heap.size ≠ w.heap.size + 1; omega)]
      have := blk_set (i := 0) (v := .slice a L.length c) HR0.out
      simpa using this
    have g1 : W9.heap[w.heap.size + 1]? = some (.cells #[.int .i64 0] 33 (0, 0)) := by
      rw [hW9]
      have := blk_set (i := 0) (v := .int .i64 0) ((set_ne (w := W) (a := ⟨w.heap.size, 0, none⟩) (u := .slice a L.length c) (k := w.heap.size + 1) (by show w.heap.size + 1 ≠ w.heap.size; omega)).trans HR1.out)
      simpa using this
    have hd9 : W9.heap[w5.heap.size]? = some (.deferred (some [])) := (hu9.block _ (lt_of_heap HD.out) (by omega)).trans HD.out
    have hk9 : KrsAt W9 (bx + 1) a c L := ⟨ownsRow_any H2'.out.row hu9 (fun q hq e => by have := (World.ownsRow.lt H2'.out.row q hq).1; omega), fun x hx => ownsRow_any (H2'.out.each x hx) hu9 (fun q hq e => by have := (World.ownsRow.lt (H2'.out.each x hx) q hq).1; omega)⟩
    refine ⟨by simp, .inl ⟨_, _, rfl, run_takeDeferred hd9, ?_⟩⟩
    refine ⟨_, results_cc (fn := Tryz.f57) rfl rfl (load46 (cells_put _ g0 rfl hd9 rfl)) rfl (load33 (cells_put _ g1 rfl hd9 rfl)), a, c, L, rfl, (hk9.put _ hd9 rfl).low (by omega), H3'.out, ?_⟩
    exact (HUW.out.cut hu9 (fun q hq => by omega)).step (upd_put _) (fun q hq e => by omega)
theorem callRows1 : ∀ args w, (callFunc 57 args).run Tryz.prog w = .ok (.enter 57 args) w := enters_of Tryz.func57 (by kernel_rfl) rfl
set_option maxHeartbeats 4000000 in
theorem rows_any {oa xa aa : Option Addr} {os : List OpM} {xs : List InM} {ats : List (List Int)} {oc xc ac n : Nat} (w : World) (h : WkIn w oa os oc xa xs) (ha : AtIn w aa ats) (hat : chkAt os xs ats = 0) (hl50 : ats.length ≤ 50) (hoa : ∀ o ∈ os, o.a ≤ 9223372036854775807) (hn : n < os.length) (hok : ∀ key, (comesV os xs ats key n).2.2 = 0) (hlen : ∀ key, (comesV os xs ats key n).1.length ≤ 40) :
    Calls Tryz.prog 14 #[wkV oa os oc xa xs xc, .slice aa ats.length ac, .int .i64 n] w fun e w' => ∃ a c L, e = .returned (.tuple #[.slice a L.length c, .int .i64 0]) ∧ KrsAt w' w.heap.size a c L ∧ L.map KrV.core = rowsOf (fun k => (comesV os xs ats k n).1) (keysL xs) ∧ Upd0 w w' := by
  obtain ⟨hcw, hal⟩ := chkAt_w hat
  obtain ⟨b, hb⟩ : ∃ b, b = w.heap.size := ⟨_, rfl⟩
  obtain ⟨w1, hw1⟩ : ∃ w1, w1 = ((w.alloc (.cells #[.slice oa os.length oc, .slice xa xs.length xc] 27)).alloc (.cells #[.slice aa ats.length ac] 29)).alloc (.cells #[.int .i64 n] 3) := ⟨_, rfl⟩
  have hu1 : Upd0 w w1 := by rw [hw1]; exact (((Upd.refl _ w).alloc _).alloc _).alloc _
  have hb0 : w1.heap[b]? = some (.cells #[.slice oa os.length oc, .slice xa xs.length xc] 27 (0, 0)) := by rw [hw1, hb]; exact (alloc_lt (by simp <;> omega)).trans ((alloc_lt (by simp)).trans (alloc_at rfl))
  have hb1 : w1.heap[b + 1]? = some (.cells #[.slice aa ats.length ac] 29 (0, 0)) := by rw [hw1, hb]; exact (alloc_lt (by simp)).trans (alloc_at (by simp))
  have hb2 : w1.heap[b + 2]? = some (.cells #[.int .i64 n] 3 (0, 0)) := by rw [hw1, hb]; exact alloc_at (by simp)
  have HR := Lib.hid (show ∀ W, Upd0 w1 W → Calls Tryz.prog 57 #[.pointer (some ⟨b, 0, none⟩), .pointer (some ⟨b + 1, 0, none⟩), .pointer (some ⟨b + 2, 0, none⟩)] W _ from fun W hW =>
    rows1_any (oc := oc) (xc := xc) (ac := ac) W (h.kept (hu1.trans hW)) (ha.kept (hu1.trans hW)) ((hW.block _ (lt_of_heap hb0) (fun e => e)).trans hb0) ((hW.block _ (lt_of_heap hb1) (fun e => e)).trans hb1) ((hW.block _ (lt_of_heap hb2) (fun e => e)).trans hb2) (chkW_g hcw) hal hoa hn (chkW_in hcw) hok hlen)
  have HCA := Lib.hid (show ∀ W, Upd0 w1 W → Calls Tryz.prog 11 #[wkV oa os oc xa xs xc, .slice aa ats.length ac] W _ from fun W hW => checkat_any (xc := xc) (ac := ac) W (h.kept (hu1.trans hW)) (ha.kept (hu1.trans hW)) hl50)
  rw [hat] at HCA
  have HASK := Lib.hid (show Calls Tryz.prog 56 #[wkV oa os oc xa xs xc, .slice aa ats.length ac, .int .i64 n, .func (.func 57) #[] #[.pointer (some ⟨b, 0, none⟩), .pointer (some ⟨b + 1, 0, none⟩), .pointer (some ⟨b + 2, 0, none⟩)]] w1 fun e w' => ∃ a c L, e = .returned (.tuple #[.slice a L.length c, .int .i64 0]) ∧ KrsAt w' w1.heap.size a c L ∧ L.map KrV.core = rowsOf (fun k => (comesV os xs ats k n).1) (keysL xs) ∧ Upd0 w1 w' by
    obtain ⟨f, hf⟩ : ∃ f, f = fun k => (comesV os xs ats k n).1 := ⟨_, rfl⟩
    rw [← hf] at HR ⊢
    obtain ⟨w2, hw2⟩ : ∃ w2, w2 = w1.alloc (.cells #[.slice oa os.length oc, .slice xa xs.length xc] 27) := ⟨_, rfl⟩
    have hu2 : Upd0 w1 w2 := by rw [hw2]; exact (Upd.refl _ w1).alloc _
    have HB := Lib.hid (show w2.heap[w1.heap.size]? = some (.cells #[.slice oa os.length oc, .slice xa xs.length xc] 27 (0, 0)) by rw [hw2]; exact alloc_at rfl)
    have HC2 := Lib.hid (HCA.out w2 hu2)
    have HU2 := Lib.hid hu2
    have HCR := Lib.hid callRows1
    have hnI : (n : Int) < os.length := by omega
    have hn0 : ¬ (n : Int) < 0 := by omega
    obtain ⟨c0, c1⟩ := cells2_of HB.out
    have HOL := Lib.hid h.ol
    clear h ha hat hl50 hoa hok hlen hcw hal hu1 hb0 hb1 hb2 hf hu2 HCA
    clear hw1 hb
    go_enter Tryz.func56, Tryz.ntmps56
    go_wp2_with (go_at_call 11; fail)
    rw [← hw2]
    clear hw2
    (with_reducible refine HC2.out.mono ?_)
    rintro _ w3 ⟨rfl, hu3⟩
    have HB3 := Lib.hid ((hu3.block _ (lt_of_heap HB.out) (fun e => e)).trans HB.out)
    have HU3 := Lib.hid (HU2.out.trans hu3)
    have HR3 := Lib.hid (HR.out w3 HU3.out)
    clear hu3 c0 c1 HR HC2 HB
    obtain ⟨c0, c1⟩ := cells2_of HB3.out
    simp only []
    go_wp2_with (go_at_call 57; fail)
    (with_reducible refine HR3.out.mono ?_)
    rintro _ w5 ⟨a5, c5, L, rfl, hk5, hl5, hu5⟩
    have HK5 := Lib.hid (hk5.low HU3.out.size); have HL5 := Lib.hid hl5; have HU5 := Lib.hid (HU3.out.trans hu5)
    clear hk5 hl5 hu5 c0 c1 HR3
    simp only []
    go_wp2
    go_ret2
    exact ⟨a5, c5, L, rfl, HK5.out, HL5.out, HU5.out⟩)
  obtain ⟨f, hf⟩ : ∃ f, f = fun k => (comesV os xs ats k n).1 := ⟨_, rfl⟩
  rw [← hf] at HASK ⊢
  have HU1 := Lib.hid hu1
  obtain ⟨c0, c1⟩ := cells2_of hb0
  have g0 := cells1_of hb1
  have g1 := cells1_of hb2
  clear h ha hat hl50 hoa hok hlen hcw hal hu1 hb0 hb1 hb2 hf HR HCA
  go_enter Tryz.func14, Tryz.ntmps14
  go_wp2_with (go_at_call 56; fail)
  rw [← hw1, ← hb]
  clear hw1
  simp only [Nat.add_assoc, Nat.reduceAdd]
  (with_reducible refine HASK.out.mono ?_)
  rintro _ w5 ⟨a5, c5, L, rfl, hk5, hl5, hu5⟩
  have HK5 := Lib.hid (hk5.low HU1.out.size); have HL5 := Lib.hid hl5; have HU5 := Lib.hid (HU1.out.trans hu5)
  clear hk5 hl5 hu5 c0 c1 g0 g1 HASK
  simp only []
  go_wp2
  go_ret2
  exact ⟨a5, c5, L, rfl, HK5.out, HL5.out, HU5.out⟩
end Go.Proofs.YtbonfdkgkcbkmaaGreat
end

section
namespace Go.Proofs.YtbonfdkgkcbkmaaGreat
set_option maxRecDepth 100000
open Go.RowKit Go.Shelf Go.Sort
instance decRec : DecidableEq RecV := fun a b => by
  by_cases h : a.src = b.src ∧ a.key = b.key ∧ a.val = b.val
  · exact .isTrue (by cases a; cases b; simp at h; simp [h.1, h.2.1, h.2.2])
  · exact .isFalse (fun e => h (by subst e; exact ⟨rfl, rfl, rfl⟩))

def tabOf (f : RecV → CellV) (ks : List RecV) : List KcV := ks.filterMap fun k => if (f k).none then none else some ⟨k.src, k.key, (f k).count, (f k).sum⟩
theorem tabOf_snoc (f : RecV → CellV) (ks : List RecV) (k : RecV) : tabOf f (ks ++ [k]) = setEnd (tabOf f ks) k (f k) := by
  unfold tabOf setEnd
  rw [List.filterMap_append]
  cases h : (f k).none <;> simp [h]
theorem tabOf_len (f : RecV → CellV) (ks : List RecV) : (tabOf f ks).length ≤ ks.length := List.length_filterMap_le _ _
theorem cmpR_lt (x y : RecV) : cmpR x y < 0 ↔ ltR x y := by
  have := ltOf_cmpR x y
  simp only [ltOf] at this
  simpa using this
theorem ltR_trans {x y z : RecV} (h : ltR x y) (k : ltR y z) : ltR x z := by unfold ltR at *; omega
theorem keys1_mem {x : InM} {k : RecV} (h : k ∈ keys1 x) : k.src = x.src ∧ 0 ≤ k.key ∧ k.key < 32 ∧ k.val = 0 ∧ ∃ r ∈ x.recs, r.key = k.key := by
  unfold keys1 at h
  obtain ⟨n, hn, rfl⟩ := List.mem_map.1 h
  rw [List.mem_filter, List.mem_range] at hn
  obtain ⟨r, hr, he⟩ := List.any_eq_true.1 hn.2
  refine ⟨rfl, ?_, ?_, rfl, r, hr, by simpa using he⟩
  · show (0 : Int) ≤ (n : Int); omega
  · show (n : Int) < 32; omega
theorem keys1_sorted (x : InM) : (keys1 x).Pairwise ltR := by
  unfold keys1
  rw [List.pairwise_map]
  exact ((range_rises 32).filter _).imp (fun h => .inr ⟨rfl, by show ((_ : Nat) : Int) < ((_ : Nat) : Int); omega⟩)
theorem keysL_mem {xs : List InM} {k : RecV} (h : k ∈ keysL xs) : ∃ x ∈ xs, k ∈ keys1 x := List.mem_flatMap.1 h
theorem keysL_sorted : ∀ {xs : List InM}, (xs.map (·.src)).Pairwise (· < ·) → (keysL xs).Pairwise ltR
  | [], _ => by simp [keysL]
  | x :: xs, h => by
    rw [List.map_cons, List.pairwise_cons] at h
    rw [keysL, List.flatMap_cons, List.pairwise_append]
    refine ⟨keys1_sorted x, keysL_sorted h.2, fun a ha b hb => ?_⟩
    obtain ⟨y, hy, hb⟩ := keysL_mem hb
    have h1 := (keys1_mem ha).1
    have h2 := (keys1_mem hb).1
    have h3 := h.1 y.src (List.mem_map.2 ⟨y, hy, rfl⟩)
    exact .inl (by omega)
theorem chkW_rises {os : List OpM} {xs : List InM} (h : chkW os xs = 0) : (xs.map (·.src)).Pairwise (· < ·) := by
  have hnd := chkW_nodup h
  have hg := chkW_g h
  unfold chkW at h
  rw [if_neg (by omega)] at h
  split at h
  · omega
  · split at h
    · rename_i he
      have hs : (xs.map (·.src)).Pairwise (· ≤ ·) := by
        rw [he, sortI]
        have := List.pairwise_mergeSort (le := fun x y : Int => decide (x ≤ y)) (by intro a b c; simp; omega) (by intro a b; simp; omega) (wantI os)
        exact this.imp (fun h => by simpa using h)
      exact (hs.and hnd).imp (fun ⟨h1, h2⟩ => by omega)
    · omega
theorem keysL_ok {xs : List InM} (hin : ∀ x ∈ xs, chkIn x = 0) {k : RecV} (h : k ∈ keysL xs) : chkRec k = 0 ∧ k.val = 0 := by
  obtain ⟨x, hx, hk⟩ := keysL_mem h
  obtain ⟨h1, h2, h3, h4, _⟩ := keys1_mem hk
  have hs := chkIn_zero (hin x hx)
  exact ⟨chkRec_ok (by omega) (by omega) h2 h3, h4⟩
theorem tabB_ok : ∀ (L : List KcV) (p : Option KcV), (∀ q, p = some q → ∀ x ∈ L, cmpR q.rec' x.rec' < 0) → L.Pairwise (fun a b => cmpR a.rec' b.rec' < 0) → (∀ x ∈ L, chkRec x.rec' = 0 ∧ 1 ≤ x.count) → tabB p L = true
  | [], _, _, _, _ => rfl
  | x :: L, p, h1, h2, h3 => by
    rw [List.pairwise_cons] at h2
    have hb : badAt p x = false := by
      obtain ⟨k1, k2⟩ := h3 x (by simp)
      cases p with
      | none => simp [badAt, k1]; omega
      | some q =>
        have := h1 q rfl x (by simp)
        simp [badAt, k1]; omega
    rw [tab_yes hb]
    exact tabB_ok L (some x) (fun q e y hy => by injection e with e; subst e; exact h2.1 y hy) h2.2 (fun y hy => h3 y (by simp [hy]))
theorem tabOf_mem {f : RecV → CellV} {ks : List RecV} {x : KcV} (h : x ∈ tabOf f ks) : ∃ k ∈ ks, x.src = k.src ∧ x.key = k.key ∧ (f k).none = false ∧ x.count = (f k).count ∧ x.sum = (f k).sum := by
  unfold tabOf at h
  obtain ⟨k, hk, he⟩ := List.mem_filterMap.1 h
  split at he
  · cases he
  · rename_i hn
    injection he with he
    subst he
    exact ⟨k, hk, rfl, rfl, by simpa using hn, rfl, rfl⟩
theorem cmp_core {x : KcV} {k z : RecV} (h1 : x.src = k.src) (h2 : x.key = k.key) (h : ltR k z) : cmpR x.rec' z < 0 := by
  rw [cmpR_lt]
  unfold ltR KcV.rec' at *
  simp only
  omega
/-- What stands in a table of cells by rising keys. -/
theorem tabOf_law {f : RecV → CellV} {ks : List RecV} (hs : ks.Pairwise ltR) (hk : ∀ k ∈ ks, chkRec k = 0) (hc : ∀ k, CellOk (f k)) : chkT (tabOf f ks) = 0 := by
  apply chkT_yes
  apply tabB_ok
  · intro q e; cases e
  · unfold tabOf
    rw [List.pairwise_filterMap]
    refine hs.imp (fun {a b} hab x hx y hy => ?_)
    split at hx
    · cases hx
    · split at hy
      · cases hy
      · injection hx with hx
        injection hy with hy
        subst hx hy
        rw [cmpR_lt]
        unfold ltR KcV.rec' at *
        simpa using hab
  · intro x hx
    obtain ⟨k, hk', h1, h2, h3, h4, h5⟩ := tabOf_mem hx
    have hk := hk k hk'
    refine ⟨?_, ?_⟩
    · have : x.rec'.ok = k.ok := by unfold RecV.ok KcV.rec'; simp only; rw [h1, h2]
      unfold chkRec at hk ⊢
      rw [this]; exact hk
    · obtain ⟨c1, c2⟩ := hc k
      simp only [CellV.none, Bool.and_eq_false_iff, beq_eq_false_iff_ne] at h3
      by_cases h0 : (f k).count = 0
      · have := c2 h0
        rcases h3 with h3 | h3
        · exact absurd h0 h3
        · exact absurd this h3
      · omega
theorem tabOf_lt {f : RecV → CellV} {ks : List RecV} {z : RecV} (hs : ∀ k ∈ ks, ltR k z) : ∀ x ∈ tabOf f ks, ltK z x = true := by
  intro x hx
  obtain ⟨k, hk', h1, h2, _⟩ := tabOf_mem hx
  unfold ltK
  rw [decide_eq_true_eq]
  exact cmp_core h1 h2 (hs k hk')
theorem sameK_rec {x : KcV} {k : RecV} (h : sameK x.rec' k = true) : x.src = k.src ∧ x.key = k.key := by
  simp only [sameK, KcV.rec', Bool.and_eq_true, beq_iff_eq] at h
  exact h
/-- The cell of a key out of such a table. -/
theorem getC_tab {f : RecV → CellV} (key : RecV) (hv : key.val = 0) (hc : CellOk (f key)) : ∀ (ks : List RecV), (∀ k ∈ ks, k.val = 0) → getC (tabOf f ks) key = if key ∈ ks then f key else ⟨0, 0⟩
  | [], _ => rfl
  | k :: ks, h => by
    have ih := getC_tab key hv hc ks (fun q hq => h q (by simp [hq]))
    have hk := h k (by simp)
    by_cases e : key = k
    · subst e
      rw [if_pos (by simp)]
      cases hn : (f key).none with
      | true =>
        have hz : f key = ⟨0, 0⟩ := by
          simp only [CellV.none, Bool.and_eq_true, beq_iff_eq] at hn
          cases hfk : f key with
          | mk c s => rw [hfk] at hn; simp at hn; rw [hn.1, hn.2]
        have e1 : tabOf f (key :: ks) = tabOf f ks := by simp [tabOf, hn]
        rw [e1, ih]
        split
        · rfl
        · exact hz.symm
      | false =>
        have e1 : tabOf f (key :: ks) = ⟨key.src, key.key, (f key).count, (f key).sum⟩ :: tabOf f ks := by simp [tabOf, hn]
        rw [e1, getC, List.find?_cons_of_pos (by simp [sameK, KcV.rec'])]
        try rfl
    · have hne : sameK (KcV.rec' ⟨k.src, k.key, (f k).count, (f k).sum⟩) key = false := by
        cases hs : sameK (KcV.rec' ⟨k.src, k.key, (f k).count, (f k).sum⟩) key with
        | false => rfl
        | true =>
          obtain ⟨h1, h2⟩ := sameK_rec hs
          exfalso
          apply e
          cases key; cases k
          simp_all
      have e1 : getC (tabOf f (k :: ks)) key = getC (tabOf f ks) key := by
        cases hn : (f k).none with
        | true =>
          have : tabOf f (k :: ks) = tabOf f ks := by simp [tabOf, hn]
          rw [this]
        | false =>
          have : tabOf f (k :: ks) = ⟨k.src, k.key, (f k).count, (f k).sum⟩ :: tabOf f ks := by simp [tabOf, hn]
          rw [this, getC, List.find?_cons_of_neg (by rw [hne]; simp)]
          try rfl
      rw [e1, ih]
      simp [e]
/-- The first row of a key. -/
def valsOf (L : List (Int × Int × List Int)) (src key : Int) : List Int := ((L.find? fun x => x.1 == src && x.2.1 == key).map (·.2.2)).getD []
theorem valsOf_rows {f : RecV → List Int} (src key : Int) : ∀ (ks : List RecV), (∀ k ∈ ks, k.val = 0) → valsOf (rowsOf f ks) src key = if (⟨src, key, 0⟩ : RecV) ∈ ks then f ⟨src, key, 0⟩ else []
  | [], _ => rfl
  | k :: ks, h => by
    have ih := valsOf_rows (f := f) src key ks (fun q hq => h q (by simp [hq]))
    have hk := h k (by simp)
    by_cases e : (⟨src, key, 0⟩ : RecV) = k
    · subst e
      rw [if_pos (by simp)]
      by_cases hn : f ⟨src, key, 0⟩ = []
      · have e1 : rowsOf f (⟨src, key, 0⟩ :: ks) = rowsOf f ks := by simp [rowsOf, hn]
        rw [e1, ih, hn]
        simp
      · have e1 : rowsOf f (⟨src, key, 0⟩ :: ks) = (src, key, f ⟨src, key, 0⟩) :: rowsOf f ks := by simp [rowsOf, hn]
        rw [e1, valsOf, List.find?_cons_of_pos (by simp)]
        try rfl
    · have hne : (k.src == src && k.key == key) = false := by
        cases hs : (k.src == src && k.key == key) with
        | false => rfl
        | true =>
          simp only [Bool.and_eq_true, beq_iff_eq] at hs
          exfalso
          apply e
          cases k
          simp_all
      have e1 : valsOf (rowsOf f (k :: ks)) src key = valsOf (rowsOf f ks) src key := by
        by_cases hn : f k = []
        · have : rowsOf f (k :: ks) = rowsOf f ks := by simp [rowsOf, hn]
          rw [this]
        · have : rowsOf f (k :: ks) = (k.src, k.key, f k) :: rowsOf f ks := by simp [rowsOf, hn]
          rw [this, valsOf, List.find?_cons_of_neg (by rw [hne]; simp)]
          try rfl
      rw [e1, ih]
      simp [e]
end Go.Proofs.YtbonfdkgkcbkmaaGreat
end

section
namespace Go.Proofs.YtbonfdkgkcbkmaaGreat
set_option maxRecDepth 100000
open Go.RowKit Go.Shelf

attribute [local go_sem] Oper.semAt_some run_store_func
/-- Between the rounds of Table. -/
structure TbAt (f : RecV → CellV) (w : World) (bx : Nat) (pre : List RecV) (W : World) : Prop where
  out : ∃ a c, W.heap[bx]? = some (.cells #[.slice a (tabOf f pre).length c] 51 (0, 0)) ∧ OwnC W (bx + 1) (.slice a (tabOf f pre).length c) (tabOf f pre)
  r0 : ∃ v, W.heap[w.heap.size]? = some (.cells #[v] 51 (0, 0))
  r1 : ∃ v, W.heap[w.heap.size + 1]? = some (.cells #[v] 33 (0, 0))
  upd : Upd0 w W
  up : bx = w.heap.size + 2
  wk : ∃ u v, W.heap[bx + 1]? = some (.cells #[u, v] 27 (0, 0))
/-- What its body may write. -/
def tbB (bx : Nat) : Nat → TypeId → Prop := fun k t => k = bx ∧ t = 51
theorem TbAt.T {f : RecV → CellV} {w W W' : World} {bx : Nat} {pre : List RecV} {Φ : Nat → TypeId → Prop} (h : TbAt f w bx pre W) (hu : UpdT Φ W W') (hp : ∀ k t, Φ k t → w.heap.size ≤ k ∧ t ≠ 51 ∧ t ≠ 33 ∧ t ≠ 63 ∧ t ≠ 27) : TbAt f w bx pre W' := by
  obtain ⟨a, c, h1, h2⟩ := h.out
  obtain ⟨v0, h4⟩ := h.r0
  obtain ⟨v1, h5⟩ := h.r1
  obtain ⟨u, v, h6⟩ := h.wk
  refine ⟨⟨a, c, hu.keep h1 (fun cs t fr e p => ?_), ownsRow_T h2 hu (fun k _ p => (hp _ _ p).2.2.2.1 rfl)⟩, ⟨v0, hu.keep h4 (fun cs t fr e p => ?_)⟩, ⟨v1, hu.keep h5 (fun cs t fr e p => ?_)⟩, Upd.step h.upd hu (fun k hk ⟨_, _, _, _, p⟩ => by have := (hp _ _ p).1; omega), h.up, ⟨u, v, hu.keep h6 (fun cs t fr e p => ?_)⟩⟩
  all_goals
    injection e with _ e
    subst e
  · exact (hp _ _ p).2.1 rfl
  · exact (hp _ _ p).2.1 rfl
  · exact (hp _ _ p).2.2.1 rfl
  · exact (hp _ _ p).2.2.2.2 rfl
theorem TbAt.kept {f : RecV → CellV} {w W W' : World} {bx : Nat} {pre : List RecV} (h : TbAt f w bx pre W) (hu : Upd0 W W') : TbAt f w bx pre W' :=
  h.T (Φ := fun _ _ => False) (UpdT.of0 hu) (fun _ _ p => p.elim)
theorem TbAt.put {f : RecV → CellV} {w W : World} {bx : Nat} {pre : List RecV} (h : TbAt f w bx pre W) {l : Nat} {o : Loop} {o' : Obj} (hl : w.heap.size ≤ l) (ho : W.heap[l]? = some (.loop o)) : TbAt f w bx pre (W.putObj l o') := by
  obtain ⟨a, c, h1, h2⟩ := h.out
  obtain ⟨v0, h4⟩ := h.r0
  obtain ⟨v1, h5⟩ := h.r1
  obtain ⟨u, v, h6⟩ := h.wk
  exact ⟨⟨a, c, cells_put _ h1 rfl ho rfl, ownsRow_put h2 _ ho rfl⟩, ⟨v0, cells_put _ h4 rfl ho rfl⟩, ⟨v1, cells_put _ h5 rfl ho rfl⟩, h.upd.step (upd_put _) (fun k hk e => by omega), h.up, ⟨u, v, cells_put _ h6 rfl ho rfl⟩⟩
theorem TbAt.more {f : RecV → CellV} {w W : World} {bx : Nat} {pre : List RecV} {k : RecV} {a : Option Addr} {c B : Nat} (h : TbAt f w bx pre W) (hB : bx + 1 ≤ B) (ho : OwnC W B (.slice a (tabOf f (pre ++ [k])).length c) (tabOf f (pre ++ [k]))) :
    TbAt f w bx (pre ++ [k]) (W.setCell ⟨bx, 0, none⟩ (.slice a (tabOf f (pre ++ [k])).length c)) ∧ UpdT (tbB bx) W (W.setCell ⟨bx, 0, none⟩ (.slice a (tabOf f (pre ++ [k])).length c)) := by
  obtain ⟨a1, c1, h1, _⟩ := h.out
  have hut : UpdT (tbB bx) W (W.setCell ⟨bx, 0, none⟩ (.slice a (tabOf f (pre ++ [k])).length c)) := (upd_own W bx 0 _).mono (fun q hq e => by subst e; exact ⟨_, _, _, h1, rfl, rfl⟩)
  obtain ⟨v1, hr1⟩ := h.r1
  obtain ⟨v0, hr0⟩ := h.r0
  obtain ⟨u, v, hwk⟩ := h.wk
  have hup := h.up
  refine ⟨⟨⟨a, c, ?_, ?_⟩, ⟨v0, ?_⟩, ⟨v1, ?_⟩, ?_, h.up, ⟨u, v, ?_⟩⟩, hut⟩
  · have := blk_set (i := 0) (v := .slice a (tabOf f (pre ++ [k])).length c) h1
    simpa using this
  · refine ownsRow_low (ownsRow_heap ho (fun q hq => set_ne (fun e => ?_))) hB
    have := (World.ownsRow.lt ho q hq).1
    have e' : q = bx := e
    omega
  · exact hut.keep hr0 (fun cs t fr e p => by have := p.1; omega)
  · exact hut.keep hr1 (fun cs t fr e p => by have := p.1; omega)
  · exact Upd.step h.upd hut (fun q hq ⟨_, _, _, _, p⟩ => by have := p.1; omega)
  · exact hut.keep hwk (fun cs t fr e p => by have := p.1; omega)
theorem keysL_lt {xs : List InM} (h : (keysL xs).Pairwise ltR) {pre rest : List RecV} {z : RecV} (e : keysL xs = (pre ++ [z]) ++ rest) : ∀ k ∈ pre, ltR k z := by
  rw [e, List.append_assoc, List.pairwise_append] at h
  exact fun k hk => h.2.2 k hk z (by simp)
theorem part_sorted {xs : List InM} (h : (keysL xs).Pairwise ltR) {pre rest : List RecV} {z : RecV} (e : keysL xs = (pre ++ [z]) ++ rest) : pre.Pairwise ltR := by
  rw [e, List.append_assoc, List.pairwise_append] at h
  exact h.1
set_option maxHeartbeats 8000000 in
theorem table1_any {oa xa aa : Option Addr} {os : List OpM} {xs : List InM} {ats : List (List Int)} {oc xc ac wk ab nb n : Nat} (w : World) (h : WkIn w oa os oc xa xs) (ha : AtIn w aa ats)
    (bw : w.heap[wk]? = some (.cells #[.slice oa os.length oc, .slice xa xs.length xc] 27 (0, 0))) (ba : w.heap[ab]? = some (.cells #[.slice aa ats.length ac] 29 (0, 0))) (bn : w.heap[nb]? = some (.cells #[.int .i64 n] 3 (0, 0)))
    (hg : (chkG os).2 = 0) (hal : ats.length = xs.length) (hoa : ∀ o ∈ os, o.a ≤ 9223372036854775807) (hn : n < os.length) (hin : ∀ x ∈ xs, chkIn x = 0) (hok : ∀ key, (comesV os xs ats key n).2.2 = 0) (hco : ∀ key, CellOk (comesV os xs ats key n).2.1) (hsrt : (keysL xs).Pairwise ltR) :
    Calls Tryz.prog 61 #[.pointer (some ⟨wk, 0, none⟩), .pointer (some ⟨ab, 0, none⟩), .pointer (some ⟨nb, 0, none⟩)] w fun e w' => ∃ a c, e = .returned (.tuple #[.agg #[.slice a (tabOf (fun k => (comesV os xs ats k n).2.1) (keysL xs)).length c], .int .i64 0]) ∧ OwnC w' w.heap.size (.slice a (tabOf (fun k => (comesV os xs ats k n).2.1) (keysL xs)).length c) (tabOf (fun k => (comesV os xs ats k n).2.1) (keysL xs)) ∧ Upd0 w w' := by
  obtain ⟨f, hf⟩ : ∃ f, f = fun k => (comesV os xs ats k n).2.1 := ⟨_, rfl⟩
  rw [← hf]
  obtain ⟨bx, hbx⟩ : ∃ bx, bx = w.heap.size + 2 := ⟨_, rfl⟩
  obtain ⟨w3, hw3⟩ : ∃ w3, w3 = ((w.alloc (.cells #[.slice none 0 0] 51)).alloc (.cells #[.int .i64 0] 33)).alloc (.cells #[.slice none 0 0] 51) := ⟨_, rfl⟩
  have hu3 : Upd0 w w3 := by rw [hw3]; exact (((Upd.refl _ w).alloc _).alloc _).alloc _
  have hb0 : w3.heap[w.heap.size]? = some (.cells #[.slice none 0 0] 51 (0, 0)) := by rw [hw3]; exact (alloc_lt (by simp <;> omega)).trans ((alloc_lt (by simp)).trans (alloc_at rfl))
  have hb1 : w3.heap[w.heap.size + 1]? = some (.cells #[.int .i64 0] 33 (0, 0)) := by rw [hw3]; exact (alloc_lt (by simp)).trans (alloc_at (by simp))
  have hb2 : w3.heap[bx]? = some (.cells #[.slice none 0 0] 51 (0, 0)) := by rw [hw3, hbx]; exact alloc_at (by simp)
  have hz3 : w3.heap.size = bx + 1 := by rw [hw3, hbx]; simp
  have HAL := Lib.hid (all_any (oa := oa) (xa := xa) (os := os.length) (xs := xs.length) (oc := oc) (xc := xc) w3)
  have HW := Lib.hid h; have HA := Lib.hid ha; have HBW := Lib.hid bw; have HBA := Lib.hid ba; have HBN := Lib.hid bn; have HIN := Lib.hid hin
  have HCM := Lib.hid (fun (key : RecV) (W : World) (hW : Upd0 w W) => comes_any (xc := xc) (ac := ac) key W (h.kept hW) (ha.kept hW) hg hal hoa hn)
  have HOK := Lib.hid hok; have HCOK := Lib.hid (show ∀ k, CellOk (f k) from fun k => by rw [hf]; exact hco k); have HSRT := Lib.hid hsrt; have HF := Lib.hid hf
  have HU3 := Lib.hid hu3; have H0 := Lib.hid hb0; have H1 := Lib.hid hb1; have H2 := Lib.hid hb2; have HZ3 := Lib.hid hz3
  have HBX := Lib.hid hbx
  obtain ⟨c0, c1⟩ := cells2_of ((hu3.block _ (lt_of_heap bw) (fun e => e)).trans bw)
  clear h ha bw ba bn hg hal hoa hn hin hok hco hsrt hf hu3 hb0 hb1 hb2 hz3
  refine (callsIn_wide (n := 5)).1 ?_
  refine callsIn_of_wp_marks Tryz.func61 rfl trivial ?_ rfl
  simp only [Tryz.ntmps61, List.size_toArray, List.length_cons, List.length_nil, Nat.reduceAdd, Nat.reduceSub, Array.replicate_succ, Array.replicate_zero, List.push_toArray, List.append_toArray, List.nil_append, List.cons_append]
  gi_upto_region 2 with fail
  rw [← hw3]
  simp only [Nat.add_assoc, Nat.reduceAdd]
  rw [← hbx]
  clear hw3 hbx
  gi_wp2_with (gi_at_call 58; fail)
  refine ⟨trivial, callsIn_wide.2 (HAL.out.mono ?_)⟩
  rintro e w5 ⟨rfl, hw5⟩
  clear HAL c0 c1
  simp only []
  gi_wp2
  have hu5 : Upd0 w3 w5 := by rw [hw5]; exact (Upd.refl _ w3).alloc _
  have k3 : ∀ {j p}, w3.heap[j]? = some p → w5.heap[j]? = some p := fun hp => (hu5.block _ (lt_of_heap hp) (fun e => e)).trans hp
  have hb5 : w5.heap[bx + 1]? = some (.cells #[.slice oa os.length oc, .slice xa xs.length xc] 27 (0, 0)) := by rw [hw5]; exact alloc_at HZ3.out.symm
  have HZ5 := Lib.hid (show w5.heap.size = bx + 2 by rw [hw5]; simp [HZ3.out])
  have HB5 := Lib.hid hb5
  have HU5 := Lib.hid (HU3.out.trans hu5)
  have HAT := Lib.hid (show TbAt f w bx [] w5 from ⟨⟨none, 0, k3 H2.out, World.ownsRow_nil _ _ _ _⟩, ⟨_, k3 H0.out⟩, ⟨_, k3 H1.out⟩, HU3.out.trans hu5, HBX.out, ⟨_, _, hb5⟩⟩)
  clear hw5 hu5 k3 hb5
  refine wpIn_rangeFunc_T (α := RecV) (encs := fun z => #[.agg #[.int .i64 z.src, .int .i64 z.key, .int .i64 z.val]]) rfl (by omega) (gf := 130) (lb := #[.pointer (some ⟨w3.heap.size, 0, none⟩)]) rfl trivial (fun _ _ => rfl) (fun _ => rfl) (fun _ _ => False) (tbB bx) (fun pre x' => ∃ rest, keysL xs = (pre ++ [x']) ++ rest) (fun ks _ => ks = keysL xs) (TbAt f w bx) (fun _ _ => False)
    ?hIU ?hIP (fun _ _ _ _ e => e.elim) (fun _ _ _ _ _ e => e.elim) HAT.out (fun _ _ _ _ _ e _ _ => e) ?hseq (fun z a' W => ∃ rb, W.heap[rb]? = some (.cells #[.int .i64 z.src, .int .i64 z.key, .int .i64 z.val] 36 (0, 0)) ∧ a' = { tmps := #[.pointer (some ⟨wk, 0, none⟩), .pointer (some ⟨ab, 0, none⟩), .pointer (some ⟨nb, 0, none⟩), .pointer (some ⟨w.heap.size, 0, none⟩), .pointer (some ⟨w.heap.size + 1, 0, none⟩), .pointer (some ⟨bx, 0, none⟩), .pointer (some ⟨rb, 0, none⟩), undef, undef, undef, .agg #[.slice oa os.length oc, .slice xa xs.length xc], .func (.func 130) #[] #[.pointer (some ⟨w3.heap.size, 0, none⟩)], .agg #[.int .i64 z.src, .int .i64 z.key, .int .i64 z.val], undef, undef, undef, undef, undef, undef, undef, undef, undef, undef, undef, undef, undef, undef, undef, undef, undef, undef, undef, undef, undef, undef, undef, undef, undef], defers := [] }) ?hAP ?hassign ?hbody ?hdone (fun _ _ e => e.elim)
  case hIU =>
    rintro pre W W' hs h hu
    exact h.T hu (fun _ _ p => p.elim)
  case hIP =>
    rintro pre W l o o' h hl ho
    exact h.put (by have := HZ5.out; have := HBX.out; omega) ho
  case hseq =>
    intro l J Jx W h0 hu hJ hJx hY
    have hz := HZ5.out
    have hz3 := HZ3.out
    have hbx := HBX.out
    rw [hz3]
    refine all1_any (B := bx + 2) (wk := bx + 1) (Φb := tbB bx) (oa := oa) (oc := oc) (os := os) (xa := xa) (xc := xc) (fun W => Upd0 w W ∧ W.heap[bx + 1]? = some (.cells #[.slice oa os.length oc, .slice xa xs.length xc] 27 (0, 0)) ∧ bx + 2 ≤ W.heap.size) (fun W hW => ⟨HW.out.kept hW.1, hW.2.1, hW.2.2⟩) (fun W W' hW hu' => ⟨hW.1.trans hu', (hu'.block _ (lt_of_heap hW.2.1) (fun e => e)).trans hW.2.1, Nat.le_trans hW.2.2 hu'.size⟩) HIN.out
      (fun W W' hW hu' => ⟨Upd.step hW.1 hu' (fun k hk ⟨_, _, _, _, p⟩ => by have := p.1; omega), hu'.keep hW.2.1 (fun cs t fr e p => by injection e with _ e; subst e; exact absurd p.2 (by decide)), Nat.le_trans hW.2.2 hu'.size⟩)
      (fun k t p => by have p := p.2; subst p; decide) l J Jx W ⟨HU5.out.trans hu, (hu.block _ (lt_of_heap HB5.out) (fun e => e)).trans HB5.out, by have := hu.size; omega⟩ h0 (fun pre W W' hs hj hu' => hJ pre W W' (by omega) hj (UpdT.of0 hu')) (fun pre x W1 hg hj hp => hY pre x W1 (by have := hg.2.2; omega) hj hp)
  case hAP =>
    rintro z a' W l o o' ⟨rb, h1, h2⟩ hl ho
    exact ⟨rb, cells_put o' h1 rfl ho rfl, h2⟩
  case hassign =>
    intro l z W K _ hK
    have HK := Lib.hid hK
    clear hK
    gi_wp2
    exact HK.out _ _ ((Upd.refl _ W).alloc _) ⟨W.heap.size, alloc_at rfl, rfl⟩
  case hbody =>
    rintro l pre z a' W r hl hs hi ⟨rest, hpl⟩ ⟨rb, h5, rfl⟩ hlr
    have hple : pre.length < 1000 := by
      have h1 := congrArg List.length hpl
      have h2 := keysL_len xs
      have h3 := HW.out.xl
      simp only [List.length_append, List.length_cons, List.length_nil] at h1
      omega
    have HI := Lib.hid hi; have H5 := Lib.hid h5
    have hu := hi.upd
    obtain ⟨r0, r1, r2⟩ := cells3_of h5
    obtain ⟨d0, d1⟩ := cells2_of ((hu.block _ (lt_of_heap HBW.out) (fun e => e)).trans HBW.out)
    have g0 := cells1_of ((hu.block _ (lt_of_heap HBA.out) (fun e => e)).trans HBA.out)
    have g1 := cells1_of ((hu.block _ (lt_of_heap HBN.out) (fun e => e)).trans HBN.out)
    have HCV := Lib.hid (HCM.out z W hu)
    have HOKZ := Lib.hid (HOK.out z)
    have HFZ := Lib.hid (show f z = (comesV os xs ats z n).2.1 by rw [HF.out])
    obtain ⟨hzc, hzv⟩ := keysL_ok HIN.out (k := z) (by rw [hpl]; simp)
    have HKZ := Lib.hid hzc
    have HLT := Lib.hid (show ∀ x ∈ tabOf f pre, ltK z x = true from tabOf_lt (keysL_lt HSRT.out hpl))
    have HTL := Lib.hid (show chkT (tabOf f pre) = 0 from tabOf_law (part_sorted HSRT.out hpl) (fun k hk => (keysL_ok HIN.out (k := k) (by rw [hpl]; simp [hk])).1) HCOK.out)
    obtain ⟨rr, hrr⟩ : ∃ rr, rr = comesV os xs ats z n := ⟨_, rfl⟩
    rw [← hrr] at HCV HOKZ HFZ
    obtain ⟨rl, rc, re⟩ := rr
    simp only at HOKZ HFZ
    have he := HOKZ.out
    subst he
    clear hi hpl h5 hlr hu hrr HOKZ hzc hzv
    gi_wp2_with (gi_at_call 59; fail)
    refine ⟨trivial, ?_⟩
    refine (CallsIn.inRound l (callsIn_wide.2 HCV.out)).mono ?_
    rintro e W3 ⟨a3, c3, rfl, ho3, hu3⟩
    have HI3 := Lib.hid (HI.out.kept hu3); have HU3' := Lib.hid hu3
    have H53 := Lib.hid ((hu3.block _ (lt_of_heap H5.out) (fun e => e)).trans H5.out)
    have HWS := Lib.hid hs
    clear hu3 ho3 r0 r1 r2 d0 d1 g0 g1 HCV hs
    simp only []
    obtain ⟨W4, hW4⟩ : ∃ W4, W4 = W3.alloc (.cells #[.int .i64 rc.count, .int .i64 rc.sum] 61) := ⟨_, rfl⟩
    have hu4 : Upd0 W3 W4 := by rw [hW4]; exact (Upd.refl _ W3).alloc _
    have HI4 := Lib.hid (HI3.out.kept hu4)
    have HU4 := Lib.hid (HU3'.out.trans hu4)
    obtain ⟨e0, e1, e2⟩ := cells3_of ((hu4.block _ (lt_of_heap H53.out) (fun e => e)).trans H53.out)
    obtain ⟨e3, e4⟩ := cells2_of (show W4.heap[W3.heap.size]? = some (.cells #[.int .i64 rc.count, .int .i64 rc.sum] 61 (0, 0)) by rw [hW4]; exact alloc_at rfl)
    obtain ⟨a, c, h1, h2⟩ := HI4.out.out
    have hLl : (tabOf f pre).length < 1000 := Nat.lt_of_le_of_lt (tabOf_len f pre) hple
    have x0 := cells1_of h1
    have hbl := lt_of_heap h1
    have HSZ := Lib.hid (show bx + 1 ≤ W4.heap.size by omega)
    have HPUT := Lib.hid (tput_any (c := c) z rc W4 (OwnC.in' h2) (by omega) HLT.out HKZ.out (by have := HCOK.out z; rw [HFZ.out] at this; exact this) HTL.out)
    rw [show setEnd (tabOf f pre) z rc = tabOf f (pre ++ [z]) by rw [tabOf_snoc, HFZ.out]] at HPUT
    clear h1 h2 hu4 hLl hbl HTL HLT HKZ
    gi_upto_region 7 with fail
    rw [← hW4]
    clear hW4
    gi_wp2_with (gi_at_call 62; fail)
    refine ⟨trivial, ?_⟩
    refine (CallsIn.inRound l (callsIn_wide.2 HPUT.out)).mono ?_
    rintro e W5 ⟨a5, c5, rfl, ho5, hu5⟩
    have HI5 := Lib.hid (HI4.out.kept hu5)
    have HU5' := Lib.hid (HU4.out.trans hu5)
    have HM := Lib.hid (HI5.out.more HSZ.out ho5)
    obtain ⟨a6, c6, h1, h2⟩ := HI5.out.out
    have x5 := cells1_of h1
    have f5 : W5.frozen? ⟨bx, 0, none⟩ = false := frozen_of_heap h1
    clear h1 h2 hu5 ho5 x0 e0 e1 e2 e3 e4 HPUT
    simp only []
    gi_wp2
    exact ⟨HM.out.1, (UpdT.of0 HU5'.out).trans HM.out.2⟩
  case hdone =>
    rintro ks W hS h hD
    subst hS
    obtain ⟨T, hT⟩ : ∃ T, T = tabOf f (keysL xs) := ⟨_, rfl⟩
    obtain ⟨a, c, h1, h2⟩ := h.out
    rw [← hT] at h1 h2
    have HTT := Lib.hid hT
    clear hT
    obtain ⟨v0, hr0⟩ := h.r0
    obtain ⟨v1, hr1⟩ := h.r1
    have x0 := cells1_of h1
    have y0 := cells1_of hr0
    have y1 := cells1_of hr1
    have f0 : W.frozen? ⟨w.heap.size, 0, none⟩ = false := frozen_of_heap hr0
    have f1 : W.frozen? ⟨w.heap.size + 1, 0, none⟩ = false := frozen_of_heap hr1
    have H2' := Lib.hid h2; have HD := Lib.hid hD; have HR0 := Lib.hid hr0; have HR1 := Lib.hid hr1; have HUW := Lib.hid h.upd
    clear h1 h2 hr0 hr1 hD h
    gi_wp2
    have hz := HZ5.out; have hbx := HBX.out
    obtain ⟨W9, hW9⟩ : ∃ W9, W9 = (W.setCell ⟨w.heap.size, 0, none⟩ (.slice a T.length c)).setCell ⟨w.heap.size + 1, 0, none⟩ (.int .i64 0) := ⟨_, rfl⟩
    rw [← hW9]
    have hu9 : Upd (fun q => q = w.heap.size ∨ q = w.heap.size + 1) W W9 := by
      rw [hW9]
      exact ((upd_own W w.heap.size 0 _).mono (fun _ _ e => .inl e)).trans ((upd_own _ (w.heap.size + 1) 0 _).mono (fun _ _ e => .inr e))
    have g0 : W9.heap[w.heap.size]? = some (.cells #[.slice a T.length c] 51 (0, 0)) := by
      rw [hW9, set_ne (by show w.heap.size ≠ w.heap.size + 1; omega)]
      have := blk_set (i := 0) (v := .slice a T.length c) HR0.out
      simpa using this
    have g1 : W9.heap[w.heap.size + 1]? = some (.cells #[.int .i64 0] 33 (0, 0)) := by
      rw [hW9]
      have := blk_set (i := 0) (v := .int .i64 0) ((set_ne (w := W) (a := ⟨w.heap.size, 0, none⟩) (u := .slice a T.length c) (k := w.heap.size + 1) (by show w.heap.size + 1 ≠ w.heap.size; omega)).trans HR1.out)
      simpa using this
    have hd9 : W9.heap[w5.heap.size]? = some (.deferred (some [])) := (hu9.block _ (lt_of_heap HD.out) (by omega)).trans HD.out
    have hk9 : OwnC W9 (bx + 1) (.slice a T.length c) T := ownsRow_any H2'.out hu9 (fun q hq e => by have := (World.ownsRow.lt H2'.out q hq).1; omega)
    refine ⟨by simp, .inl ⟨_, _, rfl, run_takeDeferred hd9, ?_⟩⟩
    refine ⟨_, results_cc (fn := Tryz.f61) rfl rfl (loadTab (cells_put _ g0 rfl hd9 rfl)) rfl (load33 (cells_put _ g1 rfl hd9 rfl)), ?_⟩
    rw [← HTT.out]
    refine ⟨a, c, rfl, ownsRow_low (ownsRow_put hk9 _ hd9 rfl) (by omega), ?_⟩
    exact (HUW.out.cut hu9 (fun q hq => by omega)).step (upd_put _) (fun q hq e => by omega)
theorem callTable1 : ∀ args w, (callFunc 61 args).run Tryz.prog w = .ok (.enter 61 args) w := enters_of Tryz.func61 (by kernel_rfl) rfl
set_option maxHeartbeats 4000000 in
theorem table_any {oa xa aa : Option Addr} {os : List OpM} {xs : List InM} {ats : List (List Int)} {oc xc ac n : Nat} (w : World) (h : WkIn w oa os oc xa xs) (ha : AtIn w aa ats) (hat : chkAt os xs ats = 0) (hl50 : ats.length ≤ 50) (hoa : ∀ o ∈ os, o.a ≤ 9223372036854775807) (hn : n < os.length) (hok : ∀ key, (comesV os xs ats key n).2.2 = 0) (hco : ∀ key, CellOk (comesV os xs ats key n).2.1) (hsrt : (keysL xs).Pairwise ltR) :
    Calls Tryz.prog 15 #[wkV oa os oc xa xs xc, .slice aa ats.length ac, .int .i64 n] w fun e w' => ∃ a c, e = .returned (.tuple #[.agg #[.slice a (tabOf (fun k => (comesV os xs ats k n).2.1) (keysL xs)).length c], .int .i64 0]) ∧ OwnC w' w.heap.size (.slice a (tabOf (fun k => (comesV os xs ats k n).2.1) (keysL xs)).length c) (tabOf (fun k => (comesV os xs ats k n).2.1) (keysL xs)) ∧ Upd0 w w' := by
  obtain ⟨hcw, hal⟩ := chkAt_w hat
  obtain ⟨b, hb⟩ : ∃ b, b = w.heap.size := ⟨_, rfl⟩
  obtain ⟨w1, hw1⟩ : ∃ w1, w1 = (((w.alloc (.cells #[.slice oa os.length oc, .slice xa xs.length xc] 27)).alloc (.cells #[.slice aa ats.length ac] 29)).alloc (.cells #[.int .i64 n] 3)).alloc (.cells #[.slice none 0 0] 51) := ⟨_, rfl⟩
  have hu1 : Upd0 w w1 := by rw [hw1]; exact ((((Upd.refl _ w).alloc _).alloc _).alloc _).alloc _
  have hb0 : w1.heap[b]? = some (.cells #[.slice oa os.length oc, .slice xa xs.length xc] 27 (0, 0)) := by rw [hw1, hb]; exact (alloc_lt (by simp <;> omega)).trans ((alloc_lt (by simp <;> omega)).trans ((alloc_lt (by simp)).trans (alloc_at rfl)))
  have hb1 : w1.heap[b + 1]? = some (.cells #[.slice aa ats.length ac] 29 (0, 0)) := by rw [hw1, hb]; exact (alloc_lt (by simp <;> omega)).trans ((alloc_lt (by simp)).trans (alloc_at (by simp)))
  have hb2 : w1.heap[b + 2]? = some (.cells #[.int .i64 n] 3 (0, 0)) := by rw [hw1, hb]; exact (alloc_lt (by simp)).trans (alloc_at (by simp))
  have hb3 : w1.heap[b + 3]? = some (.cells #[.slice none 0 0] 51 (0, 0)) := by rw [hw1, hb]; exact alloc_at (by simp)
  have HR := Lib.hid (show ∀ W, Upd0 w1 W → Calls Tryz.prog 61 #[.pointer (some ⟨b, 0, none⟩), .pointer (some ⟨b + 1, 0, none⟩), .pointer (some ⟨b + 2, 0, none⟩)] W _ from fun W hW =>
    table1_any (oc := oc) (xc := xc) (ac := ac) W (h.kept (hu1.trans hW)) (ha.kept (hu1.trans hW)) ((hW.block _ (lt_of_heap hb0) (fun e => e)).trans hb0) ((hW.block _ (lt_of_heap hb1) (fun e => e)).trans hb1) ((hW.block _ (lt_of_heap hb2) (fun e => e)).trans hb2) (chkW_g hcw) hal hoa hn (chkW_in hcw) hok hco hsrt)
  have HCA := Lib.hid (show ∀ W, Upd0 w1 W → Calls Tryz.prog 11 #[wkV oa os oc xa xs xc, .slice aa ats.length ac] W _ from fun W hW => checkat_any (xc := xc) (ac := ac) W (h.kept (hu1.trans hW)) (ha.kept (hu1.trans hW)) hl50)
  rw [hat] at HCA
  have HASK := Lib.hid (show Calls Tryz.prog 60 #[wkV oa os oc xa xs xc, .slice aa ats.length ac, .int .i64 n, .func (.func 61) #[] #[.pointer (some ⟨b, 0, none⟩), .pointer (some ⟨b + 1, 0, none⟩), .pointer (some ⟨b + 2, 0, none⟩)]] w1 fun e w' => ∃ a c, e = .returned (.tuple #[.agg #[.slice a (tabOf (fun k => (comesV os xs ats k n).2.1) (keysL xs)).length c], .int .i64 0]) ∧ OwnC w' w1.heap.size (.slice a (tabOf (fun k => (comesV os xs ats k n).2.1) (keysL xs)).length c) (tabOf (fun k => (comesV os xs ats k n).2.1) (keysL xs)) ∧ Upd0 w1 w' by
    obtain ⟨f, hf⟩ : ∃ f, f = fun k => (comesV os xs ats k n).2.1 := ⟨_, rfl⟩
    rw [← hf] at HR ⊢
    obtain ⟨w2, hw2⟩ : ∃ w2, w2 = ((w1.alloc (.cells #[.slice oa os.length oc, .slice xa xs.length xc] 27)).alloc (.cells #[.slice none 0 0] 51)).alloc (.cells #[.slice none 0 0] 51) := ⟨_, rfl⟩
    have hu2 : Upd0 w1 w2 := by rw [hw2]; exact (((Upd.refl _ w1).alloc _).alloc _).alloc _
    have HB := Lib.hid (show w2.heap[w1.heap.size]? = some (.cells #[.slice oa os.length oc, .slice xa xs.length xc] 27 (0, 0)) by rw [hw2]; exact (alloc_lt (by simp <;> omega)).trans ((alloc_lt (by simp)).trans (alloc_at rfl)))
    have HO := Lib.hid (show w2.heap[w1.heap.size + 1]? = some (.cells #[.slice none 0 0] 51 (0, 0)) by rw [hw2]; exact (alloc_lt (by simp)).trans (alloc_at (by simp)))
    have HC2 := Lib.hid (HCA.out w2 hu2)
    have HU2 := Lib.hid hu2
    have HCR := Lib.hid callTable1
    have hnI : (n : Int) < os.length := by omega
    have hn0 : ¬ (n : Int) < 0 := by omega
    obtain ⟨c0, c1⟩ := cells2_of HB.out
    have HOL := Lib.hid h.ol
    clear h ha hat hl50 hoa hok hco hsrt hcw hal hu1 hb0 hb1 hb2 hb3 hf hu2 HCA
    clear hw1 hb
    go_enter Tryz.func60, Tryz.ntmps60
    go_wp2_with (go_at_call 11; fail)
    rw [← hw2]
    clear hw2
    (with_reducible refine HC2.out.mono ?_)
    rintro _ w3 ⟨rfl, hu3⟩
    have HB3 := Lib.hid ((hu3.block _ (lt_of_heap HB.out) (fun e => e)).trans HB.out)
    have HU3 := Lib.hid (HU2.out.trans hu3); have HU2' := Lib.hid hu3
    have HR3 := Lib.hid (HR.out w3 HU3.out)
    clear hu3 c0 c1 HR HC2 HB
    obtain ⟨c0, c1⟩ := cells2_of HB3.out
    simp only []
    go_wp2_with (go_at_call 61; fail)
    (with_reducible refine HR3.out.mono ?_)
    rintro _ w5 ⟨a5, c5, rfl, hk5, hu5⟩
    have HK5 := Lib.hid (ownsRow_low hk5 HU3.out.size); have HU5 := Lib.hid (HU3.out.trans hu5)
    have HO5 := Lib.hid (((HU2'.out.trans hu5).block _ (lt_of_heap HO.out) (fun e => e)).trans HO.out)
    clear hk5 hu5 c0 c1 HR3
    have of0 : w5.frozen? ⟨w1.heap.size + 1, 0, none⟩ = false := frozen_of_heap HO5.out
    have o0 := cells1_of HO5.out
    simp only []
    go_wp2
    have hp := blk_set (i := 0) (v := .slice a5 (tabOf f (keysL xs)).length c5) HO5.out
    refine bodyPost_ret (results_ct (fn := Tryz.f60) rfl rfl (loadTab (by simpa using hp))) rfl ⟨a5, c5, rfl, ?_, HU5.out.cut (upd_own _ _ _ _) (fun q hq => by omega)⟩
    refine ownsRow_heap HK5.out (fun q hq => set_ne (fun e => ?_))
    obtain ⟨cur, hcur⟩ := ownsRow_at HK5.out hq
    have e' : q = w1.heap.size + 1 := e
    rw [e', HO5.out] at hcur
    injection hcur with hcur
    injection hcur with _ hcur
    exact absurd hcur (by decide))
  obtain ⟨f, hf⟩ : ∃ f, f = fun k => (comesV os xs ats k n).2.1 := ⟨_, rfl⟩
  rw [← hf] at HASK ⊢
  have HU1 := Lib.hid hu1
  have HOT := Lib.hid hb3
  have HBB := Lib.hid hb
  obtain ⟨c0, c1⟩ := cells2_of hb0
  have g0 := cells1_of hb1
  have g1 := cells1_of hb2
  clear h ha hat hl50 hoa hok hco hsrt hcw hal hu1 hb0 hb1 hb2 hb3 hf HR HCA
  go_enter Tryz.func15, Tryz.ntmps15
  go_wp2_with (go_at_call 60; fail)
  rw [← hw1, ← hb]
  clear hw1 hb
  simp only [Nat.add_assoc, Nat.reduceAdd]
  (with_reducible refine HASK.out.mono ?_)
  rintro _ w5 ⟨a5, c5, rfl, hk5, hu5⟩
  have HK5 := Lib.hid (ownsRow_low hk5 HU1.out.size); have HU5 := Lib.hid (HU1.out.trans hu5)
  have HO5 := Lib.hid ((hu5.block _ (lt_of_heap HOT.out) (fun e => e)).trans HOT.out)
  clear hk5 hu5 c0 c1 g0 g1 HASK
  have of0 : w5.frozen? ⟨b + 3, 0, none⟩ = false := frozen_of_heap HO5.out
  have o0 := cells1_of HO5.out
  simp only []
  go_wp2
  have hp := blk_set (i := 0) (v := .slice a5 (tabOf f (keysL xs)).length c5) HO5.out
  refine bodyPost_ret (results_ct (fn := Tryz.f15) rfl rfl (loadTab (by simpa using hp))) rfl ⟨a5, c5, rfl, ?_, HU5.out.cut (upd_own _ _ _ _) (fun q hq => by have := HBB.out; omega)⟩
  refine ownsRow_heap HK5.out (fun q hq => set_ne (fun e => ?_))
  obtain ⟨cur, hcur⟩ := ownsRow_at HK5.out hq
  have e' : q = b + 3 := e
  rw [e', HO5.out] at hcur
  injection hcur with hcur
  injection hcur with _ hcur
  exact absurd hcur (by decide)
end Go.Proofs.YtbonfdkgkcbkmaaGreat
end

section
namespace Go.Proofs.YtbonfdkgkcbkmaaGreat
set_option maxRecDepth 100000
open Go.RowKit Go.Shelf

attribute [local go_sem] Oper.semAt_some
/-- Rows to be read. -/
def KrIn (w : World) (a : Option Addr) (l : List KrV) : Prop := Row 3 w a (l.map KrV.cells)
theorem KrIn.kept {w w' : World} {a : Option Addr} {l : List KrV} (h : KrIn w a l) (hu : Upd0 w w') : KrIn w' a l := Row.kept h hu
theorem KrIn.at {w : World} {a : Option Addr} {l : List KrV} (h : KrIn w a l) {i : Nat} {x : KrV} (hi : l[i]? = some x) : ∃ b f, a = some ⟨b, f, none⟩ ∧ w.cell? ⟨b, f + i * 3, none⟩ = some (.int .i64 x.src) ∧ w.cell? ⟨b, f + i * 3 + 1, none⟩ = some (.int .i64 x.key) ∧ w.cell? ⟨b, f + i * 3 + 2, none⟩ = some (.slice x.va x.vals.length x.vc) := by
  obtain ⟨_, b, f, e, hc⟩ := h i x.cells (by rw [List.getElem?_map, hi]; rfl)
  have h0 := hc 0 _ rfl
  have h1 := hc 1 _ rfl
  have h2 := hc 2 _ rfl
  simp only [Nat.add_zero, ← Nat.add_assoc] at h0 h1 h2
  exact ⟨b, f, e, h0, h1, h2⟩
theorem KrIn.of {w : World} {B : Nat} {a : Option Addr} {c : Nat} {l : List KrV} (h : OwnKr w B (.slice a l.length c) l) : KrIn w a l := Row.of_ownK (by omega) h (mapKr_lens l) (by simp)
def hitK (src key : Int) (x : KrV) : Bool := x.src == src && x.key == key
def valV : Option KrV → Value
  | some x => .slice x.va x.vals.length x.vc
  | none => .slice none 0 0
def valW (L : List KrV) (src key : Int) : Value := valV (L.find? (hitK src key))
set_option maxHeartbeats 4000000 in
theorem vals_any {a : Option Addr} {l : List KrV} {c : Nat} (src key : Int) (w : World) (h : KrIn w a l) (hl : l.length ≤ 140737488351232) :
    Calls Tryz.prog 17 #[.slice a l.length c, .int .i64 src, .int .i64 key] w fun e w' => e = .returned (valW l src key) ∧ Upd0 w w' := by
  have H := Lib.hid h
  obtain ⟨vw, hvw⟩ : ∃ vw, vw = valW l src key := ⟨_, rfl⟩
  rw [← hvw]
  have HV := Lib.hid (show valV (l.find? (hitK src key)) = vw by rw [hvw]; rfl)
  clear h hvw
  go_enter Tryz.func17, Tryz.ntmps17
  go_wp2_with (fail)
  go_loopw [11] (fun i wr => ∃ k : Nat, k ≤ l.length ∧ i = .int .i64 k ∧ Hid ((l.drop k).find? (hitK src key) = l.find? (hitK src key)) ∧ Hid (Upd0 w wr)) (fun i _ => l.length - (intOf i).toNat)
  case atStart => exact ⟨0, Nat.zero_le _, rfl, Lib.hid rfl, Lib.hid (Upd.refl _ _)⟩
  case round =>
    obtain ⟨k, hk, rfl, HT, HR⟩ := hrel
    by_cases hlt : k < l.length
    · obtain ⟨x, hx⟩ : ∃ x, l[k]? = some x := ⟨_, List.getElem?_eq_getElem hlt⟩
      obtain ⟨b, f, rfl, c0, c1, c2⟩ := (H.out.kept HR.out).at hx
      have hbl := lt_of_cell c0
      have HT2 : Hid ((x :: l.drop (k + 1)).find? (hitK src key) = l.find? (hitK src key)) := by rw [← drop_cons' hx]; exact HT
      obtain ⟨w4, hw4⟩ : ∃ w4, w4 = wr.alloc (.cells #[.int .i64 x.src, .int .i64 x.key, .slice x.va x.vals.length x.vc] 57) := ⟨_, rfl⟩
      have hu4 : Upd0 wr w4 := by rw [hw4]; exact (Upd.refl _ wr).alloc _
      have HX4 := Lib.hid (show w4.heap[wr.heap.size]? = some (.cells #[.int .i64 x.src, .int .i64 x.key, .slice x.va x.vals.length x.vc] 57 (0, 0)) by rw [hw4]; exact alloc_at rfl)
      have HU4 := Lib.hid (HR.out.trans hu4)
      obtain ⟨bx, hbx⟩ : ∃ bx, bx = wr.heap.size := ⟨_, rfl⟩
      rw [← hbx] at HX4
      clear hx HT hu4
      go_upto_region 4 with fail
      rw [← hw4, ← hbx]
      clear hw4 hbx c0 c1 c2 hbl
      obtain ⟨c0, c1, c2⟩ := cells3_of HX4.out
      by_cases h1 : x.src = src
      · by_cases h2 : x.key = key
        · have HE := Lib.hid (show valV (some x) = vw by
            rw [← HV.out, ← HT2.out, List.find?_cons_of_pos (by simp [hitK, h1, h2])])
          go_wp2
          go_ret
          exact ⟨by rw [← HE.out]; rfl, HU4.out⟩
        · have HE := Lib.hid (show (l.drop (k + 1)).find? (hitK src key) = l.find? (hitK src key) by
            rw [← HT2.out, List.find?_cons_of_neg (by simp [hitK, h2])])
          go_wp2
          go_roundw
          case rel => exact ⟨k + 1, by omega, by go_num, HE, HU4⟩
          case measure => simp [intOf]; omega
      · have HE := Lib.hid (show (l.drop (k + 1)).find? (hitK src key) = l.find? (hitK src key) by
          rw [← HT2.out, List.find?_cons_of_neg (by simp [hitK, h1])])
        go_wp2
        go_roundw
        case rel => exact ⟨k + 1, by omega, by go_num, HE, HU4⟩
        case measure => simp [intOf]; omega
    · obtain rfl : k = l.length := by omega
      have HE := Lib.hid (show vw = .slice none 0 0 by
        have e := HT.out
        rw [List.drop_length] at e
        rw [← HV.out, ← e]; rfl)
      go_wp2
      go_ret
      exact ⟨by rw [HE.out]; rfl, HR.out⟩
end Go.Proofs.YtbonfdkgkcbkmaaGreat
end

section
namespace Go.Proofs.YtbonfdkgkcbkmaaGreat
set_option maxRecDepth 100000
open Go.RowKit Go.Shelf

theorem ask01 {x : InM} {o : List Int} (h : chkOff x o = 0) : askI x o 0 1 = 0 := by
  unfold askI
  rw [if_neg (by rw [h]; simp), if_pos (by simp [shareB, widthB])]
theorem next_err {x : InM} {o : List Int} (h : chkOff x o = 0) : (NextR x o 0 1).2.2.2 = 0 := by
  unfold NextR
  rw [if_neg (by rw [ask01 h]; simp)]
  cases nextL o x.recs 0 1 <;> rfl
theorem next_own {x : InM} {o : List Int} (h : chkOff x o = 0) (key : RecV) : ownK (nextL o x.recs 0 1) key = ((NextR x o 0 1).2.2.1 && sameK (NextR x o 0 1).1 key) := by
  unfold NextR
  rw [if_neg (by rw [ask01 h]; simp)]
  cases nextL o x.recs 0 1 <;> rfl
theorem read_eq {x : InM} {o : List Int} (h : chkOff x o = 0) : ReadR x o 0 1 = (readO o (nextL o x.recs 0 1), 0) := by
  unfold ReadR
  rw [if_neg (by rw [ask01 h]; simp)]
theorem begins_app (a t : List Int) : beginsB (a ++ t) a = true := by
  simp only [beginsB, decide_eq_true_eq, List.length_append]
  refine ⟨by omega, fun i hi => ?_⟩
  simp [List.getD_eq_getElem?_getD, List.getElem?_append_left hi]
structure ValStep (a b : List Int) (own : Bool) : Prop where
  pre : beginsB b a = true
  one : b.length ≤ a.length + 1
  same : own = false → b.length = a.length
theorem vals_step {os : List OpM} {xs : List InM} {ats next : List (List Int)} {r : Option RecV} (h : StepLaw os xs ats next r) (n : Nat) {ks : List RecV} (hks : ∀ k ∈ ks, k.val = 0) (src key : Int) :
    ValStep (valsOf (rowsOf (fun k => (comesV os xs ats k n).1) ks) src key) (valsOf (rowsOf (fun k => (comesV os xs next k n).1) ks) src key) (ownK r ⟨src, key, 0⟩) := by
  rw [valsOf_rows src key ks hks, valsOf_rows src key ks hks]
  split
  · obtain ⟨t, ht, hl⟩ := h.one ⟨src, key, 0⟩ n
    refine ⟨by rw [ht]; exact begins_app _ _, by rw [ht, List.length_append]; omega, fun e => ?_⟩
    rw [h.same _ n e]
  · exact ⟨by simp [beginsB], by simp, fun _ => rfl⟩
theorem cell_step {os : List OpM} {xs : List InM} {ats next : List (List Int)} {r : Option RecV} (h : StepLaw os xs ats next r) (n : Nat) {ks : List RecV} (hks : ∀ k ∈ ks, k.val = 0) (key : RecV) (hv : key.val = 0) (ho : ownK r key = false) :
    getC (tabOf (fun k => (comesV os xs next k n).2.1) ks) key = getC (tabOf (fun k => (comesV os xs ats k n).2.1) ks) key := by
  rw [getC_tab key hv (comesF_cell _ _) ks hks, getC_tab key hv (comesF_cell _ _) ks hks]
  split
  · rw [h.same key n ho]
  · rfl
theorem map_find (src key : Int) : ∀ (L : List KrV), (L.map KrV.core).find? (fun x => x.1 == src && x.2.1 == key) = (L.find? (hitK src key)).map KrV.core
  | [] => rfl
  | x :: L => by
    rw [List.map_cons]
    cases h : hitK src key x with
    | true => rw [List.find?_cons_of_pos (by simpa [KrV.core, hitK] using h), List.find?_cons_of_pos h]; rfl
    | false => rw [List.find?_cons_of_neg (by simpa [KrV.core, hitK] using h), List.find?_cons_of_neg (by simp [h]), map_find src key L]
/-- The values of a key, in memory. -/
theorem valW_at {W : World} {B : Nat} {a : Option Addr} {c : Nat} {L : List KrV} (h : KrsAt W B a c L) (src key : Int) : ∃ va vc, valW L src key = .slice va (valsOf (L.map KrV.core) src key).length vc ∧ IntsIn W va (valsOf (L.map KrV.core) src key) := by
  unfold valW valsOf
  rw [map_find]
  cases hf : L.find? (hitK src key) with
  | none => exact ⟨none, 0, rfl, Row.nil _ _ _⟩
  | some x =>
    have hx := List.mem_of_find?_eq_some hf
    exact ⟨x.va, x.vc, rfl, OwnI.in' (h.each x hx)⟩
theorem keysL_val {xs : List InM} (hin : ∀ x ∈ xs, chkIn x = 0) : ∀ k ∈ keysL xs, k.val = 0 := fun _ hk => (keysL_ok hin hk).2
/-- The lengths that a step's walk meets. -/
theorem vals_len {os : List OpM} {xs : List InM} {ats : List (List Int)} (n : Nat) (hl : ∀ key, (comesV os xs ats key n).1.length ≤ 40) {ks : List RecV} (hks : ∀ k ∈ ks, k.val = 0) (src key : Int) : (valsOf (rowsOf (fun k => (comesV os xs ats k n).1) ks) src key).length ≤ 40 := by
  rw [valsOf_rows src key ks hks]
  split
  · exact hl _
  · simp
theorem ops_pos {os : List OpM} {xs : List InM} (h : chkW os xs = 0) (hx : 0 < xs.length) : 0 < os.length := by
  rcases Nat.eq_zero_or_pos os.length with h0 | h0
  · exfalso
    have e : os = [] := List.eq_nil_of_length_eq_zero h0
    subst e
    unfold chkW at h
    split at h
    · rename_i h1; exact h1 h
    · split at h
      · omega
      · split at h
        · rename_i h2
          have := congrArg List.length h2
          simp [sortI, wantI] at this
          subst this
          simp at hx
        · omega
  · exact h0
end Go.Proofs.YtbonfdkgkcbkmaaGreat
end

