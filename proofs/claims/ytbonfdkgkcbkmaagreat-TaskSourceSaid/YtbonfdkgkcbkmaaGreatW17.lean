/- Walks: may a source's task be (task.Check). -/
import Derived.Test.YtbonfdkgkcbkmaaGreatW15
import Derived.Test.YtbonfdkgkcbkmaaGreatW16
set_option linter.unusedVariables false
set_option linter.unusedSimpArgs false

section
namespace Go.Proofs.YtbonfdkgkcbkmaaGreat
set_option maxRecDepth 100000
open Go.RowKit Go.Shelf

attribute [local go_sem] Oper.semAt_some
/-- May a source's task be? -/
def chkSrc (t : TkV) : Int := if (selfR t).2.2 = false ∨ t.att < 1 ∨ 1048576 < t.att ∨ 4611686018427387904 < t.done then 290
  else if srcB t (selfR t).1 (selfR t).2.1 = false ∨ zeroS t.snk = false ∨ fitsSn t.os (snapOf t (selfR t).1 (selfR t).2.1 none 0) = false then 290 else 0
theorem exec_ldA {P : Program} {ty : TypeId} {op : Oper} {a : Act} {w : World} {x : Operand} {b : Nat} {cs : Array Value} {d : TypeDesc} (ho : op.op = .load ty x) (hx : a.eval x = .pointer (some ⟨b, 0, none⟩)) (hq : w.heap[b]? = some (.cells cs ty (0, 0))) (hu : P.underlying ty = some d) (hd : d.isRow = true) (hi : (P.info? ty).map (·.size) = some cs.size) :
    (execOp a.eval op).run P w = .ok (.value (.agg cs)) w := by
  have hl := run_loadVar_mid (P := P) w b 0 ty cs.toList d (rangeAt_block (by rw [Array.toArray_toList]; exact hq)) hu hd (by rw [hi]; simp)
  rw [Array.toArray_toList] at hl
  unfold execOp
  simp only [ho, hx, Instr.loadAt, Instr.sureAddr, Sem.run_bind, Sem.run_pure, Result.andThen_ok, hl]
theorem wpList_ldA {P : Program} {ops : Array Oper} {rest : List Oper} {op : Oper} {a : Act} {w : World} {Q : Exit → Act → World → Prop} {ty : TypeId} {x : Operand} {b : Nat} {cs : Array Value} {d : TypeDesc} (hgd : op.guard = none) (ho : op.op = .load ty x) (hx : a.eval x = .pointer (some ⟨b, 0, none⟩)) (hq : w.heap[b]? = some (.cells cs ty (0, 0))) (hu : P.underlying ty = some d) (hd : d.isRow = true) (hi : (P.info? ty).map (·.size) = some cs.size)
    (h : wpList P ops Q rest (a.put op.dst (.agg cs)) w) : wpList P ops Q (op :: rest) a w := by
  refine wpList_load_mid hgd ty x ho b 0 hx cs.toList d (rangeAt_block (by rw [Array.toArray_toList]; exact hq)) hu hd (by rw [hi]; simp) ?_
  rw [Array.toArray_toList]
  exact h
theorem sizeTk : (Tryz.prog.info? 74).map (·.size) = some 24 := by kernel_rfl
theorem TkV.clen {t : TkV} (h : t.offs.length = 8) : t.cells.length = 24 := by simp [TkV.cells, h]
theorem TkV.csize {t : TkV} (h : t.offs.length = 8) : (Tryz.prog.info? 74).map (·.size) = some t.cells.toArray.size := by rw [sizeTk]; simp [TkV.clen h]
/-- The cells of a task that are asked alone. -/
theorem TkV.at {t : TkV} (h : t.offs.length = 8) {W : World} {b : Nat} (hb : W.heap[b]? = some (.cells t.cells.toArray 74 (0, 0))) :
    W.cell? ⟨b, 0, none⟩ = some (.slice t.oa t.os.length t.oc) ∧ W.cell? ⟨b, 1, none⟩ = some (.int .i64 t.sub) ∧ W.cell? ⟨b, 2, none⟩ = some (.int .i64 t.att) ∧ W.cell? ⟨b, 17, none⟩ = some (.int .i64 t.snk.sub) ∧ W.cell? ⟨b, 18, none⟩ = some (.int .i64 t.snk.att) ∧ W.cell? ⟨b, 19, none⟩ = some (.int .i64 t.snk.ser) ∧ W.cell? ⟨b, 20, none⟩ = some (.bool t.snk.opn) ∧ W.cell? ⟨b, 21, none⟩ = some (.slice t.snk.na t.snk.names.length t.snk.nc) ∧ W.cell? ⟨b, 22, none⟩ = some (.int .u64 t.done) ∧ W.cell? ⟨b, 23, none⟩ = some (.bool t.fin) := by
  obtain ⟨o0, o1, o2, o3, o4, o5, o6, o7, hmap⟩ := eight h
  rw [TkV.lit hmap] at hb
  obtain ⟨x0, x1, x2, _, _, _, _, _, _, _, _, _, _, _, _, _, _, x17, x18, x19, x20, x21, x22, x23⟩ := cells24_of hb
  exact ⟨x0, x1, x2, x17, x18, x19, x20, x21, x22, x23⟩
set_option maxHeartbeats 32000000 in
theorem checksrc_any (t : TkV) (w : World) (h : TkIn w t) (ht1 : (selfR t).2.2 = true → (selfR t).1.tag = 1) : Calls Tryz.prog 87 #[.agg t.cells.toArray] w fun e w' => e = .returned (.int .i64 (chkSrc t)) ∧ Upd0 w w' := by
  have HSELF := Lib.hid (fun (W : World) (hW : Upd0 w W) => self_any t W (h.kept hW))
  have HSRC := Lib.hid (fun (W : World) (hW : Upd0 w W) (o : OpM) (s : Int × Int) => source_any t o s W (h.kept hW))
  have HSNP := Lib.hid (fun (W : World) (hW : Upd0 w W) (o : OpM) (s : Int × Int) => snapshot_any t o s W (h.kept hW))
  have HFIT := Lib.hid (fun (W : World) (hW : Upd0 w W) (o : OpM) (s : Int × Int) (na : Option Addr) (nc : Nat) (hn : NmsIn W na t.snk.names) => show Calls Tryz.prog 84 #[.agg #[.slice t.oa t.os.length t.oc], .agg (snapOf t o s na nc).cells.toArray] W fun e w' => e = .returned (.bool (fitsSn t.os (snapOf t o s none 0))) ∧ Upd0 W w' from
    sfits_any (oc := t.oc) (snapOf t o s na nc) W (h.ops.kept hW) h.ol h.oc1 h.oc2 ⟨h.rows.kept hW, by have := h.tl; show t.rows.length ≤ _; omega, hn, by have := h.nl; show t.snk.names.length ≤ _; omega, h.o8⟩)
  have hcl := fun (W : World) (b : Nat) => TkV.at (W := W) (b := b) h.o8
  have hsz := TkV.csize h.o8
  obtain ⟨cs, hcs⟩ : ∃ cs, cs = t.cells.toArray := ⟨_, rfl⟩
  rw [← hcs] at HSELF HSRC HSNP hcl hsz ⊢
  have HCL := Lib.hid hcl; have HSZ := Lib.hid hsz
  obtain ⟨b, hb⟩ : ∃ b, b = w.heap.size := ⟨_, rfl⟩
  obtain ⟨w1, hw1⟩ : ∃ w1, w1 = w.alloc (.cells cs 74) := ⟨_, rfl⟩
  have hu1 : Upd0 w w1 := by rw [hw1]; exact (Upd.refl _ w).alloc _
  have HT := Lib.hid (show w1.heap[b]? = some (.cells cs 74 (0, 0)) by rw [hw1]; exact alloc_at hb)
  have HU := Lib.hid hu1
  have HR := Lib.hid (chkSrc.eq_1 t)
  obtain ⟨cr, hcr⟩ : ∃ cr, cr = chkSrc t := ⟨_, rfl⟩
  rw [← hcr] at HR ⊢
  obtain ⟨sr, hsr⟩ : ∃ sr, sr = selfR t := ⟨_, rfl⟩
  rw [← hsr] at HR HSELF ht1
  obtain ⟨o, ⟨s1, s2⟩, th⟩ := sr
  simp only at HR HSELF ht1
  have HT1 := Lib.hid ht1
  have HSE := Lib.hid (HSELF.out w1 hu1)
  obtain ⟨sb, hsb⟩ : ∃ sb, sb = srcB t o (s1, s2) := ⟨_, rfl⟩
  have HSB := Lib.hid (fun (W : World) (hW : Upd0 w W) => HSRC.out W hW o (s1, s2))
  rw [← hsb] at HR HSB
  obtain ⟨zs, hzs⟩ : ∃ zs, zs = zeroS t.snk := ⟨_, rfl⟩
  have HZS := Lib.hid (fun (W : World) => zerosink_any t.snk W)
  rw [← hzs] at HR HZS
  obtain ⟨fs, hfs⟩ : ∃ fs, fs = fitsSn t.os (snapOf t o (s1, s2) none 0) := ⟨_, rfl⟩
  have HFS := Lib.hid (fun (W : World) (hW : Upd0 w W) => HFIT.out W hW o (s1, s2))
  have HSP := Lib.hid (fun (W : World) (hW : Upd0 w W) => HSNP.out W hW o (s1, s2))
  rw [← hfs] at HR HFS
  clear h hcs hcl hsz hu1 hcr hsr ht1 HSELF HSRC HSNP HFIT hsb hzs hfs
  go_enter Tryz.func87, Tryz.ntmps87
  go_upto_region 1 with fail
  rw [← hw1, ← hb]
  clear hw1 hb
  iterate 1 go_step
  refine wpList_ldA rfl rfl rfl HT.out Tryz.underlying74 rfl HSZ.out ?_
  go_wp2_with (go_at_call 83; fail)
  (with_reducible refine HSE.out.mono ?_)
  rintro _ w2 ⟨rfl, hu2⟩
  obtain ⟨w3, hw3⟩ : ∃ w3, w3 = (w2.alloc (.cells #[.int .i64 o.tag, .int .i64 o.width, .slice o.ia o.ins.length o.ic, .int .i64 o.a, .int .i64 o.b] 89)).alloc (.cells #[.int .i64 s1, .int .i64 s2] 124) := ⟨_, rfl⟩
  obtain ⟨ob, hob⟩ : ∃ ob, ob = w2.heap.size := ⟨_, rfl⟩
  have hu3 : Upd0 w1 w3 := by rw [hw3]; exact (hu2.alloc _).alloc _
  have HU3 := Lib.hid (HU.out.trans hu3)
  have HT3 := Lib.hid ((hu3.block _ (lt_of_heap HT.out) (fun e => e)).trans HT.out)
  have HP3 := Lib.hid (show w3.heap[ob]? = some (.cells #[.int .i64 o.tag, .int .i64 o.width, .slice o.ia o.ins.length o.ic, .int .i64 o.a, .int .i64 o.b] 89 (0, 0)) by rw [hw3, hob]; exact (alloc_lt (by simp)).trans (alloc_at rfl))
  have HS3 := Lib.hid (show w3.heap[ob + 1]? = some (.cells #[.int .i64 s1, .int .i64 s2] 124 (0, 0)) by rw [hw3, hob]; exact alloc_at (by simp))
  clear hu2 hu3 HSE HT HU
  obtain ⟨x0, x1, x2, x17, x18, x19, x20, x21, x22, x23⟩ := HCL.out _ _ HT3.out
  obtain ⟨p0, p1, p2, p3, p4⟩ := cells5_of HP3.out
  obtain ⟨s0, s1'⟩ := cells2_of HS3.out
  simp only []
  go_upto_region 2 with fail
  rw [← hw3, ← hob]
  clear hw3 hob
  cases th
  · rw [if_pos (.inl rfl)] at HR
    go_wp2
    go_ret
    exact ⟨ret_int HR.out.symm, HU3.out⟩
  · by_cases ha1 : t.att < 1
    · rw [if_pos (.inr (.inl ha1))] at HR
      go_wp2
      go_ret
      exact ⟨ret_int HR.out.symm, HU3.out⟩
    · by_cases ha2 : 1048576 < t.att
      · rw [if_pos (.inr (.inr (.inl ha2)))] at HR
        go_wp2
        go_ret
        exact ⟨ret_int HR.out.symm, HU3.out⟩
      · by_cases hd : 4611686018427387904 < t.done
        · rw [if_pos (.inr (.inr (.inr hd)))] at HR
          have hdI : (4611686018427387904 : Int) < t.done := by omega
          go_wp2
          go_ret
          exact ⟨ret_int HR.out.symm, HU3.out⟩
        · rw [if_neg (by simp; omega)] at HR
          have hdI : ¬ (4611686018427387904 : Int) < t.done := by omega
          have htag := HT1.out rfl
          have ht1 : (o.tag == 1) = true := by simp [htag]
          have ht7 : (o.tag == 7) = false := by simp [htag]
          clear htag HT1
          go_upto_region 6 with fail
          iterate 1 go_step
          refine wpList_ldA rfl rfl rfl HT3.out Tryz.underlying74 rfl HSZ.out ?_
          go_wp2_with (go_at_call 163; fail)
          (with_reducible refine (HSB.out w3 HU3.out).mono ?_)
          rintro _ w4 ⟨rfl, hu4⟩
          have HU4 := Lib.hid (HU3.out.trans hu4)
          have HT4 := Lib.hid ((hu4.block _ (lt_of_heap HT3.out) (fun e => e)).trans HT3.out)
          have HP4 := Lib.hid ((hu4.block _ (lt_of_heap HP3.out) (fun e => e)).trans HP3.out)
          have HS4 := Lib.hid ((hu4.block _ (lt_of_heap HS3.out) (fun e => e)).trans HS3.out)
          clear hu4 HSB x0 x1 x2 x17 x18 x19 x20 x21 x22 x23 p0 p1 p2 p3 p4 s0 s1' HT3 HP3 HS3 ha1 ha2 hd hdI HU3
          obtain ⟨x0, x1, x2, x17, x18, x19, x20, x21, x22, x23⟩ := HCL.out _ _ HT4.out
          obtain ⟨p0, p1, p2, p3, p4⟩ := cells5_of HP4.out
          simp only []
          cases sb
          · rw [if_pos (.inl rfl)] at HR
            go_upto_region 11 with fail
            have hA : Upd0 w4 w4.drew := (Upd.refl _ _).drew
            refine wp_region_G 11 (fun W => Upd0 w4 W) [false, false, false, false, false, false, false, false, false, false, false, false] rfl (by kernel_rfl) ?_
            generalize w4.drew = we at hA ⊢
            refine wpG_takeT (i := 0) (v := .bool false) rfl (fun L hc h => (hc.waits (n := 11) (i := 2) (by kernel_rfl) (hc.waits (n := 2) (i := 1) (by kernel_rfl) (hc.waits (n := 1) (i := 0) (by kernel_rfl) h)))) (by kernel_rfl) (fun _ _ _ h => h) hA (.inl ⟨rfl, fun w5 q1 => ?_⟩) ?_
            · go_simp
            simp only [Act.put, List.setIfInBounds_toArray, List.set]
            refine wpG_takeT (i := 1) (v := .bool true) rfl (fun L hc h => (hc.waits (n := 11) (i := 2) (by kernel_rfl) (hc.waits (n := 2) (i := 1) (by kernel_rfl) h))) (by kernel_rfl) (fun _ _ _ h => h) hA (.inl ⟨rfl, fun w5 q1 => ?_⟩) ?_
            · go_simp
            simp only [Act.put, List.setIfInBounds_toArray, List.set]
            refine wpG_takeT (i := 2) (v := .bool true) rfl (fun L hc h => (hc.waits (n := 11) (i := 2) (by kernel_rfl) h)) (by kernel_rfl) (fun _ _ _ h => h) hA (.inl ⟨rfl, fun w5 q1 => ?_⟩) ?_
            · go_simp
            simp only [Act.put, List.setIfInBounds_toArray, List.set]
            refine wpG_takeT (i := 3) (v := undef) rfl (fun L hc h => (hc.waits (n := 11) (i := 10) (by kernel_rfl) (hc.waits (n := 10) (i := 9) (by kernel_rfl) (hc.waits (n := 9) (i := 4) (by kernel_rfl) (hc.waits (n := 4) (i := 3) (by kernel_rfl) h))))) (by kernel_rfl) (fun _ _ _ h => h) hA (.inr ⟨rfl, rfl⟩) ?_
            simp only [Act.put, List.setIfInBounds_toArray, List.set]
            refine wpG_takeT (i := 4) (v := undef) rfl (fun L hc h => (hc.waits (n := 11) (i := 10) (by kernel_rfl) (hc.waits (n := 10) (i := 9) (by kernel_rfl) (hc.waits (n := 9) (i := 4) (by kernel_rfl) h)))) (by kernel_rfl) (fun _ _ _ h => h) hA (.inr ⟨rfl, rfl⟩) ?_
            simp only [Act.put, List.setIfInBounds_toArray, List.set]
            refine wpG_takeT (i := 5) (v := undef) rfl (fun L hc h => (hc.waits (n := 11) (i := 10) (by kernel_rfl) (hc.waits (n := 10) (i := 9) (by kernel_rfl) (hc.waits (n := 9) (i := 8) (by kernel_rfl) (hc.waits (n := 8) (i := 5) (by kernel_rfl) h))))) (by kernel_rfl) (fun _ _ _ h => h) hA (.inr ⟨rfl, rfl⟩) ?_
            simp only [Act.put, List.setIfInBounds_toArray, List.set]
            refine wpG_takeT (i := 6) (v := undef) rfl (fun L hc h => (hc.waits (n := 11) (i := 10) (by kernel_rfl) (hc.waits (n := 10) (i := 9) (by kernel_rfl) (hc.waits (n := 9) (i := 8) (by kernel_rfl) (hc.waits (n := 8) (i := 6) (by kernel_rfl) h))))) (by kernel_rfl) (fun _ _ _ h => h) hA (.inr ⟨rfl, rfl⟩) ?_
            simp only [Act.put, List.setIfInBounds_toArray, List.set]
            refine wpG_takeT (i := 7) (v := undef) rfl (fun L hc h => (hc.waits (n := 11) (i := 10) (by kernel_rfl) (hc.waits (n := 10) (i := 9) (by kernel_rfl) (hc.waits (n := 9) (i := 8) (by kernel_rfl) (hc.waits (n := 8) (i := 7) (by kernel_rfl) h))))) (by kernel_rfl) (fun _ _ _ h => h) hA (.inr ⟨rfl, rfl⟩) ?_
            simp only [Act.put, List.setIfInBounds_toArray, List.set]
            refine wpG_takeT (i := 8) (v := undef) rfl (fun L hc h => (hc.waits (n := 11) (i := 10) (by kernel_rfl) (hc.waits (n := 10) (i := 9) (by kernel_rfl) (hc.waits (n := 9) (i := 8) (by kernel_rfl) h)))) (by kernel_rfl) (fun _ _ _ h => h) hA (.inr ⟨rfl, rfl⟩) ?_
            simp only [Act.put, List.setIfInBounds_toArray, List.set]
            refine wpG_takeT (i := 9) (v := undef) rfl (fun L hc h => (hc.waits (n := 11) (i := 10) (by kernel_rfl) (hc.waits (n := 10) (i := 9) (by kernel_rfl) h))) (by kernel_rfl) (fun _ _ _ h => h) hA (.inr ⟨rfl, rfl⟩) ?_
            simp only [Act.put, List.setIfInBounds_toArray, List.set]
            refine wpG_takeT (i := 10) (v := undef) rfl (fun L hc h => (hc.waits (n := 11) (i := 10) (by kernel_rfl) h)) (by kernel_rfl) (fun _ _ _ h => h) hA (.inr ⟨rfl, rfl⟩) ?_
            simp only [Act.put, List.setIfInBounds_toArray, List.set]
            refine wpG_tail_lit (k := 11) rfl rfl (by kernel_rfl) ?_
            simp only [List.drop]
            go_wp2
            go_ret
            exact ⟨ret_int HR.out.symm, HU4.out.trans hA⟩
          · go_wp2_with (go_at_call 165; fail)
            (with_reducible refine (HZS.out w4).mono ?_)
            rintro _ w5 ⟨rfl, hu5⟩
            have HU5 := Lib.hid (HU4.out.trans hu5)
            have HT5 := Lib.hid ((hu5.block _ (lt_of_heap HT4.out) (fun e => e)).trans HT4.out)
            have HP5 := Lib.hid ((hu5.block _ (lt_of_heap HP4.out) (fun e => e)).trans HP4.out)
            have HS5 := Lib.hid ((hu5.block _ (lt_of_heap HS4.out) (fun e => e)).trans HS4.out)
            clear hu5 HZS x0 x1 x2 x17 x18 x19 x20 x21 x22 x23 p0 p1 p2 p3 p4 HT4 HP4 HS4 HU4
            simp only []
            go_upto_region 11 with fail
            cases zs
            · rw [if_pos (.inr (.inl rfl))] at HR
              have hA : Upd0 w5 w5.drew := (Upd.refl _ _).drew
              refine wp_region_G 11 (fun W => Upd0 w5 W) [false, false, false, false, false, false, false, false, false, false, false, false] rfl (by kernel_rfl) ?_
              generalize w5.drew = we at hA ⊢
              refine wpG_takeT (i := 0) (v := .bool false) rfl (fun L hc h => (hc.waits (n := 11) (i := 2) (by kernel_rfl) (hc.waits (n := 2) (i := 1) (by kernel_rfl) (hc.waits (n := 1) (i := 0) (by kernel_rfl) h)))) (by kernel_rfl) (fun _ _ _ h => h) hA (.inl ⟨rfl, fun w5 q1 => ?_⟩) ?_
              · go_simp
              simp only [Act.put, List.setIfInBounds_toArray, List.set]
              refine wpG_takeT (i := 1) (v := .bool true) rfl (fun L hc h => (hc.waits (n := 11) (i := 2) (by kernel_rfl) (hc.waits (n := 2) (i := 1) (by kernel_rfl) h))) (by kernel_rfl) (fun _ _ _ h => h) hA (.inl ⟨rfl, fun w5 q1 => ?_⟩) ?_
              · go_simp
              simp only [Act.put, List.setIfInBounds_toArray, List.set]
              refine wpG_takeT (i := 2) (v := .bool true) rfl (fun L hc h => (hc.waits (n := 11) (i := 2) (by kernel_rfl) h)) (by kernel_rfl) (fun _ _ _ h => h) hA (.inl ⟨rfl, fun w5 q1 => ?_⟩) ?_
              · go_simp
              simp only [Act.put, List.setIfInBounds_toArray, List.set]
              refine wpG_takeT (i := 3) (v := undef) rfl (fun L hc h => (hc.waits (n := 11) (i := 10) (by kernel_rfl) (hc.waits (n := 10) (i := 9) (by kernel_rfl) (hc.waits (n := 9) (i := 4) (by kernel_rfl) (hc.waits (n := 4) (i := 3) (by kernel_rfl) h))))) (by kernel_rfl) (fun _ _ _ h => h) hA (.inr ⟨rfl, rfl⟩) ?_
              simp only [Act.put, List.setIfInBounds_toArray, List.set]
              refine wpG_takeT (i := 4) (v := undef) rfl (fun L hc h => (hc.waits (n := 11) (i := 10) (by kernel_rfl) (hc.waits (n := 10) (i := 9) (by kernel_rfl) (hc.waits (n := 9) (i := 4) (by kernel_rfl) h)))) (by kernel_rfl) (fun _ _ _ h => h) hA (.inr ⟨rfl, rfl⟩) ?_
              simp only [Act.put, List.setIfInBounds_toArray, List.set]
              refine wpG_takeT (i := 5) (v := undef) rfl (fun L hc h => (hc.waits (n := 11) (i := 10) (by kernel_rfl) (hc.waits (n := 10) (i := 9) (by kernel_rfl) (hc.waits (n := 9) (i := 8) (by kernel_rfl) (hc.waits (n := 8) (i := 5) (by kernel_rfl) h))))) (by kernel_rfl) (fun _ _ _ h => h) hA (.inr ⟨rfl, rfl⟩) ?_
              simp only [Act.put, List.setIfInBounds_toArray, List.set]
              refine wpG_takeT (i := 6) (v := undef) rfl (fun L hc h => (hc.waits (n := 11) (i := 10) (by kernel_rfl) (hc.waits (n := 10) (i := 9) (by kernel_rfl) (hc.waits (n := 9) (i := 8) (by kernel_rfl) (hc.waits (n := 8) (i := 6) (by kernel_rfl) h))))) (by kernel_rfl) (fun _ _ _ h => h) hA (.inr ⟨rfl, rfl⟩) ?_
              simp only [Act.put, List.setIfInBounds_toArray, List.set]
              refine wpG_takeT (i := 7) (v := undef) rfl (fun L hc h => (hc.waits (n := 11) (i := 10) (by kernel_rfl) (hc.waits (n := 10) (i := 9) (by kernel_rfl) (hc.waits (n := 9) (i := 8) (by kernel_rfl) (hc.waits (n := 8) (i := 7) (by kernel_rfl) h))))) (by kernel_rfl) (fun _ _ _ h => h) hA (.inr ⟨rfl, rfl⟩) ?_
              simp only [Act.put, List.setIfInBounds_toArray, List.set]
              refine wpG_takeT (i := 8) (v := undef) rfl (fun L hc h => (hc.waits (n := 11) (i := 10) (by kernel_rfl) (hc.waits (n := 10) (i := 9) (by kernel_rfl) (hc.waits (n := 9) (i := 8) (by kernel_rfl) h)))) (by kernel_rfl) (fun _ _ _ h => h) hA (.inr ⟨rfl, rfl⟩) ?_
              simp only [Act.put, List.setIfInBounds_toArray, List.set]
              refine wpG_takeT (i := 9) (v := undef) rfl (fun L hc h => (hc.waits (n := 11) (i := 10) (by kernel_rfl) (hc.waits (n := 10) (i := 9) (by kernel_rfl) h))) (by kernel_rfl) (fun _ _ _ h => h) hA (.inr ⟨rfl, rfl⟩) ?_
              simp only [Act.put, List.setIfInBounds_toArray, List.set]
              refine wpG_takeT (i := 10) (v := undef) rfl (fun L hc h => (hc.waits (n := 11) (i := 10) (by kernel_rfl) h)) (by kernel_rfl) (fun _ _ _ h => h) hA (.inr ⟨rfl, rfl⟩) ?_
              simp only [Act.put, List.setIfInBounds_toArray, List.set]
              refine wpG_tail_lit (k := 11) rfl rfl (by kernel_rfl) ?_
              simp only [List.drop]
              go_wp2
              go_ret
              exact ⟨ret_int HR.out.symm, HU5.out.trans hA⟩
            · have hA : Upd0 w5 w5.drew := (Upd.refl _ _).drew
              refine wp_region_G 9 (fun W => Upd0 w5 W) [false, false, false, false, false, false, false, false, false, false, false, false] rfl (by kernel_rfl) ?_
              generalize w5.drew = we at hA ⊢
              refine wpG_takeT (i := 0) (v := .bool true) rfl (fun L hc h => (hc.waits (n := 9) (i := 2) (by kernel_rfl) (hc.waits (n := 2) (i := 1) (by kernel_rfl) (hc.waits (n := 1) (i := 0) (by kernel_rfl) h)))) (by kernel_rfl) (fun _ _ _ h => h) hA (.inl ⟨rfl, fun w5 q1 => ?_⟩) ?_
              · go_simp
              simp only [Act.put, List.setIfInBounds_toArray, List.set]
              refine wpG_takeT (i := 1) (v := .bool false) rfl (fun L hc h => (hc.waits (n := 9) (i := 2) (by kernel_rfl) (hc.waits (n := 2) (i := 1) (by kernel_rfl) h))) (by kernel_rfl) (fun _ _ _ h => h) hA (.inl ⟨rfl, fun w5 q1 => ?_⟩) ?_
              · go_simp
              simp only [Act.put, List.setIfInBounds_toArray, List.set]
              refine wpG_takeT (i := 2) (v := .bool false) rfl (fun L hc h => (hc.waits (n := 9) (i := 2) (by kernel_rfl) h)) (by kernel_rfl) (fun _ _ _ h => h) hA (.inl ⟨rfl, fun w5 q1 => ?_⟩) ?_
              · go_simp
              simp only [Act.put, List.setIfInBounds_toArray, List.set]
              refine wpG_takeT (i := 3) (v := .pointer (some ⟨b, 0, none⟩)) rfl (fun L hc h => (hc.waits (n := 9) (i := 4) (by kernel_rfl) (hc.waits (n := 4) (i := 3) (by kernel_rfl) h))) (by kernel_rfl) (fun _ _ _ h => h) hA (.inl ⟨rfl, fun w5 q1 => ?_⟩) ?_
              · go_simp
              simp only [Act.put, List.setIfInBounds_toArray, List.set]
              refine wpG_takeT (i := 4) (v := .agg #[.slice t.oa t.os.length t.oc]) rfl (fun L hc h => (hc.waits (n := 9) (i := 4) (by kernel_rfl) h)) (by kernel_rfl) (fun _ _ _ h => h) hA (.inl ⟨rfl, fun w5 q1 => ?_⟩) ?_
              · obtain ⟨x0, -⟩ := HCL.out _ _ ((q1.block _ (lt_of_heap HT5.out) (fun e => e)).trans HT5.out)
                go_simp
              simp only [Act.put, List.setIfInBounds_toArray, List.set]
              refine wpG_takeT (i := 5) (v := .agg cs) rfl (fun L hc h => (hc.waits (n := 9) (i := 8) (by kernel_rfl) (hc.waits (n := 8) (i := 5) (by kernel_rfl) h))) (by kernel_rfl) (fun _ _ _ h => h) hA (.inl ⟨rfl, fun w5 q1 => ?_⟩) ?_
              · exact exec_ldA rfl rfl ((q1.block _ (lt_of_heap HT5.out) (fun e => e)).trans HT5.out) Tryz.underlying74 rfl HSZ.out
              simp only [Act.put, List.setIfInBounds_toArray, List.set]
              refine wpG_takeT (i := 6) (v := .agg #[.int .i64 o.tag, .int .i64 o.width, .slice o.ia o.ins.length o.ic, .int .i64 o.a, .int .i64 o.b]) rfl (fun L hc h => (hc.waits (n := 9) (i := 8) (by kernel_rfl) (hc.waits (n := 8) (i := 6) (by kernel_rfl) h))) (by kernel_rfl) (fun _ _ _ h => h) hA (.inl ⟨rfl, fun w5 q1 => ?_⟩) ?_
              · obtain ⟨c0, c1, c2, c3, c4⟩ := cells5_of ((q1.block _ (lt_of_heap HP5.out) (fun e => e)).trans HP5.out)
                go_simp
              simp only [Act.put, List.setIfInBounds_toArray, List.set]
              refine wpG_takeT (i := 7) (v := .agg #[.int .i64 s1, .int .i64 s2]) rfl (fun L hc h => (hc.waits (n := 9) (i := 8) (by kernel_rfl) (hc.waits (n := 8) (i := 7) (by kernel_rfl) h))) (by kernel_rfl) (fun _ _ _ h => h) hA (.inl ⟨rfl, fun w5 q1 => ?_⟩) ?_
              · obtain ⟨c0, c1⟩ := cells2_of ((q1.block _ (lt_of_heap HS5.out) (fun e => e)).trans HS5.out)
                go_simp
              simp only [Act.put, List.setIfInBounds_toArray, List.set]
              refine wpG_doIf (i := 8) rfl (by kernel_rfl) rfl (fun K hK => ?_)
              have HKK := Lib.hid hK
              clear hK
              go_step
              refine (HSP.out _ (HU5.out.trans hA)).mono ?_
              rintro _ w7 ⟨a8, c8, rfl, ho7, hu7⟩
              have hA2 := hA.trans hu7
              clear hu7
              simp only []
              refine HKK.out _ _ hA2 ?_
              clear HKK
              simp only [Act.put, List.setIfInBounds_toArray, List.set]
              refine wpG_tail_lit (k := 9) rfl rfl (by kernel_rfl) ?_
              simp only [List.drop]
              have HF := Lib.hid (HFS.out w7 (HU5.out.trans hA2) a8 c8 (OwnNm.in' ho7))
              have HA2 := Lib.hid (HU5.out.trans hA2)
              clear ho7 hA hA2 HFS HSP
              go_wp2_with (go_at_call 84; fail)
              (with_reducible refine HF.out.mono ?_)
              rintro _ w8 ⟨rfl, hu8⟩
              have HU8 := Lib.hid (HA2.out.trans hu8)
              clear hu8 HF
              simp only []
              cases fs
              · rw [if_pos (.inr (.inr rfl))] at HR
                go_wp2
                go_ret
                exact ⟨ret_int HR.out.symm, HU8.out⟩
              · rw [if_neg (by simp)] at HR
                go_wp2
                go_ret
                exact ⟨ret_int HR.out.symm, HU8.out⟩
end Go.Proofs.YtbonfdkgkcbkmaaGreat
end

section
namespace Go.Proofs.YtbonfdkgkcbkmaaGreat
set_option maxRecDepth 100000
open Go.RowKit Go.Shelf

attribute [local go_sem] Oper.semAt_some
/-- An element that goes on. -/
structure EmV where
  ch : Int
  el : ElV
def EmV.cells (x : EmV) : List Value := .int .i64 x.ch :: x.el.cells
/-- A task that does something. -/
structure TnV where
  t : TkV
  o : OpM
  s : Int × Int
  outA : Option Addr
  outC : Nat
  out : List Int
  rmA : Option Addr
  rmC : Nat
  rooms : List Int
  emA : Option Addr
  emC : Nat
  ems : List EmV
  acA : Option Addr
  acN : Nat
  acC : Nat
  snap : List Value
  num : Nat
  fin : Bool
def TnV.mid (T : TnV) : List Value := [.int .i64 T.o.tag, .int .i64 T.o.width, .slice T.o.ia T.o.ins.length T.o.ic, .int .i64 T.o.a, .int .i64 T.o.b, .int .i64 T.s.1, .int .i64 T.s.2, .slice T.outA T.out.length T.outC, .slice T.rmA T.rooms.length T.rmC, .slice T.emA T.ems.length T.emC, .slice T.acA T.acN T.acC]
def TnV.cells (T : TnV) : List Value := T.t.cells ++ T.mid ++ T.snap ++ [.int .u64 T.num, .bool T.fin]
def zeroSn : List Value := [.int .i64 0, .int .i64 0, .int .i64 0, .bool false, .slice none 0 0, .int .i64 0, .int .i64 0, .int .i64 0, .int .i64 0, .int .i64 0, .int .i64 0, .int .i64 0, .int .i64 0, .slice none 0 0]
/-- A turn at its beginning. -/
def turn0 (t : TkV) (o : OpM) (s : Int × Int) (outA : Option Addr) (outC : Nat) (out : List Int) (rmA : Option Addr) (rmC : Nat) (rooms : List Int) : TnV := ⟨t, o, s, outA, outC, out, rmA, rmC, rooms, none, 0, [], none, 0, 0, zeroSn, 0, false⟩
theorem built_lit (x0 x1 x2 x3 x4 x5 x6 x7 x8 x9 x10 x11 x12 x13 x14 x15 x16 x17 x18 x19 x20 x21 x22 x23 : Value) (o : OpM) (s1 s2 : Int) (outA : Option Addr) (outC n : Nat) (rmA : Option Addr) (rmC m : Nat) :
    Tryz.prog.built 168 [(0, .agg #[x0, x1, x2, x3, x4, x5, x6, x7, x8, x9, x10, x11, x12, x13, x14, x15, x16, x17, x18, x19, x20, x21, x22, x23]), (1, .agg #[.int .i64 o.tag, .int .i64 o.width, .slice o.ia o.ins.length o.ic, .int .i64 o.a, .int .i64 o.b]), (2, .agg #[.int .i64 s1, .int .i64 s2]), (3, .slice outA n outC), (4, .slice rmA m rmC)] = some #[x0, x1, x2, x3, x4, x5, x6, x7, x8, x9, x10, x11, x12, x13, x14, x15, x16, x17, x18, x19, x20, x21, x22, x23, .int .i64 o.tag, .int .i64 o.width, .slice o.ia o.ins.length o.ic, .int .i64 o.a, .int .i64 o.b, .int .i64 s1, .int .i64 s2, .slice outA n outC, .slice rmA m rmC, .slice none 0 0, .slice none 0 0, .int .i64 0, .int .i64 0, .int .i64 0, .bool false, .slice none 0 0, .int .i64 0, .int .i64 0, .int .i64 0, .int .i64 0, .int .i64 0, .int .i64 0, .int .i64 0, .int .i64 0, .slice none 0 0, .int .u64 0, .bool false] := by kernel_rfl
theorem built_turn {t : TkV} (h : t.offs.length = 8) (o : OpM) (s : Int × Int) (outA : Option Addr) (outC : Nat) (out : List Int) (rmA : Option Addr) (rmC : Nat) (rooms : List Int) :
    Tryz.prog.built 168 [(0, .agg t.cells.toArray), (1, .agg #[.int .i64 o.tag, .int .i64 o.width, .slice o.ia o.ins.length o.ic, .int .i64 o.a, .int .i64 o.b]), (2, .agg #[.int .i64 s.1, .int .i64 s.2]), (3, .slice outA out.length outC), (4, .slice rmA rooms.length rmC)] = some (turn0 t o s outA outC out rmA rmC rooms).cells.toArray := by
  obtain ⟨o0, o1, o2, o3, o4, o5, o6, o7, hmap⟩ := eight h
  have hl := TkV.lit hmap
  have hl2 : t.cells = (#[.slice t.oa t.os.length t.oc, .int .i64 t.sub, .int .i64 t.att, .int .i64 t.inp.src, .slice t.inp.ra t.inp.recs.length t.inp.rc, .int .i64 o0, .int .i64 o1, .int .i64 o2, .int .i64 o3, .int .i64 o4, .int .i64 o5, .int .i64 o6, .int .i64 o7, .slice t.qa t.qs.length t.qc, .int .u64 t.num, .int .u64 t.gd, .slice t.ta t.rows.length t.tc, .int .i64 t.snk.sub, .int .i64 t.snk.att, .int .i64 t.snk.ser, .bool t.snk.opn, .slice t.snk.na t.snk.names.length t.snk.nc, .int .u64 t.done, .bool t.fin] : Array Value).toList := by rw [← hl]
  rw [hl, built_lit]
  simp [TnV.cells, turn0, TnV.mid, zeroSn, hl2]
theorem wpList_bd {P : Program} {ops : Array Oper} {rest : List Oper} {op : Oper} {a : Act} {w : World} {Q : Exit → Act → World → Prop} {t : TypeId} {parts : Array (Nat × Operand)} {cells : Array Value} (hgd : op.guard = none) (ho : op.op = .build t parts) (hb : P.built t (parts.map fun (i, x) => (i, a.eval x)).toList = some cells)
    (h : wpList P ops Q rest (a.put op.dst (.agg cells)) w) : wpList P ops Q (op :: rest) a w :=
  wpList_plain hgd fun _ hK => by
    unfold Oper.wp execOp
    simp only [ho, Sem.run_bind, run_build w t _ cells hb, Result.andThen_ok]
    exact hK _ _ h
/-- May a task be given such rooms? -/
def roomsB (t : TkV) (rooms : List Int) : Bool := decide (rooms.length = (OutR t.os t.sub).1.length) && !rooms.any fun n => decide (n < 0)
theorem neg_any (n : Int) (w : World) : Calls Tryz.prog 145 #[.int .i64 n] w fun e w' => e = .returned (.bool (decide (n < 0))) ∧ Upd0 w w' := by
  by_cases h : n < 0
  all_goals
    go_enter Tryz.func145, Tryz.ntmps145
    go_wp2
    go_ret
    exact ⟨ret_bool (by simp [h]), Upd.refl _ _⟩
theorem callNeg : ∀ args w, (callFunc 145 args).run Tryz.prog w = .ok (.enter 145 args) w := enters_of Tryz.func145 (by kernel_rfl) rfl
/-- What begin answers. -/
def BeginA (t : TkV) (rooms : List Int) (w : World) (e : Ending) (w' : World) : Prop :=
  (chkSrc t ≠ 0 → e = .returned (.tuple #[.pointer none, .int .i64 (chkSrc t)])) ∧
  (chkSrc t = 0 → roomsB t rooms = false → e = .returned (.tuple #[.pointer none, .int .i64 2])) ∧
  (chkSrc t = 0 → roomsB t rooms = true → ∃ p oA oC rA rC, e = .returned (.tuple #[.pointer (some ⟨p, 0, none⟩), .int .i64 0]) ∧ w.heap.size ≤ p ∧ w'.heap[p]? = some (.cells (turn0 t (selfR t).1 (selfR t).2.1 oA oC (OutR t.os t.sub).1 rA rC rooms).cells.toArray 168 (0, 0)) ∧
    OwnI w' w.heap.size 3 (.slice oA (OutR t.os t.sub).1.length oC) (OutR t.os t.sub).1 ∧ OwnI w' w.heap.size 3 (.slice rA rooms.length rC) rooms ∧ (∀ q, (Value.slice oA (OutR t.os t.sub).1.length oC).ownBlock = some q → (Value.slice rA rooms.length rC).ownBlock = some q → False))
set_option maxHeartbeats 32000000 in
theorem begin_any {ra : Option Addr} {rooms : List Int} {rc : Nat} (t : TkV) (w : World) (h : TkIn w t) (hr : IntsIn w ra rooms) (hrl : rooms.length ≤ 1000000) (ht1 : (selfR t).2.2 = true → (selfR t).1.tag = 1) :
    Calls Tryz.prog 70 #[.agg t.cells.toArray, .slice ra rooms.length rc] w fun e w' => BeginA t rooms w e w' ∧ Upd0 w w' := by
  have HCHK := Lib.hid (fun (W : World) (hW : Upd0 w W) => checksrc_any t W (h.kept hW) ht1)
  have HSELF := Lib.hid (fun (W : World) (hW : Upd0 w W) => self_any t W (h.kept hW))
  have HOUT := Lib.hid (fun (W : World) (hW : Upd0 w W) => plout_any (oc := t.oc) t.sub W (h.ops.kept hW) h.ol h.oc1 h.oc2)
  have HBT := Lib.hid (fun (o : OpM) (s : Int × Int) (outA : Option Addr) (outC : Nat) (out : List Int) (rmA : Option Addr) (rmC : Nat) => built_turn h.o8 o s outA outC out rmA rmC rooms)
  have hcl := fun (W : World) (b : Nat) => TkV.at (W := W) (b := b) h.o8
  have hsz := TkV.csize h.o8
  have HCF := Lib.hid (fun (W : World) (hW : Upd0 w W) => containsfI_any (g := 145) (lb := #[]) (c := rc) (p := fun n => decide (n < 0)) W (hr.kept hW) (by omega) callNeg (fun z W2 _ _ => neg_any z W2))
  have HCN := Lib.hid (fun (W : World) (hW : Upd0 w W) => cloneI_any (c := rc) W (hr.kept hW) hrl)
  have HBA := Lib.hid (fun (e : Ending) (w' : World) => show BeginA t rooms w e w' = ((chkSrc t ≠ 0 → e = .returned (.tuple #[.pointer none, .int .i64 (chkSrc t)])) ∧ (chkSrc t = 0 → roomsB t rooms = false → e = .returned (.tuple #[.pointer none, .int .i64 2])) ∧
    (chkSrc t = 0 → roomsB t rooms = true → ∃ p oA oC rA rC, e = .returned (.tuple #[.pointer (some ⟨p, 0, none⟩), .int .i64 0]) ∧ w.heap.size ≤ p ∧ w'.heap[p]? = some (.cells (turn0 t (selfR t).1 (selfR t).2.1 oA oC (OutR t.os t.sub).1 rA rC rooms).cells.toArray 168 (0, 0)) ∧
    OwnI w' w.heap.size 3 (.slice oA (OutR t.os t.sub).1.length oC) (OutR t.os t.sub).1 ∧ OwnI w' w.heap.size 3 (.slice rA rooms.length rC) rooms ∧ (∀ q, (Value.slice oA (OutR t.os t.sub).1.length oC).ownBlock = some q → (Value.slice rA rooms.length rC).ownBlock = some q → False))) from rfl)
  have HRB := Lib.hid (show roomsB t rooms = (decide (rooms.length = (OutR t.os t.sub).1.length) && !rooms.any fun n => decide (n < 0)) from rfl)
  obtain ⟨cs, hcs⟩ : ∃ cs, cs = t.cells.toArray := ⟨_, rfl⟩
  rw [← hcs] at HCHK HSELF HBT hcl hsz ⊢
  have HCL := Lib.hid hcl; have HSZ := Lib.hid hsz
  obtain ⟨b, hb⟩ : ∃ b, b = w.heap.size := ⟨_, rfl⟩
  obtain ⟨w1, hw1⟩ : ∃ w1, w1 = w.alloc (.cells cs 74) := ⟨_, rfl⟩
  have hu1 : Upd0 w w1 := by rw [hw1]; exact (Upd.refl _ w).alloc _
  have HT := Lib.hid (show w1.heap[b]? = some (.cells cs 74 (0, 0)) by rw [hw1]; exact alloc_at hb)
  have HU := Lib.hid hu1; have HB := Lib.hid hb
  obtain ⟨ck, hck⟩ : ∃ ck, ck = chkSrc t := ⟨_, rfl⟩
  rw [← hck] at HCHK HBA
  obtain ⟨ol, hol⟩ : ∃ ol, ol = OutR t.os t.sub := ⟨_, rfl⟩
  rw [← hol] at HOUT HBA HRB
  obtain ⟨rb, hrb⟩ : ∃ rb, rb = roomsB t rooms := ⟨_, rfl⟩
  rw [← hrb] at HBA HRB
  obtain ⟨sr, hsr⟩ : ∃ sr, sr = selfR t := ⟨_, rfl⟩
  rw [← hsr] at HSELF HBA
  obtain ⟨o, ⟨s1, s2⟩, th⟩ := sr
  simp only at HSELF HBA
  obtain ⟨an, han⟩ : ∃ an, an = rooms.any fun n => decide (n < 0) := ⟨_, rfl⟩
  rw [← han] at HCF HRB
  have HCK1 := Lib.hid (HCHK.out w1 hu1)
  have hrl9 : rooms.length ≤ 1000000 := hrl
  clear h hr hrl ht1 hcs hcl hsz hu1 hck hol hrb hsr han HCHK
  go_enter Tryz.func70, Tryz.ntmps70
  go_upto_region 1 with fail
  rw [← hw1, ← hb]
  clear hw1 hb
  iterate 1 go_step
  refine wpList_ldA rfl rfl rfl HT.out Tryz.underlying74 rfl HSZ.out ?_
  go_wp2_with (go_at_call 87; fail)
  (with_reducible refine HCK1.out.mono ?_)
  rintro _ w2 ⟨rfl, hu2⟩
  have HU2 := Lib.hid (HU.out.trans hu2)
  have HT2 := Lib.hid ((hu2.block _ (lt_of_heap HT.out) (fun e => e)).trans HT.out)
  clear hu2 HCK1 HT HU
  simp only []
  by_cases hz : ck = 0
  · subst hz
    have HSE := Lib.hid (HSELF.out w2 HU2.out)
    go_upto_region 4 with fail
    iterate 1 go_step
    refine wpList_ldA rfl rfl rfl HT2.out Tryz.underlying74 rfl HSZ.out ?_
    go_wp2_with (go_at_call 83; fail)
    (with_reducible refine HSE.out.mono ?_)
    rintro _ w3 ⟨rfl, hu3⟩
    obtain ⟨w4, hw4⟩ : ∃ w4, w4 = (w3.alloc (.cells #[.int .i64 o.tag, .int .i64 o.width, .slice o.ia o.ins.length o.ic, .int .i64 o.a, .int .i64 o.b] 89)).alloc (.cells #[.int .i64 s1, .int .i64 s2] 124) := ⟨_, rfl⟩
    obtain ⟨ob, hob⟩ : ∃ ob, ob = w3.heap.size := ⟨_, rfl⟩
    have hu4 : Upd0 w2 w4 := by rw [hw4]; exact (hu3.alloc _).alloc _
    have HU4 := Lib.hid (HU2.out.trans hu4)
    have HT4 := Lib.hid ((hu4.block _ (lt_of_heap HT2.out) (fun e => e)).trans HT2.out)
    have HP4 := Lib.hid (show w4.heap[ob]? = some (.cells #[.int .i64 o.tag, .int .i64 o.width, .slice o.ia o.ins.length o.ic, .int .i64 o.a, .int .i64 o.b] 89 (0, 0)) by rw [hw4, hob]; exact (alloc_lt (by simp)).trans (alloc_at rfl))
    have HS4 := Lib.hid (show w4.heap[ob + 1]? = some (.cells #[.int .i64 s1, .int .i64 s2] 124 (0, 0)) by rw [hw4, hob]; exact alloc_at (by simp))
    have HOU := Lib.hid (HOUT.out w4 HU4.out)
    clear hu3 hu4 HSE HT2 HU2 HSELF HOUT
    obtain ⟨x0, x1, -⟩ := HCL.out _ _ HT4.out
    simp only []
    go_upto_region 5 with fail
    rw [← hw4, ← hob]
    clear hw4 hob
    go_wp2_with (go_at_call 33; fail)
    (with_reducible refine HOU.out.mono ?_)
    rintro _ w5 ⟨oA, oC, rfl, ho5, hu5⟩
    have HO5 := Lib.hid (ownsRow_low ho5 HU4.out.size)
    have HU5 := Lib.hid (HU4.out.trans hu5)
    have HT5 := Lib.hid ((hu5.block _ (lt_of_heap HT4.out) (fun e => e)).trans HT4.out)
    have HP5 := Lib.hid ((hu5.block _ (lt_of_heap HP4.out) (fun e => e)).trans HP4.out)
    have HS5 := Lib.hid ((hu5.block _ (lt_of_heap HS4.out) (fun e => e)).trans HS4.out)
    clear ho5 hu5 HOU x0 x1 HT4 HP4 HS4 HU4
    simp only []
    by_cases hln : rooms.length = ol.1.length
    · have hlnI : (rooms.length : Int) = ol.1.length := by omega
      have HLN := Lib.hid hln
      have hne : ((rooms.length : Int) != ol.1.length) = false := by simp [hln]
      clear hln hlnI
      go_wp2_with (go_at_call 144; fail)
      (with_reducible refine (HCF.out w5 HU5.out).mono ?_)
      rintro _ w6 ⟨rfl, hu6⟩
      have HU6 := Lib.hid (HU5.out.trans hu6)
      have HO6 := Lib.hid (ownsRow_any HO5.out hu6 (fun _ _ e => e))
      have HT6 := Lib.hid ((hu6.block _ (lt_of_heap HT5.out) (fun e => e)).trans HT5.out)
      have HP6 := Lib.hid ((hu6.block _ (lt_of_heap HP5.out) (fun e => e)).trans HP5.out)
      have HS6 := Lib.hid ((hu6.block _ (lt_of_heap HS5.out) (fun e => e)).trans HS5.out)
      clear hu6 HCF HT5 HP5 HS5 HU5 HO5 hne
      simp only []
      cases an
      · have hrb : rb = true := by rw [HRB.out]; simp [HLN.out]
        subst hrb
        go_upto_region 8 with fail
        have hA : Upd0 w6 w6.drew := (Upd.refl _ _).drew
        refine wp_region_G 6 (fun W => Upd0 w6 W) [false, false, false, false, false, false, false, false, false, false] rfl (by kernel_rfl) ?_
        generalize w6.drew = we at hA ⊢
        refine wpG_takeT (i := 0) (v := .agg cs) rfl (fun L hc h => (hc.waits (n := 6) (i := 0) (by kernel_rfl) h)) (by kernel_rfl) (fun _ _ _ h => h) hA (.inl ⟨rfl, fun w5 q1 => ?_⟩) ?_
        · exact exec_ldA rfl rfl ((q1.block _ (lt_of_heap HT6.out) (fun e => e)).trans HT6.out) Tryz.underlying74 rfl HSZ.out
        simp only [Act.put, List.setIfInBounds_toArray, List.set]
        refine wpG_takeT (i := 1) (v := .agg #[.int .i64 o.tag, .int .i64 o.width, .slice o.ia o.ins.length o.ic, .int .i64 o.a, .int .i64 o.b]) rfl (fun L hc h => (hc.waits (n := 6) (i := 1) (by kernel_rfl) h)) (by kernel_rfl) (fun _ _ _ h => h) hA (.inl ⟨rfl, fun w5 q1 => ?_⟩) ?_
        · obtain ⟨c0, c1, c2, c3, c4⟩ := cells5_of ((q1.block _ (lt_of_heap HP6.out) (fun e => e)).trans HP6.out)
          go_simp
        simp only [Act.put, List.setIfInBounds_toArray, List.set]
        refine wpG_takeT (i := 2) (v := .agg #[.int .i64 s1, .int .i64 s2]) rfl (fun L hc h => (hc.waits (n := 6) (i := 2) (by kernel_rfl) h)) (by kernel_rfl) (fun _ _ _ h => h) hA (.inl ⟨rfl, fun w5 q1 => ?_⟩) ?_
        · obtain ⟨c0, c1⟩ := cells2_of ((q1.block _ (lt_of_heap HS6.out) (fun e => e)).trans HS6.out)
          go_simp
        simp only [Act.put, List.setIfInBounds_toArray, List.set]
        refine wpG_takeT (i := 3) (v := .slice oA ol.1.length oC) rfl (fun L hc h => (hc.waits (n := 6) (i := 3) (by kernel_rfl) h)) (by kernel_rfl) (fun _ _ _ h => h) hA (.inl ⟨rfl, fun w5 q1 => ?_⟩) ?_
        · go_simp
        simp only [Act.put, List.setIfInBounds_toArray, List.set]
        refine wpG_takeT (i := 4) (v := .slice ra rooms.length rc) rfl (fun L hc h => (hc.waits (n := 6) (i := 5) (by kernel_rfl) (hc.waits (n := 5) (i := 4) (by kernel_rfl) h))) (by kernel_rfl) (fun _ _ _ h => h) hA (.inl ⟨rfl, fun w5 q1 => ?_⟩) ?_
        · go_simp
        simp only [Act.put, List.setIfInBounds_toArray, List.set]
        refine wpG_doIf (i := 5) rfl (by kernel_rfl) rfl (fun K hK => ?_)
        have HKK := Lib.hid hK
        clear hK
        go_step
        refine (HCN.out _ (HU6.out.trans hA)).mono ?_
        rintro _ w7 ⟨a7, c7, rfl, ho7, hu7⟩
        have hA2 := hA.trans hu7
        clear hu7
        simp only []
        refine HKK.out _ _ hA2 ?_
        clear HKK
        simp only [Act.put, List.setIfInBounds_toArray, List.set]
        refine wpG_tail_lit (k := 6) rfl rfl (by kernel_rfl) ?_
        simp only [List.drop]
        have hbt := HBT.out o (s1, s2) oA oC ol.1 a7 c7
        refine wpList_bd (cells := (turn0 t o (s1, s2) oA oC ol.1 a7 c7 rooms).cells.toArray) rfl rfl (by go_simp) ?_
        clear hbt
        obtain ⟨T, hT⟩ : ∃ T, T = turn0 t o (s1, s2) oA oC ol.1 a7 c7 rooms := ⟨_, rfl⟩
        have HTT := Lib.hid hT
        rw [← hT]
        obtain ⟨tc, htc⟩ : ∃ tc, tc = T.cells.toArray := ⟨_, rfl⟩
        have HTC := Lib.hid htc
        rw [← htc]
        have HA2 := Lib.hid (HU6.out.trans hA2)
        have HO7 := Lib.hid (ownsRow_any HO6.out hA2 (fun _ _ e => e))
        have HR7 := Lib.hid (ownsRow_low ho7 (Nat.le_trans HU6.out.size hA.size))
        have HAP := Lib.hid (fun (q : Nat) (e1 : (Value.slice oA ol.1.length oC).ownBlock = some q) (e2 : (Value.slice a7 rooms.length c7).ownBlock = some q) => show False by
          have h1 := (World.ownsRow.lt HO6.out q e1).2
          have h2 := (World.ownsRow.lt ho7 q e2).1
          have h3 := hA.size
          omega)
        clear hT htc hA hA2 ho7 HBT
        go_wp2
        go_ret2
        have hu8 : Upd0 w7 (w7.alloc (.cells tc 168)) := (Upd.refl _ w7).alloc _
        refine ⟨?_, HA2.out.trans hu8⟩
        rw [HBA.out]
        refine ⟨fun e => absurd rfl e, fun _ e => (by cases e), fun _ _ => ⟨w7.heap.size, oA, oC, a7, c7, rfl, HA2.out.size, ?_, ownsRow_any HO7.out hu8 (fun _ _ e => e), ownsRow_any HR7.out hu8 (fun _ _ e => e), HAP.out⟩⟩
        rw [← HTT.out, ← HTC.out]
        exact alloc_at rfl
      · have hrb : rb = false := by rw [HRB.out]; simp
        subst hrb
        go_wp2
        go_ret2
        refine ⟨?_, HU6.out⟩
        rw [HBA.out]
        exact ⟨fun e => absurd rfl e, fun _ _ => rfl, fun _ e => (by cases e)⟩
    · have hrb : rb = false := by rw [HRB.out]; simp [hln]
      subst hrb
      have hlnI : ¬ (rooms.length : Int) = ol.1.length := by omega
      go_wp2
      go_ret2
      refine ⟨?_, HU5.out⟩
      rw [HBA.out]
      exact ⟨fun e => absurd rfl e, fun _ _ => rfl, fun _ e => (by cases e)⟩
  · have hz' : (ck != 0) = true := by simpa using hz
    go_wp2
    go_ret2
    refine ⟨?_, HU2.out⟩
    rw [HBA.out]
    exact ⟨fun _ => rfl, fun e => absurd e hz, fun e => absurd e hz⟩
end Go.Proofs.YtbonfdkgkcbkmaaGreat
end

section
namespace Go.Proofs.YtbonfdkgkcbkmaaGreat
set_option maxRecDepth 100000
open Go.RowKit Go.Shelf

attribute [local go_sem] Oper.semAt_some
/-- A row of cells laid into the middle of a block. -/
theorem setCells_app {w : World} {p : Nat} {t : TypeId} {A B C vs : List Value} {n : Nat} (h : w.heap[p]? = some (.cells (A ++ B ++ C).toArray t (0, 0))) (hv : vs.length = B.length) (hn : n = A.length) : (w.setCells p n vs).heap[p]? = some (.cells (A ++ vs ++ C).toArray t (0, 0)) := by
  subst hn
  obtain ⟨new, n1, n2, n3, n4, n5⟩ := setCells_midd vs A.length w _ h (by simp; omega)
  rw [n1]
  have e : new = (A ++ vs ++ C).toArray := by
    apply Array.ext_getElem?
    intro j
    have hR : (A ++ vs ++ C).toArray[j]? = (A ++ vs ++ C)[j]? := by simp
    have hO : (A ++ B ++ C).toArray[j]? = (A ++ B ++ C)[j]? := by simp
    rw [hR]
    by_cases h1 : j < A.length
    · rw [n3 j h1, hO, List.append_assoc, List.append_assoc, List.getElem?_append_left h1, List.getElem?_append_left h1]
    · by_cases h2 : j < A.length + vs.length
      · have := n4 (j - A.length) (by omega)
        rw [show A.length + (j - A.length) = j by omega] at this
        rw [this, List.append_assoc, List.getElem?_append_right (by omega), List.getElem?_append_left (by omega)]
      · rw [n5 j (by omega), hO, List.getElem?_append_right (by simp; omega), List.getElem?_append_right (by simp; omega)]
        simp only [List.length_append, hv]
  rw [e]
theorem exec_ldR {P : Program} {ty : TypeId} {op : Oper} {a : Act} {w : World} {x : Operand} {b o : Nat} {cs : List Value} {d : TypeDesc} (ho : op.op = .load ty x) (hx : a.eval x = .pointer (some ⟨b, o, none⟩)) (hr : w.rangeAt b o cs) (hu : P.underlying ty = some d) (hd : d.isRow = true) (hi : (P.info? ty).map (·.size) = some cs.length) :
    (execOp a.eval op).run P w = .ok (.value (.agg cs.toArray)) w := by
  unfold execOp
  simp only [ho, hx, Instr.loadAt, Instr.sureAddr, Sem.run_bind, Sem.run_pure, Result.andThen_ok, run_loadVar_mid (P := P) w b o ty cs d hr hu hd hi]
theorem range_app {w : World} {p : Nat} {t : TypeId} {A B C : List Value} {n : Nat} (h : w.heap[p]? = some (.cells (A ++ B ++ C).toArray t (0, 0))) (hn : n = A.length) : w.rangeAt p n B := by
  subst hn
  intro j v hj
  have hl := (List.getElem?_eq_some_iff.1 hj).1
  rw [cell_of_heap h, List.getElem?_toArray, List.append_assoc, List.getElem?_append_right (by omega), Nat.add_sub_cancel_left, List.getElem?_append_left hl]
  exact hj
theorem TnV.lit {T : TnV} {o0 o1 o2 o3 o4 o5 o6 o7 : Int} (h : (T.t.offs.map I).toArray = #[.int .i64 o0, .int .i64 o1, .int .i64 o2, .int .i64 o3, .int .i64 o4, .int .i64 o5, .int .i64 o6, .int .i64 o7]) : T.cells = [.slice T.t.oa T.t.os.length T.t.oc, .int .i64 T.t.sub, .int .i64 T.t.att, .int .i64 T.t.inp.src, .slice T.t.inp.ra T.t.inp.recs.length T.t.inp.rc, .int .i64 o0, .int .i64 o1, .int .i64 o2, .int .i64 o3, .int .i64 o4, .int .i64 o5, .int .i64 o6, .int .i64 o7, .slice T.t.qa T.t.qs.length T.t.qc, .int .u64 T.t.num, .int .u64 T.t.gd, .slice T.t.ta T.t.rows.length T.t.tc, .int .i64 T.t.snk.sub, .int .i64 T.t.snk.att, .int .i64 T.t.snk.ser, .bool T.t.snk.opn, .slice T.t.snk.na T.t.snk.names.length T.t.snk.nc, .int .u64 T.t.done, .bool T.t.fin, .int .i64 T.o.tag, .int .i64 T.o.width, .slice T.o.ia T.o.ins.length T.o.ic, .int .i64 T.o.a, .int .i64 T.o.b, .int .i64 T.s.1, .int .i64 T.s.2, .slice T.outA T.out.length T.outC, .slice T.rmA T.rooms.length T.rmC, .slice T.emA T.ems.length T.emC, .slice T.acA T.acN T.acC] ++ (T.snap ++ [.int .u64 T.num, .bool T.fin]) := by
  have hl := TkV.lit h
  have hl2 : T.t.cells = (#[.slice T.t.oa T.t.os.length T.t.oc, .int .i64 T.t.sub, .int .i64 T.t.att, .int .i64 T.t.inp.src, .slice T.t.inp.ra T.t.inp.recs.length T.t.inp.rc, .int .i64 o0, .int .i64 o1, .int .i64 o2, .int .i64 o3, .int .i64 o4, .int .i64 o5, .int .i64 o6, .int .i64 o7, .slice T.t.qa T.t.qs.length T.t.qc, .int .u64 T.t.num, .int .u64 T.t.gd, .slice T.t.ta T.t.rows.length T.t.tc, .int .i64 T.t.snk.sub, .int .i64 T.t.snk.att, .int .i64 T.t.snk.ser, .bool T.t.snk.opn, .slice T.t.snk.na T.t.snk.names.length T.t.snk.nc, .int .u64 T.t.done, .bool T.t.fin] : Array Value).toList := by rw [← hl]
  simp [TnV.cells, TnV.mid, hl2]
theorem TnV.at {T : TnV} {o0 o1 o2 o3 o4 o5 o6 o7 : Int} (h : (T.t.offs.map I).toArray = #[.int .i64 o0, .int .i64 o1, .int .i64 o2, .int .i64 o3, .int .i64 o4, .int .i64 o5, .int .i64 o6, .int .i64 o7]) {W : World} {p : Nat} (hp : W.heap[p]? = some (.cells T.cells.toArray 168 (0, 0))) :
    W.cell? ⟨p, 0, none⟩ = some (.slice T.t.oa T.t.os.length T.t.oc) ∧ W.cell? ⟨p, 1, none⟩ = some (.int .i64 T.t.sub) ∧ W.cell? ⟨p, 2, none⟩ = some (.int .i64 T.t.att) ∧ W.cell? ⟨p, 3, none⟩ = some (.int .i64 T.t.inp.src) ∧ W.cell? ⟨p, 4, none⟩ = some (.slice T.t.inp.ra T.t.inp.recs.length T.t.inp.rc) ∧ W.cell? ⟨p, 5, none⟩ = some (.int .i64 o0) ∧ W.cell? ⟨p, 6, none⟩ = some (.int .i64 o1) ∧ W.cell? ⟨p, 7, none⟩ = some (.int .i64 o2) ∧ W.cell? ⟨p, 8, none⟩ = some (.int .i64 o3) ∧ W.cell? ⟨p, 9, none⟩ = some (.int .i64 o4) ∧ W.cell? ⟨p, 10, none⟩ = some (.int .i64 o5) ∧ W.cell? ⟨p, 11, none⟩ = some (.int .i64 o6) ∧ W.cell? ⟨p, 12, none⟩ = some (.int .i64 o7) ∧ W.cell? ⟨p, 13, none⟩ = some (.slice T.t.qa T.t.qs.length T.t.qc) ∧ W.cell? ⟨p, 14, none⟩ = some (.int .u64 T.t.num) ∧ W.cell? ⟨p, 15, none⟩ = some (.int .u64 T.t.gd) ∧ W.cell? ⟨p, 16, none⟩ = some (.slice T.t.ta T.t.rows.length T.t.tc) ∧ W.cell? ⟨p, 17, none⟩ = some (.int .i64 T.t.snk.sub) ∧ W.cell? ⟨p, 18, none⟩ = some (.int .i64 T.t.snk.att) ∧ W.cell? ⟨p, 19, none⟩ = some (.int .i64 T.t.snk.ser) ∧ W.cell? ⟨p, 20, none⟩ = some (.bool T.t.snk.opn) ∧ W.cell? ⟨p, 21, none⟩ = some (.slice T.t.snk.na T.t.snk.names.length T.t.snk.nc) ∧ W.cell? ⟨p, 22, none⟩ = some (.int .u64 T.t.done) ∧ W.cell? ⟨p, 23, none⟩ = some (.bool T.t.fin) ∧ W.cell? ⟨p, 24, none⟩ = some (.int .i64 T.o.tag) ∧ W.cell? ⟨p, 25, none⟩ = some (.int .i64 T.o.width) ∧ W.cell? ⟨p, 26, none⟩ = some (.slice T.o.ia T.o.ins.length T.o.ic) ∧ W.cell? ⟨p, 27, none⟩ = some (.int .i64 T.o.a) ∧ W.cell? ⟨p, 28, none⟩ = some (.int .i64 T.o.b) ∧ W.cell? ⟨p, 29, none⟩ = some (.int .i64 T.s.1) ∧ W.cell? ⟨p, 30, none⟩ = some (.int .i64 T.s.2) ∧ W.cell? ⟨p, 31, none⟩ = some (.slice T.outA T.out.length T.outC) ∧ W.cell? ⟨p, 32, none⟩ = some (.slice T.rmA T.rooms.length T.rmC) ∧ W.cell? ⟨p, 33, none⟩ = some (.slice T.emA T.ems.length T.emC) ∧ W.cell? ⟨p, 34, none⟩ = some (.slice T.acA T.acN T.acC) := by
  rw [TnV.lit h] at hp
  have hc : ∀ (k : Nat) (v : Value), ([.slice T.t.oa T.t.os.length T.t.oc, .int .i64 T.t.sub, .int .i64 T.t.att, .int .i64 T.t.inp.src, .slice T.t.inp.ra T.t.inp.recs.length T.t.inp.rc, .int .i64 o0, .int .i64 o1, .int .i64 o2, .int .i64 o3, .int .i64 o4, .int .i64 o5, .int .i64 o6, .int .i64 o7, .slice T.t.qa T.t.qs.length T.t.qc, .int .u64 T.t.num, .int .u64 T.t.gd, .slice T.t.ta T.t.rows.length T.t.tc, .int .i64 T.t.snk.sub, .int .i64 T.t.snk.att, .int .i64 T.t.snk.ser, .bool T.t.snk.opn, .slice T.t.snk.na T.t.snk.names.length T.t.snk.nc, .int .u64 T.t.done, .bool T.t.fin, .int .i64 T.o.tag, .int .i64 T.o.width, .slice T.o.ia T.o.ins.length T.o.ic, .int .i64 T.o.a, .int .i64 T.o.b, .int .i64 T.s.1, .int .i64 T.s.2, .slice T.outA T.out.length T.outC, .slice T.rmA T.rooms.length T.rmC, .slice T.emA T.ems.length T.emC, .slice T.acA T.acN T.acC] : List Value)[k]? = some v → W.cell? ⟨p, k, none⟩ = some v := fun k v hk => by
    have hl := (List.getElem?_eq_some_iff.1 hk).1
    rw [cell_of_heap hp, List.getElem?_toArray, List.getElem?_append_left hl]
    exact hk
  exact ⟨hc 0 _ rfl, hc 1 _ rfl, hc 2 _ rfl, hc 3 _ rfl, hc 4 _ rfl, hc 5 _ rfl, hc 6 _ rfl, hc 7 _ rfl, hc 8 _ rfl, hc 9 _ rfl, hc 10 _ rfl, hc 11 _ rfl, hc 12 _ rfl, hc 13 _ rfl, hc 14 _ rfl, hc 15 _ rfl, hc 16 _ rfl, hc 17 _ rfl, hc 18 _ rfl, hc 19 _ rfl, hc 20 _ rfl, hc 21 _ rfl, hc 22 _ rfl, hc 23 _ rfl, hc 24 _ rfl, hc 25 _ rfl, hc 26 _ rfl, hc 27 _ rfl, hc 28 _ rfl, hc 29 _ rfl, hc 30 _ rfl, hc 31 _ rfl, hc 32 _ rfl, hc 33 _ rfl, hc 34 _ rfl⟩
theorem TnV.task {T : TnV} {W : World} {p : Nat} (hp : W.heap[p]? = some (.cells T.cells.toArray 168 (0, 0))) : W.rangeAt p 0 T.t.cells :=
  range_app (t := 168) (A := []) (B := T.t.cells) (C := T.mid ++ T.snap ++ [.int .u64 T.num, .bool T.fin]) (by rw [hp]; simp [TnV.cells]) rfl
def TnV.deed (T : TnV) : List Value := [.slice T.emA T.ems.length T.emC, .slice T.acA T.acN T.acC] ++ T.snap ++ [.int .u64 T.num, .bool T.fin]
theorem TnV.deedAt {T : TnV} (h8 : T.t.offs.length = 8) {W : World} {p : Nat} (hp : W.heap[p]? = some (.cells T.cells.toArray 168 (0, 0))) : W.rangeAt p 33 T.deed :=
  range_app (t := 168) (A := T.t.cells ++ [.int .i64 T.o.tag, .int .i64 T.o.width, .slice T.o.ia T.o.ins.length T.o.ic, .int .i64 T.o.a, .int .i64 T.o.b, .int .i64 T.s.1, .int .i64 T.s.2, .slice T.outA T.out.length T.outC, .slice T.rmA T.rooms.length T.rmC]) (B := T.deed) (C := []) (by rw [hp]; simp [TnV.cells, TnV.deed, TnV.mid]) (by simp [TkV.clen h8])
/-- The turn's memory: its cells, its own rows. -/
structure TnAt (W : World) (B p : Nat) (T : TnV) : Prop where
  blk : W.heap[p]? = some (.cells T.cells.toArray 168 (0, 0))
  o8 : T.t.offs.length = 8
  snl : T.snap.length = 14 ∧ ∀ v ∈ T.snap, v.oneCell' = true
  out : OwnI W B 3 (.slice T.outA T.out.length T.outC) T.out
  rooms : OwnI W B 3 (.slice T.rmA T.rooms.length T.rmC) T.rooms
  ems : W.ownsRow B 97 6 (.slice T.emA T.ems.length T.emC) T.ems.length (T.ems.map EmV.cells).flatten
  apart : ∀ q, (Value.slice T.outA T.out.length T.outC).ownBlock = some q → (Value.slice T.rmA T.rooms.length T.rmC).ownBlock = some q → False
theorem TnAt.kept {W W' : World} {B p : Nat} {T : TnV} (h : TnAt W B p T) (hu : Upd0 W W') : TnAt W' B p T :=
  ⟨(hu.block _ (lt_of_heap h.blk) (fun e => e)).trans h.blk, h.o8, h.snl, ownsRow_any h.out hu (fun _ _ e => e), ownsRow_any h.rooms hu (fun _ _ e => e), ownsRow_any h.ems hu (fun _ _ e => e), h.apart⟩
theorem own_ne {W : World} {B p s n : Nat} {e : TypeId} {v : Value} {xs cs : List Value} (h : W.ownsRow B e s v n xs) (hp : W.heap[p]? = some (.cells cs.toArray 168 (0, 0))) (he : e ≠ 168) : ∀ q, v.ownBlock = some q → ¬ q = p := by
  intro q hq e2
  obtain ⟨cur, hcur⟩ := ownsRow_at h hq
  rw [e2, hp] at hcur
  injection hcur with hcur
  injection hcur with _ hcur
  exact he hcur.symm
/-- Something is laid into the turn alone. -/
theorem TnAt.lay {W : World} {B p : Nat} {T T' : TnV} (h : TnAt W B p T) {A C X Y : List Value} {n : Nat} (e1 : T.cells = A ++ X ++ C) (e2 : T'.cells = A ++ Y ++ C) (hl : Y.length = X.length) (hn : n = A.length) (h8 : T'.t.offs.length = 8) (hs : T'.snap.length = 14 ∧ ∀ v ∈ T'.snap, v.oneCell' = true)
    (r1 : T'.outA = T.outA ∧ T'.outC = T.outC ∧ T'.out = T.out) (r2 : T'.rmA = T.rmA ∧ T'.rmC = T.rmC ∧ T'.rooms = T.rooms) (r3 : T'.emA = T.emA ∧ T'.emC = T.emC ∧ T'.ems = T.ems) :
    TnAt (W.setCells p n Y) B p T' ∧ Upd (fun q => q = p) W (W.setCells p n Y) := by
  have hu := upd_setCells W p n Y
  have hb := h.blk
  rw [e1] at hb
  have hb2 := setCells_app hb hl hn
  rw [← e2] at hb2
  obtain ⟨a1, a2, a3⟩ := r1
  obtain ⟨b1, b2, b3⟩ := r2
  obtain ⟨c1, c2, c3⟩ := r3
  refine ⟨⟨hb2, h8, hs, ?_, ?_, ?_, ?_⟩, hu⟩
  · rw [a1, a2, a3]; exact ownsRow_any h.out hu (own_ne h.out h.blk (by decide))
  · rw [b1, b2, b3]; exact ownsRow_any h.rooms hu (own_ne h.rooms h.blk (by decide))
  · rw [c1, c2, c3]; exact ownsRow_any h.ems hu (own_ne h.ems h.blk (by decide))
  · rw [a1, a2, a3, b1, b2, b3]; exact h.apart
theorem ready_any {B p : Nat} {T : TnV} (w : World) (h : TnAt w B p T) (ht : T.o.tag ≠ 7) : Calls Tryz.prog 147 #[.pointer (some ⟨p, 0, none⟩)] w fun e w' => e = .returned (.int .i64 0) ∧ Upd0 w w' := by
  obtain ⟨o0, o1, o2, o3, o4, o5, o6, o7, hmap⟩ := eight h.o8
  obtain ⟨-, -, -, -, -, -, -, -, -, -, -, -, -, -, -, -, -, -, -, -, -, -, -, -, x24, -, -, -, -, -, -, -, -, -, -⟩ := TnV.at hmap h.blk
  have ht' : (T.o.tag != 7) = true := by simp [ht]
  clear h hmap ht
  go_enter Tryz.func147, Tryz.ntmps147
  go_wp2
  go_ret
  exact ⟨rfl, Upd.refl _ _⟩
end Go.Proofs.YtbonfdkgkcbkmaaGreat
end

section
namespace Go.Proofs.YtbonfdkgkcbkmaaGreat
set_option maxRecDepth 100000
open Go.RowKit Go.Shelf

attribute [local go_sem] Oper.semAt_some
theorem there_mid {w : World} {p o n : Nat} {cs : Array Value} {t : TypeId} (h : w.heap[p]? = some (.cells cs t (0, 0))) (hn : o + n ≤ cs.size) : w.there p o n := fun j hj =>
  ⟨by rw [cell_of_heap h]; simp; omega, frozen_of_heap h⟩
theorem TnV.len {T : TnV} (h8 : T.t.offs.length = 8) (hs : T.snap.length = 14) : T.cells.length = 51 := by simp [TnV.cells, TkV.clen h8, TnV.mid, hs]
theorem SnV.len {s : SnV} (h : s.offs.length = 8) : s.cells.length = 14 := by simp [SnV.cells, h]
theorem SnV.one (s : SnV) : ∀ v ∈ s.cells, v.oneCell' = true := by
  intro v hv
  simp only [SnV.cells, List.mem_append, List.mem_cons, List.not_mem_nil, or_false, List.mem_map] at hv
  rcases hv with ((rfl | rfl | rfl | rfl | rfl) | ⟨z, _, rfl⟩) | rfl <;> rfl
/-- A turn behind it told a number. -/
def TnV.tell (T : TnV) (n : Nat) (na : Option Addr) (nc : Nat) : TnV := { T with t := { T.t with done := n }, snap := (snapOf T.t T.o T.s na nc).cells, num := n }
set_option maxHeartbeats 32000000 in
theorem tell_any {w0 : World} {p : Nat} {T : TnV} (n : Nat) (w : World) (h : TnAt w w0.heap.size p T) (hp : w0.heap.size ≤ p) (h0 : TkIn w0 T.t) (hu : Upd0 w0 w) :
    Calls Tryz.prog 71 #[.pointer (some ⟨p, 0, none⟩), .int .u64 n] w fun e w' => e = .returned (.tuple #[]) ∧ ∃ na nc, TnAt w' w0.heap.size p (T.tell n na nc) ∧ OwnNm w' w0.heap.size (.slice na T.t.snk.names.length nc) T.t.snk.names ∧ Upd0 w0 w' := by
  obtain ⟨o0, o1, o2, o3, o4, o5, o6, o7, hmap⟩ := eight h.o8
  obtain ⟨T1, hT1⟩ : ∃ T1 : TnV, T1 = { T with t := { T.t with done := n } } := ⟨_, rfl⟩
  have hlay := h.lay (T' := T1) (A := [.slice T.t.oa T.t.os.length T.t.oc, .int .i64 T.t.sub, .int .i64 T.t.att, .int .i64 T.t.inp.src, .slice T.t.inp.ra T.t.inp.recs.length T.t.inp.rc, .int .i64 o0, .int .i64 o1, .int .i64 o2, .int .i64 o3, .int .i64 o4, .int .i64 o5, .int .i64 o6, .int .i64 o7, .slice T.t.qa T.t.qs.length T.t.qc, .int .u64 T.t.num, .int .u64 T.t.gd, .slice T.t.ta T.t.rows.length T.t.tc, .int .i64 T.t.snk.sub, .int .i64 T.t.snk.att, .int .i64 T.t.snk.ser, .bool T.t.snk.opn, .slice T.t.snk.na T.t.snk.names.length T.t.snk.nc]) (X := [.int .u64 T.t.done]) (Y := [.int .u64 n]) (C := [.bool T.t.fin, .int .i64 T.o.tag, .int .i64 T.o.width, .slice T.o.ia T.o.ins.length T.o.ic, .int .i64 T.o.a, .int .i64 T.o.b, .int .i64 T.s.1, .int .i64 T.s.2, .slice T.outA T.out.length T.outC, .slice T.rmA T.rooms.length T.rmC, .slice T.emA T.ems.length T.emC, .slice T.acA T.acN T.acC] ++ (T.snap ++ [.int .u64 T.num, .bool T.fin])) (n := 22) (by rw [TnV.lit hmap]; rfl) (by rw [TnV.lit (T := T1) (by rw [hT1]; exact hmap), hT1]; rfl) rfl rfl (by rw [hT1]; exact h.o8) (by rw [hT1]; exact h.snl) (by rw [hT1]; exact ⟨rfl, rfl, rfl⟩) (by rw [hT1]; exact ⟨rfl, rfl, rfl⟩) (by rw [hT1]; exact ⟨rfl, rfl, rfl⟩)
  obtain ⟨-, -, -, -, -, -, -, -, -, -, -, -, -, -, -, -, -, -, -, -, -, -, x22, -, -, -, -, -, -, -, -, -, -, -, -⟩ := TnV.at hmap h.blk
  have f22 : w.frozen? ⟨p, 22, none⟩ = false := frozen_of_heap h.blk
  have h01 : TkIn w0 T1.t := by rw [hT1]; exact ⟨h0.ops, h0.ol, h0.oc1, h0.oc2, h0.recs, h0.rl, h0.o8, h0.rows, h0.tl, h0.names, h0.nl⟩
  obtain ⟨w2, hw2⟩ : ∃ w2, w2 = w.setCell ⟨p, 22, none⟩ (.int .u64 n) := ⟨_, rfl⟩
  have hs : w.setCells p 22 [.int .u64 n] = w2 := by rw [hw2]; rfl
  rw [hs] at hlay
  have H2 := Lib.hid hlay.1
  have HU2 := Lib.hid (hu.cut hlay.2 (fun q hq => by omega))
  have HP := Lib.hid hp; have HT1 := Lib.hid hT1
  have HSP := Lib.hid (fun (W : World) (hW : Upd0 w0 W) => snapshot_any T1.t T1.o T1.s W (h01.kept hW))
  have HO8 := Lib.hid (show T1.t.offs.length = 8 by rw [hT1]; exact h.o8)
  have hmap1 : (T1.t.offs.map I).toArray = #[.int .i64 o0, .int .i64 o1, .int .i64 o2, .int .i64 o3, .int .i64 o4, .int .i64 o5, .int .i64 o6, .int .i64 o7] := by rw [hT1]; exact hmap
  have HM1 := Lib.hid hmap1
  have HC2 := Lib.hid (TnV.at hmap1 hlay.1.blk)
  obtain ⟨cs, hcs⟩ : ∃ cs, cs = T1.t.cells.toArray := ⟨_, rfl⟩
  have hrg := TnV.task hlay.1.blk
  have HRG := Lib.hid (show ∀ W : World, (∀ k, k < 35 → W.cell? ⟨p, k, none⟩ = w2.cell? ⟨p, k, none⟩) → W.rangeAt p 0 T1.t.cells from fun W hW j v hj => by
    have hl := (List.getElem?_eq_some_iff.1 hj).1
    rw [TkV.clen (by rw [hT1]; exact h.o8)] at hl
    rw [hW (0 + j) (by omega)]
    exact hrg j v hj)
  rw [← hcs] at HSP
  have HCS := Lib.hid hcs
  have HSZ := Lib.hid (show (Tryz.prog.info? 74).map (·.size) = some T1.t.cells.length by rw [sizeTk, TkV.clen (by rw [hT1]; exact h.o8)])
  clear h h0 h01 hu hlay hT1 hs hcs hrg hmap hmap1
  go_enter Tryz.func71, Tryz.ntmps71
  go_upto_region 1 with fail
  rw [← hw2]
  clear hw2 x22 f22 hp
  have hA : Upd (fun q => q = p) w2 w2.drew ∧ ∀ k, k < 35 → w2.drew.cell? ⟨p, k, none⟩ = w2.cell? ⟨p, k, none⟩ := ⟨(Upd.refl _ _).drew, fun _ _ => rfl⟩
  have HA0 := Lib.hid (show Upd0 w2 w2.drew from (Upd.refl _ _).drew)
  refine wp_region_G 23 (fun W => Upd (fun q => q = p) w2 W ∧ ∀ k, k < 35 → W.cell? ⟨p, k, none⟩ = w2.cell? ⟨p, k, none⟩) [false, false, false, false, false, false, false, false, false, false, false, false, false, false, false, false, false, false, false, false, false, false, false, false] rfl (by kernel_rfl) ?_
  generalize w2.drew = we at hA HA0 ⊢
  refine wpG_takeT (i := 0) (v := .pointer (some ⟨p, 0, none⟩)) rfl (fun L hc h => (hc.waits (n := 23) (i := 0) (by kernel_rfl) h)) (by kernel_rfl) (fun _ _ _ h => h) hA (.inl ⟨rfl, fun w5 q1 => ?_⟩) ?_
  · go_simp
  simp only [Act.put, List.setIfInBounds_toArray, List.set]
  refine wpG_takeT (i := 1) (v := .pointer (some ⟨p, 0, none⟩)) rfl (fun L hc h => (hc.waits (n := 23) (i := 1) (by kernel_rfl) h)) (by kernel_rfl) (fun _ _ _ h => h) hA (.inl ⟨rfl, fun w5 q1 => ?_⟩) ?_
  · go_simp
  simp only [Act.put, List.setIfInBounds_toArray, List.set]
  refine wpG_takeT (i := 2) (v := .pointer (some ⟨p, 0, none⟩)) rfl (fun L hc h => (hc.waits (n := 23) (i := 2) (by kernel_rfl) h)) (by kernel_rfl) (fun _ _ _ h => h) hA (.inl ⟨rfl, fun w5 q1 => ?_⟩) ?_
  · go_simp
  simp only [Act.put, List.setIfInBounds_toArray, List.set]
  refine wpG_takeT (i := 3) (v := .pointer (some ⟨p, 0, none⟩)) rfl (fun L hc h => (hc.waits (n := 23) (i := 3) (by kernel_rfl) h)) (by kernel_rfl) (fun _ _ _ h => h) hA (.inl ⟨rfl, fun w5 q1 => ?_⟩) ?_
  · go_simp
  simp only [Act.put, List.setIfInBounds_toArray, List.set]
  refine wpG_takeT (i := 4) (v := .pointer (some ⟨p, 0, none⟩)) rfl (fun L hc h => (hc.waits (n := 23) (i := 4) (by kernel_rfl) h)) (by kernel_rfl) (fun _ _ _ h => h) hA (.inl ⟨rfl, fun w5 q1 => ?_⟩) ?_
  · go_simp
  simp only [Act.put, List.setIfInBounds_toArray, List.set]
  refine wpG_takeT (i := 5) (v := .agg cs) rfl (fun L hc h => (hc.waits (n := 23) (i := 5) (by kernel_rfl) h)) (by kernel_rfl) (fun _ _ _ h => h) hA (.inl ⟨rfl, fun w5 q1 => ?_⟩) ?_
  · rw [HCS.out]
    exact exec_ldR rfl rfl (HRG.out _ q1.2) Tryz.underlying74 rfl HSZ.out
  simp only [Act.put, List.setIfInBounds_toArray, List.set]
  refine wpG_takeT (i := 6) (v := .pointer (some ⟨p, 0, none⟩)) rfl (fun L hc h => (hc.waits (n := 23) (i := 6) (by kernel_rfl) h)) (by kernel_rfl) (fun _ _ _ h => h) hA (.inl ⟨rfl, fun w5 q1 => ?_⟩) ?_
  · go_simp
  simp only [Act.put, List.setIfInBounds_toArray, List.set]
  refine wpG_takeT (i := 7) (v := .pointer (some ⟨p, 0, none⟩)) rfl (fun L hc h => (hc.waits (n := 23) (i := 7) (by kernel_rfl) h)) (by kernel_rfl) (fun _ _ _ h => h) hA (.inl ⟨rfl, fun w5 q1 => ?_⟩) ?_
  · go_simp
  simp only [Act.put, List.setIfInBounds_toArray, List.set]
  refine wpG_takeT (i := 8) (v := .pointer (some ⟨p, 24, none⟩)) rfl (fun L hc h => (hc.waits (n := 23) (i := 8) (by kernel_rfl) h)) (by kernel_rfl) (fun _ _ _ h => h) hA (.inl ⟨rfl, fun w5 q1 => ?_⟩) ?_
  · go_simp
  simp only [Act.put, List.setIfInBounds_toArray, List.set]
  refine wpG_takeT (i := 9) (v := .agg #[.int .i64 T1.o.tag, .int .i64 T1.o.width, .slice T1.o.ia T1.o.ins.length T1.o.ic, .int .i64 T1.o.a, .int .i64 T1.o.b]) rfl (fun L hc h => (hc.waits (n := 23) (i := 9) (by kernel_rfl) h)) (by kernel_rfl) (fun _ _ _ h => h) hA (.inl ⟨rfl, fun w5 q1 => ?_⟩) ?_
  · obtain ⟨-, -, -, -, -, -, -, -, -, -, -, -, -, -, -, -, -, -, -, -, -, -, -, -, x24, x25, x26, x27, x28, -, -, -, -, -, -⟩ := HC2.out
    have y24 := (q1.2 24 (by omega)).trans x24
    have y25 := (q1.2 25 (by omega)).trans x25
    have y26 := (q1.2 26 (by omega)).trans x26
    have y27 := (q1.2 27 (by omega)).trans x27
    have y28 := (q1.2 28 (by omega)).trans x28
    clear q1 hA x24 x25 x26 x27 x28
    go_simp
  simp only [Act.put, List.setIfInBounds_toArray, List.set]
  refine wpG_takeT (i := 10) (v := .pointer (some ⟨p, 0, none⟩)) rfl (fun L hc h => (hc.waits (n := 23) (i := 10) (by kernel_rfl) h)) (by kernel_rfl) (fun _ _ _ h => h) hA (.inl ⟨rfl, fun w5 q1 => ?_⟩) ?_
  · go_simp
  simp only [Act.put, List.setIfInBounds_toArray, List.set]
  refine wpG_takeT (i := 11) (v := .pointer (some ⟨p, 0, none⟩)) rfl (fun L hc h => (hc.waits (n := 23) (i := 11) (by kernel_rfl) h)) (by kernel_rfl) (fun _ _ _ h => h) hA (.inl ⟨rfl, fun w5 q1 => ?_⟩) ?_
  · go_simp
  simp only [Act.put, List.setIfInBounds_toArray, List.set]
  refine wpG_takeT (i := 12) (v := .pointer (some ⟨p, 29, none⟩)) rfl (fun L hc h => (hc.waits (n := 23) (i := 12) (by kernel_rfl) h)) (by kernel_rfl) (fun _ _ _ h => h) hA (.inl ⟨rfl, fun w5 q1 => ?_⟩) ?_
  · go_simp
  simp only [Act.put, List.setIfInBounds_toArray, List.set]
  refine wpG_takeT (i := 13) (v := .agg #[.int .i64 T1.s.1, .int .i64 T1.s.2]) rfl (fun L hc h => (hc.waits (n := 23) (i := 13) (by kernel_rfl) h)) (by kernel_rfl) (fun _ _ _ h => h) hA (.inl ⟨rfl, fun w5 q1 => ?_⟩) ?_
  · obtain ⟨-, -, -, -, -, -, -, -, -, -, -, -, -, -, -, -, -, -, -, -, -, -, -, -, -, -, -, -, -, x29, x30, -, -, -, -⟩ := HC2.out
    have y29 := (q1.2 29 (by omega)).trans x29
    have y30 := (q1.2 30 (by omega)).trans x30
    clear q1 hA x29 x30
    go_simp
  simp only [Act.put, List.setIfInBounds_toArray, List.set]
  refine wpG_takeT (i := 15) (v := .int .u64 n) rfl (fun L hc h => (hc.waits (n := 23) (i := 15) (by kernel_rfl) h)) (by kernel_rfl) (fun _ _ _ h => h) hA (.inl ⟨rfl, fun w5 q1 => ?_⟩) ?_
  · go_simp
  simp only [Act.put, List.setIfInBounds_toArray, List.set]
  refine wpG_doIf (i := 14) rfl (by kernel_rfl) rfl (fun K hK => ?_)
  have HKK := Lib.hid hK
  clear hK
  go_step
  refine (HSP.out _ (HU2.out.trans HA0.out)).mono ?_
  rintro _ w7 ⟨na, nc, rfl, hn7, hu7⟩
  have hA2 : Upd (fun q => q = p) w2 w7 ∧ ∀ k, k < 35 → w7.cell? ⟨p, k, none⟩ = w2.cell? ⟨p, k, none⟩ := ⟨hA.1.trans (hu7.mono (fun _ _ e => e.elim)), fun k hk => by
    rw [← hA.2 k hk]
    exact hu7.get.1 p k (Nat.lt_of_lt_of_le (lt_of_heap H2.out.blk) HA0.out.size)⟩
  have HUa := HA0.out.trans hu7
  have HTN7 := Lib.hid (H2.out.kept HUa)
  have HNM7 := Lib.hid hn7
  clear hu7 hn7
  simp only []
  refine HKK.out _ _ hA2 ?_
  clear HKK
  simp only [Act.put, List.setIfInBounds_toArray, List.set]
  refine wpG_takeT (i := 16) (v := .pointer (some ⟨p, 0, none⟩)) rfl (fun L hc h => (hc.waits (n := 23) (i := 16) (by kernel_rfl) h)) (by kernel_rfl) (fun _ _ _ h => h) hA2 (.inl ⟨rfl, fun w5 q1 => ?_⟩) ?_
  · go_simp
  simp only [Act.put, List.setIfInBounds_toArray, List.set]
  refine wpG_takeT (i := 17) (v := .pointer (some ⟨p, 33, none⟩)) rfl (fun L hc h => (hc.waits (n := 23) (i := 17) (by kernel_rfl) h)) (by kernel_rfl) (fun _ _ _ h => h) hA2 (.inl ⟨rfl, fun w5 q1 => ?_⟩) ?_
  · go_simp
  simp only [Act.put, List.setIfInBounds_toArray, List.set]
  refine wpG_takeT (i := 18) (v := .pointer (some ⟨p, 35, none⟩)) rfl (fun L hc h => (hc.waits (n := 23) (i := 18) (by kernel_rfl) h)) (by kernel_rfl) (fun _ _ _ h => h) hA2 (.inl ⟨rfl, fun w5 q1 => ?_⟩) ?_
  · go_simp
  simp only [Act.put, List.setIfInBounds_toArray, List.set]
  refine wpG_doIf (i := 19) rfl (by kernel_rfl) rfl (fun K hK => ?_)
  have HKK := Lib.hid hK
  clear hK
  have HUw := Lib.hid HUa
  obtain ⟨sc, hsc⟩ : ∃ sc, sc = (snapOf T1.t T1.o T1.s na nc).cells := ⟨_, rfl⟩
  have hsl : sc.length = 14 := by rw [hsc]; exact SnV.len HO8.out
  have hblk := HTN7.out.blk
  refine wp_store_mid 80 (.tmp 27) (.tmp 23) rfl p 35 sc.toArray rfl (by rw [hsc]; rfl) (there_mid hblk (by simp [TnV.len HTN7.out.o8 HTN7.out.snl.1, hsl])) (by rw [sizeSn]; simp [hsl]) (all_oneCell_toArray (by rw [hsc]; exact SnV.one _)) ?_
  have hly := HTN7.out.lay (T' := { T1 with snap := sc }) (A := T1.t.cells ++ T1.mid) (X := T1.snap) (Y := sc) (C := [.int .u64 T1.num, .bool T1.fin]) (n := 35) (by simp [TnV.cells]) (by simp [TnV.cells, TnV.mid]) (by rw [hsl, HTN7.out.snl.1]) (by simp [TkV.clen HO8.out, TnV.mid]) HO8.out ⟨hsl, by show ∀ v ∈ sc, _; rw [hsc]; exact SnV.one _⟩ ⟨rfl, rfl, rfl⟩ ⟨rfl, rfl, rfl⟩ ⟨rfl, rfl, rfl⟩
  have hA3 : Upd (fun q => q = p) w2 (w7.setCells p 35 sc) ∧ ∀ k, k < 35 → (w7.setCells p 35 sc).cell? ⟨p, k, none⟩ = w2.cell? ⟨p, k, none⟩ := ⟨hA2.1.trans hly.2, fun k hk => by rw [World.cell?_setCells_out p sc 35 w7 ⟨p, k, none⟩ (fun _ _ => .inl hk)]; exact hA2.2 k hk⟩
  refine HKK.out _ _ hA3 ?_
  clear HKK
  simp only [Act.put, List.setIfInBounds_toArray, List.set]
  refine wpG_takeT (i := 20) (v := .pointer (some ⟨p, 0, none⟩)) rfl (fun L hc h => (hc.waits (n := 23) (i := 22) (by kernel_rfl) (hc.waits (n := 22) (i := 21) (by kernel_rfl) (hc.waits (n := 21) (i := 20) (by kernel_rfl) h)))) (by kernel_rfl) (fun _ _ _ h => h) hA3 (.inl ⟨rfl, fun w5 q1 => ?_⟩) ?_
  · go_simp
  simp only [Act.put, List.setIfInBounds_toArray, List.set]
  refine wpG_takeT (i := 21) (v := .pointer (some ⟨p, 33, none⟩)) rfl (fun L hc h => (hc.waits (n := 23) (i := 22) (by kernel_rfl) (hc.waits (n := 22) (i := 21) (by kernel_rfl) h))) (by kernel_rfl) (fun _ _ _ h => h) hA3 (.inl ⟨rfl, fun w5 q1 => ?_⟩) ?_
  · go_simp
  simp only [Act.put, List.setIfInBounds_toArray, List.set]
  refine wpG_takeT (i := 22) (v := .pointer (some ⟨p, 49, none⟩)) rfl (fun L hc h => (hc.waits (n := 23) (i := 22) (by kernel_rfl) h)) (by kernel_rfl) (fun _ _ _ h => h) hA3 (.inl ⟨rfl, fun w5 q1 => ?_⟩) ?_
  · go_simp
  simp only [Act.put, List.setIfInBounds_toArray, List.set]
  refine wpG_tail_lit (k := 23) rfl rfl (by kernel_rfl) ?_
  simp only [List.drop]
  have HA3 := Lib.hid (And.intro hly.1 (hly.2))
  have HNM9 := Lib.hid (ownsRow_any (ownsRow_low HNM7.out (Nat.le_trans HU2.out.size HA0.out.size)) hly.2 (own_ne HNM7.out HTN7.out.blk (by decide)))
  have HUL := Lib.hid (hly.2)
  have HSC := Lib.hid hsc
  have HSL := Lib.hid hsl
  clear hA hA2 hA3 hly hblk hsc hsl
  generalize hw9 : w7.setCells p 35 sc = w9 at HA3 HNM9 HUL ⊢
  clear hw9
  have hl9 : (T1.t.cells ++ T1.mid ++ sc).length = 49 := by simp [TkV.clen HO8.out, TnV.mid, HSL.out]
  have x49 : w9.cell? ⟨p, 49, none⟩ = some (.int .u64 T1.num) := by
    have hb := HA3.out.1.blk
    rw [show ({ T1 with snap := sc } : TnV).cells = (T1.t.cells ++ T1.mid ++ sc) ++ [.int .u64 T1.num, .bool T1.fin] by simp [TnV.cells, TnV.mid]] at hb
    rw [cell_of_heap hb, List.getElem?_toArray, List.getElem?_append_right (by omega), hl9]
    rfl
  have f49 : w9.frozen? ⟨p, 49, none⟩ = false := frozen_of_heap HA3.out.1.blk
  have hfin := HA3.out.1.lay (T' := { T1 with snap := sc, num := n }) (A := T1.t.cells ++ T1.mid ++ sc) (X := [.int .u64 T1.num]) (Y := [.int .u64 n]) (C := [.bool T1.fin]) (n := 49) (by simp [TnV.cells, TnV.mid]) (by simp [TnV.cells, TnV.mid]) rfl hl9.symm HO8.out ⟨HSL.out, by show ∀ v ∈ sc, _; rw [HSC.out]; exact SnV.one _⟩ ⟨rfl, rfl, rfl⟩ ⟨rfl, rfl, rfl⟩ ⟨rfl, rfl, rfl⟩
  have hs9 : w9.setCells p 49 [.int .u64 n] = w9.setCell ⟨p, 49, none⟩ (.int .u64 n) := rfl
  rw [hs9] at hfin
  have HFIN := Lib.hid hfin
  have HUA := Lib.hid HUa
  clear hfin hs9 hl9 HUa HRG HC2
  go_wp2
  refine bodyPost_end (results_none rfl _ _ _) rfl ⟨rfl, na, nc, ?_, ?_, ?_⟩
  · have e : T.tell n na nc = { T1 with snap := sc, num := n } := by rw [HSC.out, HT1.out]; rfl
    rw [e]
    exact HFIN.out.1
  · have e : T.t.snk = T1.t.snk := by rw [HT1.out]
    rw [e]
    exact ownsRow_any HNM9.out HFIN.out.2 (own_ne HNM9.out HA3.out.1.blk (by decide))
  · exact (((HU2.out.trans HUA.out).cut HUL.out (fun q hq => by have := HP.out; omega))).cut HFIN.out.2 (fun q hq => by have := HP.out; omega)
end Go.Proofs.YtbonfdkgkcbkmaaGreat
end

section
namespace Go.Proofs.YtbonfdkgkcbkmaaGreat
set_option maxRecDepth 100000
open Go.RowKit Go.Shelf

attribute [local go_sem] Oper.semAt_some
theorem TkV.one (t : TkV) : ∀ v ∈ t.cells, v.oneCell' = true := by
  intro v hv
  simp only [TkV.cells, List.mem_append, List.mem_cons, List.not_mem_nil, or_false, List.mem_map] at hv
  rcases hv with ((rfl | rfl | rfl | rfl | rfl) | ⟨z, _, rfl⟩) | (rfl | rfl | rfl | rfl | rfl | rfl | rfl | rfl | rfl | rfl | rfl) <;> rfl
theorem TnV.deed_one {T : TnV} (h : ∀ v ∈ T.snap, v.oneCell' = true) : ∀ v ∈ T.deed, v.oneCell' = true := by
  intro v hv
  simp only [TnV.deed, List.mem_append, List.mem_cons, List.not_mem_nil, or_false] at hv
  rcases hv with ((rfl | rfl) | hv) | (rfl | rfl)
  · rfl
  · rfl
  · exact h v hv
  · rfl
  · rfl
theorem TnV.deed_len {T : TnV} (h : T.snap.length = 14) : T.deed.length = 18 := by simp [TnV.deed, h]
theorem sizeDd : (Tryz.prog.info? 82).map (·.size) = some 18 := by kernel_rfl
theorem loadA {P : Program} {ty : TypeId} {w : World} {b : Nat} {cs : List Value} {d : TypeDesc} (hq : w.heap[b]? = some (.cells cs.toArray ty (0, 0))) (hu : P.underlying ty = some d) (hd : d.isRow = true) (hi : (P.info? ty).map (·.size) = some cs.length) : (loadVar ty ⟨b, 0, none⟩).run P w = .ok (.agg cs.toArray) w :=
  run_loadVar_mid (P := P) w b 0 ty cs d (rangeAt_block hq) hu hd hi
set_option maxHeartbeats 16000000 in
theorem done0_any {B p : Nat} {T : TnV} (w : World) (h : TnAt w B p T) : Calls Tryz.prog 72 #[.pointer (some ⟨p, 0, none⟩), .int .i64 0] w fun e w' => e = .returned (.tuple #[.agg T.t.cells.toArray, .agg T.deed.toArray, .int .i64 0]) ∧ Upd0 w w' := by
  obtain ⟨b, hb⟩ : ∃ b, b = w.heap.size := ⟨_, rfl⟩
  obtain ⟨w1, hw1⟩ : ∃ w1, w1 = (w.alloc (.cells #[.slice none 0 0, .int .i64 0, .int .i64 0, .int .i64 0, .slice none 0 0, .int .i64 0, .int .i64 0, .int .i64 0, .int .i64 0, .int .i64 0, .int .i64 0, .int .i64 0, .int .i64 0, .slice none 0 0, .int .u64 0, .int .u64 0, .slice none 0 0, .int .i64 0, .int .i64 0, .int .i64 0, .bool false, .slice none 0 0, .int .u64 0, .bool false] 74)).alloc (.cells #[.slice none 0 0, .slice none 0 0, .int .i64 0, .int .i64 0, .int .i64 0, .bool false, .slice none 0 0, .int .i64 0, .int .i64 0, .int .i64 0, .int .i64 0, .int .i64 0, .int .i64 0, .int .i64 0, .int .i64 0, .slice none 0 0, .int .u64 0, .bool false] 82) := ⟨_, rfl⟩
  have hu1 : Upd0 w w1 := by rw [hw1]; exact ((Upd.refl _ w).alloc _).alloc _
  have HX := Lib.hid (show w1.heap[b]? = some (.cells #[.slice none 0 0, .int .i64 0, .int .i64 0, .int .i64 0, .slice none 0 0, .int .i64 0, .int .i64 0, .int .i64 0, .int .i64 0, .int .i64 0, .int .i64 0, .int .i64 0, .int .i64 0, .slice none 0 0, .int .u64 0, .int .u64 0, .slice none 0 0, .int .i64 0, .int .i64 0, .int .i64 0, .bool false, .slice none 0 0, .int .u64 0, .bool false] 74 (0, 0)) by rw [hw1, hb]; exact (alloc_lt (by simp)).trans (alloc_at rfl))
  have HY := Lib.hid (show w1.heap[b + 1]? = some (.cells #[.slice none 0 0, .slice none 0 0, .int .i64 0, .int .i64 0, .int .i64 0, .bool false, .slice none 0 0, .int .i64 0, .int .i64 0, .int .i64 0, .int .i64 0, .int .i64 0, .int .i64 0, .int .i64 0, .int .i64 0, .slice none 0 0, .int .u64 0, .bool false] 82 (0, 0)) by rw [hw1, hb]; exact alloc_at (by simp))
  have HPB := Lib.hid (show p ≠ b by have := lt_of_heap h.blk; omega)
  have H1 := Lib.hid (h.kept hu1)
  have HU := Lib.hid hu1; have HB := Lib.hid hb
  have HRT := Lib.hid (fun (W : World) (hW : Upd (fun q => q = b) w1 W) => TnV.task ((hW.block p (lt_of_heap H1.out.blk) HPB.out).trans H1.out.blk))
  have HRD := Lib.hid (fun (W : World) (hW : Upd (fun q => q = b) w1 W) => TnV.deedAt h.o8 ((hW.block p (lt_of_heap H1.out.blk) HPB.out).trans H1.out.blk))
  have HST := Lib.hid (show (Tryz.prog.info? 74).map (·.size) = some T.t.cells.length by rw [sizeTk, TkV.clen h.o8])
  have HSD := Lib.hid (show (Tryz.prog.info? 82).map (·.size) = some T.deed.length by rw [sizeDd, TnV.deed_len h.snl.1])
  have HOT := Lib.hid (TkV.one T.t)
  have HOD := Lib.hid (TnV.deed_one h.snl.2)
  have HLT := Lib.hid (TkV.clen h.o8)
  have HLD := Lib.hid (TnV.deed_len h.snl.1)
  obtain ⟨cs, hcs⟩ : ∃ cs, cs = T.t.cells := ⟨_, rfl⟩
  obtain ⟨ds, hds⟩ : ∃ ds, ds = T.deed := ⟨_, rfl⟩
  rw [← hcs] at HRT HST HOT HLT ⊢
  rw [← hds] at HRD HSD HOD HLD ⊢
  clear h hu1 hcs hds
  go_enter Tryz.func72, Tryz.ntmps72
  go_upto_region 3 with fail
  rw [← hw1, ← hb]
  clear hw1 hb
  have hA : Upd (fun q => q = b) w1 w1.drew := (Upd.refl _ _).drew
  have HAw := Lib.hid (show Upd0 w1 w1.drew from (Upd.refl _ _).drew)
  refine wp_region_G 9 (fun W => Upd (fun q => q = b) w1 W) [false, false, false, false, false, false, false, false, false, false, false] rfl (by kernel_rfl) ?_
  generalize w1.drew = we at hA HAw ⊢
  refine wpG_takeT (i := 0) (v := .pointer (some ⟨p, 0, none⟩)) rfl (fun L hc h => (hc.waits (n := 9) (i := 0) (by kernel_rfl) h)) (by kernel_rfl) (fun _ _ _ h => h) hA (.inl ⟨rfl, fun w5 q1 => ?_⟩) ?_
  · go_simp
  simp only [Act.put, List.setIfInBounds_toArray, List.set]
  refine wpG_takeT (i := 1) (v := .pointer (some ⟨p, 0, none⟩)) rfl (fun L hc h => (hc.waits (n := 9) (i := 1) (by kernel_rfl) h)) (by kernel_rfl) (fun _ _ _ h => h) hA (.inl ⟨rfl, fun w5 q1 => ?_⟩) ?_
  · go_simp
  simp only [Act.put, List.setIfInBounds_toArray, List.set]
  refine wpG_takeT (i := 2) (v := .pointer (some ⟨p, 0, none⟩)) rfl (fun L hc h => (hc.waits (n := 9) (i := 2) (by kernel_rfl) h)) (by kernel_rfl) (fun _ _ _ h => h) hA (.inl ⟨rfl, fun w5 q1 => ?_⟩) ?_
  · go_simp
  simp only [Act.put, List.setIfInBounds_toArray, List.set]
  refine wpG_takeT (i := 3) (v := .agg cs.toArray) rfl (fun L hc h => (hc.waits (n := 9) (i := 3) (by kernel_rfl) h)) (by kernel_rfl) (fun _ _ _ h => h) hA (.inl ⟨rfl, fun w5 q1 => ?_⟩) ?_
  · exact exec_ldR rfl rfl (HRT.out _ q1) Tryz.underlying74 rfl HST.out
  simp only [Act.put, List.setIfInBounds_toArray, List.set]
  refine wpG_takeT (i := 4) (v := .pointer (some ⟨p, 0, none⟩)) rfl (fun L hc h => (hc.waits (n := 9) (i := 4) (by kernel_rfl) h)) (by kernel_rfl) (fun _ _ _ h => h) hA (.inl ⟨rfl, fun w5 q1 => ?_⟩) ?_
  · go_simp
  simp only [Act.put, List.setIfInBounds_toArray, List.set]
  refine wpG_takeT (i := 5) (v := .pointer (some ⟨p, 0, none⟩)) rfl (fun L hc h => (hc.waits (n := 9) (i := 5) (by kernel_rfl) h)) (by kernel_rfl) (fun _ _ _ h => h) hA (.inl ⟨rfl, fun w5 q1 => ?_⟩) ?_
  · go_simp
  simp only [Act.put, List.setIfInBounds_toArray, List.set]
  refine wpG_takeT (i := 6) (v := .pointer (some ⟨p, 33, none⟩)) rfl (fun L hc h => (hc.waits (n := 9) (i := 6) (by kernel_rfl) h)) (by kernel_rfl) (fun _ _ _ h => h) hA (.inl ⟨rfl, fun w5 q1 => ?_⟩) ?_
  · go_simp
  simp only [Act.put, List.setIfInBounds_toArray, List.set]
  refine wpG_takeT (i := 7) (v := .agg ds.toArray) rfl (fun L hc h => (hc.waits (n := 9) (i := 7) (by kernel_rfl) h)) (by kernel_rfl) (fun _ _ _ h => h) hA (.inl ⟨rfl, fun w5 q1 => ?_⟩) ?_
  · exact exec_ldR rfl rfl (HRD.out _ q1) Tryz.underlying82 rfl HSD.out
  simp only [Act.put, List.setIfInBounds_toArray, List.set]
  refine wpG_doIf (i := 8) rfl (by kernel_rfl) rfl (fun K hK => ?_)
  have HKK := Lib.hid hK
  clear hK
  have hxw := (HAw.out.block b (lt_of_heap HX.out) (fun e => e)).trans HX.out
  refine wp_store_mid 74 (.tmp 4) (.tmp 15) rfl b 0 cs.toArray rfl rfl (by have q := there_block hxw; simpa [HLT.out] using q) (by simpa using HST.out) (all_oneCell_toArray HOT.out) ?_
  have hA2 : Upd (fun q => q = b) w1 (we.setCells b 0 cs) := hA.trans (upd_setCells we b 0 cs)
  have hX7 := setCells_all hxw (vs := cs) (by rw [HLT.out]; rfl)
  rw [show cs.toArray.toList = cs from rfl]
  generalize (we.setCells b 0 cs) = w7 at hA2 hX7 ⊢
  refine HKK.out _ _ hA2 ?_
  clear HKK
  simp only [Act.put, List.setIfInBounds_toArray, List.set]
  refine wpG_tail_lit (k := 9) rfl rfl (by kernel_rfl) ?_
  simp only [List.drop]
  have HAZ := Lib.hid hA2
  have hy := (hA2.block (b + 1) (lt_of_heap HY.out) (by omega)).trans HY.out
  refine wpList_store_mid rfl 82 (.tmp 5) (.tmp 19) rfl (b + 1) 0 ds.toArray rfl rfl (by have q := there_block hy; simpa [HLD.out] using q) (by simpa using HSD.out) (all_oneCell_toArray HOD.out) ?_
  have hq := upd_setCells w7 (b + 1) 0 ds
  have hr := setCells_all hy (vs := ds) (by rw [HLD.out]; rfl)
  have hx7 := (hq.block b (lt_of_heap hX7) (by omega)).trans hX7
  rw [show ds.toArray.toList = ds from rfl]
  generalize hw8 : w7.setCells (b + 1) 0 ds = w8 at hq hr hx7 ⊢
  have HQ := Lib.hid hq; have HR8 := Lib.hid hr; have HX8 := Lib.hid hx7
  clear hq hr hx7 hy hA hA2 hX7 hw8
  go_wp2
  refine bodyPost_ret (results_cct (fn := Tryz.f72) rfl rfl (loadA HX8.out Tryz.underlying74 rfl HST.out) rfl (loadA HR8.out Tryz.underlying82 rfl HSD.out)) rfl ?_
  exact ⟨rfl, (HU.out.cut HAZ.out (fun q hq => by have := HB.out; omega)).cut HQ.out (fun q hq => by have := HB.out; omega)⟩
end Go.Proofs.YtbonfdkgkcbkmaaGreat
end

section
namespace Go.Proofs.YtbonfdkgkcbkmaaGreat
set_option maxRecDepth 100000
open Go.RowKit Go.Shelf

attribute [local go_sem] Oper.semAt_some
/-- What comes of passing on: rooms, what went on, and why not. -/
def emitR (out : List Int) (el : ElV) : List Int → List EmV → List Int → List Int × List EmV × Int
  | rooms, ems, [] => (rooms, ems, 0)
  | rooms, ems, c :: l => if Lib.idxOf out c < 0 ∨ rooms.getD (Lib.idxOf out c).toNat 0 = 0 then (rooms, ems, 6)
    else emitR out el (rooms.set (Lib.idxOf out c).toNat (rooms.getD (Lib.idxOf out c).toNat 0 - 1)) (ems ++ [⟨c, el⟩]) l
theorem idxFrom_lt : ∀ (zs : List Int) (x : Int) (k : Nat), Lib.idxFrom zs x k < 0 ∨ (∃ j : Nat, Lib.idxFrom zs x k = j ∧ j < k + zs.length)
  | [], x, k => by left; simp [Lib.idxFrom]
  | z :: zs, x, k => by
    rw [Lib.idxFrom]
    split
    · right; exact ⟨k, rfl, by simp⟩
    · rcases idxFrom_lt zs x (k + 1) with h | ⟨j, h1, h2⟩
      · left; exact h
      · right; exact ⟨j, h1, by simp; omega⟩
theorem idxOf_lt {zs : List Int} {x : Int} (h : ¬ Lib.idxOf zs x < 0) : ∃ j : Nat, Lib.idxOf zs x = j ∧ j < zs.length := by
  rcases idxFrom_lt zs x 0 with h1 | ⟨j, h1, h2⟩
  · exact absurd h1 h
  · exact ⟨j, h1, by omega⟩
theorem infoEm : (Tryz.prog.info? 97).map (fun i => (i.zero, i.size, i.bytes)) = some (some (.agg #[.int .i64 0, .int .i64 0, .int .i64 0, .int .i64 0, .int .i64 0, .int .u64 0]), 6, 48) := by kernel_rfl
theorem own_setI {w : World} {B g n c i : Nat} {l : List Int} {z : Int} (h : w.ownsRow B 3 1 (.slice (some ⟨g, 0, none⟩) n c) n (l.map I)) (hn : l.length = n) (hi : i < n) : (w.setCell ⟨g, i, none⟩ (.int .i64 z)).ownsRow B 3 1 (.slice (some ⟨g, 0, none⟩) n c) n ((l.set i z).map I) := by
  have := own_setR (s := 1) (els := l.map fun z => [Value.int .i64 z]) (x := [.int .i64 z]) (i := i) (by omega) (by rw [flatI]; exact h) (fun y hy => by obtain ⟨_, _, rfl⟩ := List.mem_map.1 hy; rfl) (by simp [hn]) rfl hi
  rw [Nat.mul_one] at this
  have e : (l.map fun z => [Value.int .i64 z]).set i [.int .i64 z] = (l.set i z).map fun z => [Value.int .i64 z] := by rw [List.map_set]
  rw [e, flatI] at this
  exact this
theorem own_two {W : World} {B C s s2 n m : Nat} {e f : TypeId} {v u : Value} {xs ys : List Value} (h : W.ownsRow B e s v n xs) (k : W.ownsRow C f s2 u m ys) (he : e ≠ f) : ∀ q, v.ownBlock = some q → u.ownBlock = some q → False := by
  intro q h1 h2
  obtain ⟨c1, hc1⟩ := ownsRow_at h h1
  obtain ⟨c2, hc2⟩ := ownsRow_at k h2
  rw [hc1] at hc2
  injection hc2 with hc2
  injection hc2 with _ hc2
  exact he hc2
theorem own_neT {W : World} {B p s n : Nat} {e t : TypeId} {v : Value} {xs : List Value} {cs : Array Value} (h : W.ownsRow B e s v n xs) (hp : W.heap[p]? = some (.cells cs t (0, 0))) (he : e ≠ t) : ∀ q, v.ownBlock = some q → ¬ q = p := by
  intro q hq e2
  obtain ⟨cur, hcur⟩ := ownsRow_at h hq
  rw [e2, hp] at hcur
  injection hcur with hcur
  injection hcur with _ hcur
  exact he hcur.symm
/-- A turn with other rooms and more that goes on. -/
def TnV.emit (T : TnV) (r : List Int) (es : List EmV) (eA : Option Addr) (eC : Nat) : TnV := { T with rooms := r, ems := es, emA := eA, emC := eC }
theorem TnV.emit_cells {T : TnV} {r : List Int} (hr : r.length = T.rooms.length) : (T.emit r T.ems T.emA T.emC).cells = T.cells := by
  simp [TnV.cells, TnV.emit, TnV.mid, hr]
/-- One room less. -/
theorem TnAt.room {W : World} {B p j rg : Nat} {T : TnV} {z : Int} (h : TnAt W B p T) (hj : j < T.rooms.length) (hr : T.rmA = some ⟨rg, 0, none⟩) : TnAt (W.setCell ⟨rg, j, none⟩ (.int .i64 z)) B p (T.emit (T.rooms.set j z) T.ems T.emA T.emC) ∧ Upd (fun q => (Value.slice T.rmA T.rooms.length T.rmC).ownBlock = some q) W (W.setCell ⟨rg, j, none⟩ (.int .i64 z)) := by
  have hu := upd_own W rg j (.int .i64 z)
  have hro := h.rooms
  have hb := own_ne h.rooms h.blk (by decide)
  have hob : (Value.slice T.rmA T.rooms.length T.rmC).ownBlock = some rg := by
    rw [hr] at hro ⊢
    rcases hro.2 with ⟨h1, _⟩ | ⟨g, cap, cur, h1, _⟩
    · cases h1
    · injection h1 with e1
      injection e1 with e1
      injection e1 with e1
      rw [e1]; rfl
  refine ⟨⟨?_, h.o8, h.snl, ?_, ?_, ?_, ?_⟩, hu.mono (fun q _ e => by subst e; exact hob)⟩
  · rw [TnV.emit_cells (by simp)]
    exact (hu.block p (lt_of_heap h.blk) (fun e => hb rg hob e.symm)).trans h.blk
  · exact ownsRow_any h.out hu (fun q hq e => h.apart q hq (by rw [hob, e]))
  · show World.ownsRow _ _ _ _ (.slice T.rmA (T.rooms.set j z).length T.rmC) _ _
    have h3 : W.ownsRow B 3 1 (.slice (some ⟨rg, 0, none⟩) T.rooms.length T.rmC) T.rooms.length (T.rooms.map I) := by rw [← hr]; exact hro
    rw [hr]
    simp only [TnV.emit, List.length_set]
    exact own_setI h3 rfl hj
  · exact ownsRow_any h.ems hu (fun q hq e => own_two h.ems h.rooms (by decide) q hq (by rw [hob, e]))
  · intro q h1 h2
    simp only [TnV.emit, List.length_set] at h1 h2
    exact h.apart q h1 h2
/-- One more goes on. -/
theorem TnAt.more {W w4 : World} {B p eg cap : Nat} {T : TnV} {x : EmV} (h : TnAt W B p T) (ho : w4.ownsRow B 97 6 (.slice (some ⟨eg, 0, none⟩) (T.ems.length + 1) cap) (T.ems.length + 1) ((T.ems.map EmV.cells).flatten ++ x.cells)) (hu : Upd (fun q => (Value.slice T.emA T.ems.length T.emC).ownBlock = some q) W w4) :
    TnAt (w4.setCell ⟨p, 33, none⟩ (.slice (some ⟨eg, 0, none⟩) (T.ems.length + 1) cap)) B p (T.emit T.rooms (T.ems ++ [x]) (some ⟨eg, 0, none⟩) cap) := by
  have hb := own_ne h.ems h.blk (by decide)
  have hblk4 := (hu.block p (lt_of_heap h.blk) (fun e => hb p e rfl)).trans h.blk
  have hu2 := upd_own w4 p 33 (.slice (some ⟨eg, 0, none⟩) (T.ems.length + 1) cap)
  have hout4 := ownsRow_any h.out hu (fun q hq e => own_two h.out h.ems (by decide) q hq e)
  have hrm4 := ownsRow_any h.rooms hu (fun q hq e => own_two h.rooms h.ems (by decide) q hq e)
  obtain ⟨o0, o1, o2, o3, o4, o5, o6, o7, hmap⟩ := eight h.o8
  rw [TnV.lit hmap] at hblk4
  have hset := setCells_app (A := [.slice T.t.oa T.t.os.length T.t.oc, .int .i64 T.t.sub, .int .i64 T.t.att, .int .i64 T.t.inp.src, .slice T.t.inp.ra T.t.inp.recs.length T.t.inp.rc, .int .i64 o0, .int .i64 o1, .int .i64 o2, .int .i64 o3, .int .i64 o4, .int .i64 o5, .int .i64 o6, .int .i64 o7, .slice T.t.qa T.t.qs.length T.t.qc, .int .u64 T.t.num, .int .u64 T.t.gd, .slice T.t.ta T.t.rows.length T.t.tc, .int .i64 T.t.snk.sub, .int .i64 T.t.snk.att, .int .i64 T.t.snk.ser, .bool T.t.snk.opn, .slice T.t.snk.na T.t.snk.names.length T.t.snk.nc, .int .u64 T.t.done, .bool T.t.fin, .int .i64 T.o.tag, .int .i64 T.o.width, .slice T.o.ia T.o.ins.length T.o.ic, .int .i64 T.o.a, .int .i64 T.o.b, .int .i64 T.s.1, .int .i64 T.s.2, .slice T.outA T.out.length T.outC, .slice T.rmA T.rooms.length T.rmC]) (B := [.slice T.emA T.ems.length T.emC]) (C := [.slice T.acA T.acN T.acC] ++ (T.snap ++ [.int .u64 T.num, .bool T.fin])) (vs := [.slice (some ⟨eg, 0, none⟩) (T.ems.length + 1) cap]) (n := 33) (p := p) (w := w4) (t := 168) (by rw [hblk4]; rfl) rfl rfl
  refine ⟨?_, h.o8, h.snl, ?_, ?_, ?_, h.apart⟩
  · have e : (T.emit T.rooms (T.ems ++ [x]) (some ⟨eg, 0, none⟩) cap).cells = [.slice T.t.oa T.t.os.length T.t.oc, .int .i64 T.t.sub, .int .i64 T.t.att, .int .i64 T.t.inp.src, .slice T.t.inp.ra T.t.inp.recs.length T.t.inp.rc, .int .i64 o0, .int .i64 o1, .int .i64 o2, .int .i64 o3, .int .i64 o4, .int .i64 o5, .int .i64 o6, .int .i64 o7, .slice T.t.qa T.t.qs.length T.t.qc, .int .u64 T.t.num, .int .u64 T.t.gd, .slice T.t.ta T.t.rows.length T.t.tc, .int .i64 T.t.snk.sub, .int .i64 T.t.snk.att, .int .i64 T.t.snk.ser, .bool T.t.snk.opn, .slice T.t.snk.na T.t.snk.names.length T.t.snk.nc, .int .u64 T.t.done, .bool T.t.fin, .int .i64 T.o.tag, .int .i64 T.o.width, .slice T.o.ia T.o.ins.length T.o.ic, .int .i64 T.o.a, .int .i64 T.o.b, .int .i64 T.s.1, .int .i64 T.s.2, .slice T.outA T.out.length T.outC, .slice T.rmA T.rooms.length T.rmC] ++ [.slice (some ⟨eg, 0, none⟩) (T.ems.length + 1) cap] ++ ([.slice T.acA T.acN T.acC] ++ (T.snap ++ [.int .u64 T.num, .bool T.fin])) := by
      rw [TnV.lit (T := T.emit T.rooms (T.ems ++ [x]) (some ⟨eg, 0, none⟩) cap) hmap]
      simp [TnV.emit]
    rw [e]
    exact hset
  · exact ownsRow_any hout4 hu2 (own_ne hout4 hblk4 (by decide))
  · exact ownsRow_any hrm4 hu2 (own_ne hrm4 hblk4 (by decide))
  · have := ownsRow_any ho hu2 (own_ne ho hblk4 (by decide))
    simp only [TnV.emit, List.length_append, List.length_singleton, List.map_append, List.flatten_append]
    simpa using this
/-- What passing on may write: turns, rooms, rows of what goes on. -/
def emB : Nat → TypeId → Prop := fun _ t => t = 168 ∨ t = 3 ∨ t = 97
set_option maxHeartbeats 32000000 in
theorem emit_any {w0 : World} {p : Nat} {T : TnV} {ca : Option Addr} {chs : List Int} {cc : Nat} (el : ElV) (w : World) (h : TnAt w w0.heap.size p T) (hp : w0.heap.size ≤ p) (hu : Upd0 w0 w) (hch : OwnI w 0 3 (.slice ca chs.length cc) chs) (hap : ∀ q, (Value.slice ca chs.length cc).ownBlock = some q → (Value.slice T.rmA T.rooms.length T.rmC).ownBlock = some q → False)
    (hlen : T.rooms.length = T.out.length) (hol : T.out.length ≤ 1000000) (hcl : chs.length ≤ 2500000000) (hel : T.ems.length ≤ 1000000) (hrb : ∀ r ∈ T.rooms, 0 ≤ r ∧ r ≤ 9223372036854775807) :
    Calls Tryz.prog 148 #[.pointer (some ⟨p, 0, none⟩), .agg #[.int .i64 el.kind, .int .i64 el.rec'.src, .int .i64 el.rec'.key, .int .i64 el.rec'.val, .int .u64 el.num], .slice ca chs.length cc] w fun e w' => e = .returned (.int .i64 (emitR T.out el T.rooms T.ems chs).2.2) ∧ ∃ eA eC, TnAt w' w0.heap.size p (T.emit (emitR T.out el T.rooms T.ems chs).1 (emitR T.out el T.rooms T.ems chs).2.1 eA eC) ∧ Upd0 w0 w' ∧ UpdT emB w w' := by
  obtain ⟨b, hb⟩ : ∃ b, b = w.heap.size := ⟨_, rfl⟩
  obtain ⟨w1, hw1⟩ : ∃ w1, w1 = w.alloc (.cells #[.int .i64 el.kind, .int .i64 el.rec'.src, .int .i64 el.rec'.key, .int .i64 el.rec'.val, .int .u64 el.num] 95) := ⟨_, rfl⟩
  have hu1 : Upd0 w w1 := by rw [hw1]; exact (Upd.refl _ w).alloc _
  have HX := Lib.hid (show w1.heap[b]? = some (.cells #[.int .i64 el.kind, .int .i64 el.rec'.src, .int .i64 el.rec'.key, .int .i64 el.rec'.val, .int .u64 el.num] 95 (0, 0)) by rw [hw1]; exact alloc_at hb)
  have H1 := Lib.hid (h.kept hu1)
  have HC1 := Lib.hid (ownsRow_any hch hu1 (fun _ _ e => e))
  have HU1 := Lib.hid (hu.trans hu1)
  have HUT1 := Lib.hid (UpdT.of0 (Φ := emB) hu1)
  have HP := Lib.hid hp; have HAP := Lib.hid hap; have HLEN := Lib.hid hlen; have HRB := Lib.hid hrb
  obtain ⟨er, her⟩ : ∃ er, er = emitR T.out el T.rooms T.ems chs := ⟨_, rfl⟩
  have HER := Lib.hid her.symm
  rw [← her]
  clear h hu hch hap hu1 her hlen hrb hp
  go_enter Tryz.func148, Tryz.ntmps148
  go_wp2_with (fail)
  rw [← hw1, ← hb]
  clear hw1 hb
  go_loopw [12] (fun i wr => ∃ (k : Nat) (r : List Int) (es : List EmV) (eA : Option Addr) (eC : Nat), k ≤ chs.length ∧ i = .int .i64 k ∧ es.length ≤ T.ems.length + k ∧ Hid (TnAt wr w0.heap.size p (T.emit r es eA eC)) ∧ Hid (emitR T.out el r es (chs.drop k) = er) ∧ Hid (wr.heap[b]? = some (.cells #[.int .i64 el.kind, .int .i64 el.rec'.src, .int .i64 el.rec'.key, .int .i64 el.rec'.val, .int .u64 el.num] 95 (0, 0))) ∧ Hid (OwnI wr 0 3 (.slice ca chs.length cc) chs) ∧ Hid (Upd0 w0 wr) ∧ Hid (UpdT emB w wr) ∧ Hid (r.length = T.rooms.length ∧ ∀ x ∈ r, 0 ≤ x ∧ x ≤ 9223372036854775807)) (fun i _ => chs.length - (intOf i).toNat)
  case atStart => exact ⟨0, T.rooms, T.ems, T.emA, T.emC, Nat.zero_le _, rfl, by omega, H1, HER, HX, HC1, HU1, HUT1, Lib.hid ⟨rfl, HRB.out⟩⟩
  case round =>
    clear H1 HER HX HC1 HU1 HUT1 HRB
    obtain ⟨k, r, es, eA, eC, hk, rfl, hesl, HT, HER, HX, HCH, HU, HUT, HRB⟩ := hrel
    by_cases hlt : k < chs.length
    · obtain ⟨c, hc⟩ : ∃ c, chs[k]? = some c := ⟨_, List.getElem?_eq_getElem hlt⟩
      obtain ⟨cb, co, rfl, c0⟩ := (OwnI.in' HCH.out).cell hc
      have HER2 : Hid (emitR T.out el r es (c :: chs.drop (k + 1)) = er) := by rw [← drop_cons' hc]; exact HER
      obtain ⟨o0, o1, o2, o3, o4, o5, o6, o7, hmap⟩ := eight HT.out.o8
      obtain ⟨-, -, -, -, -, -, -, -, -, -, -, -, -, -, -, -, -, -, -, -, -, -, -, -, -, -, -, -, -, -, -, x31, x32, x33, -⟩ := TnV.at hmap HT.out.blk
      obtain ⟨T2, hT2⟩ : ∃ T2 : TnV, T2 = T.emit r es eA eC := ⟨_, rfl⟩
      have HT2 := Lib.hid hT2
      replace x31 : wr.cell? ⟨p, 31, none⟩ = some (.slice T.outA T.out.length T.outC) := x31
      replace x32 : wr.cell? ⟨p, 32, none⟩ = some (.slice T.rmA r.length T.rmC) := x32
      replace x33 : wr.cell? ⟨p, 33, none⟩ = some (.slice eA es.length eC) := x33
      have HIX := Lib.hid (show Calls Tryz.prog 168 #[.slice T.outA T.out.length T.outC, .int .i64 c] wr fun e w' => e = .returned (.int .i64 (Lib.idxOf T.out c)) ∧ wr = w' from index_in (c := T.outC) c wr (OwnI.in' (show OwnI wr w0.heap.size 3 (.slice T.outA T.out.length T.outC) T.out from HT.out.out)) (by omega))
      have HER3 := Lib.hid (show (if Lib.idxOf T.out c < 0 ∨ r.getD (Lib.idxOf T.out c).toNat 0 = 0 then (r, es, 6) else emitR T.out el (r.set (Lib.idxOf T.out c).toNat (r.getD (Lib.idxOf T.out c).toNat 0 - 1)) (es ++ [⟨c, el⟩]) (chs.drop (k + 1))) = er from HER2.out)
      have HIL := Lib.hid (fun (hi : ¬ Lib.idxOf T.out c < 0) => idxOf_lt hi)
      obtain ⟨ix, hix⟩ : ∃ ix, ix = Lib.idxOf T.out c := ⟨_, rfl⟩
      rw [← hix] at HIX HER3 HIL
      have HRO := Lib.hid (show wr.ownsRow w0.heap.size 3 1 (.slice T.rmA r.length T.rmC) r.length (r.map I) from HT.out.rooms)
      clear hc hmap hT2 hix HER HER2 HT2
      go_wp2_with (go_at_call 168; fail)
      (with_reducible refine HIX.out.mono ?_)
      rintro _ w2 ⟨rfl, rfl⟩
      clear HIX c0
      simp only []
      by_cases hi : ix < 0
      · rw [if_pos (.inl hi)] at HER3
        go_wp2
        go_ret
        refine ⟨by rw [← HER3.out]; rfl, eA, eC, ?_, HU.out, HUT.out⟩
        rw [← HER3.out]
        exact HT.out
      · obtain ⟨j, hj, hjl⟩ := HIL.out (by omega)
        subst hj
        rw [show ((j : Nat) : Int).toNat = j from rfl] at HER3
        have hjr : j < r.length := by have := HRB.out.1; have := HLEN.out; omega
        obtain ⟨rj, hrj⟩ : ∃ rj, r[j]? = some rj := ⟨_, List.getElem?_eq_getElem hjr⟩
        rw [show r.getD j 0 = rj by simp [List.getD_eq_getElem?_getD, hrj]] at HER3
        obtain ⟨rg, hrm, crj⟩ := row_cell (k := j) (u := .int .i64 rj) HRO.out (by simp) (by simp [hrj])
        rw [hrm] at x32
        have hjI : (j : Int) < r.length := by omega
        by_cases hz : rj = 0
        · rw [if_pos (.inr hz)] at HER3
          subst hz
          have HFI := Lib.hid (show TnAt wr w0.heap.size p (T.emit er.1 er.2.1 eA eC) by rw [← HER3.out]; exact HT.out)
          go_wp2
          go_ret
          first
          | exact ⟨by rw [← HER3.out]; rfl, eA, eC, HFI.out, HU.out, HUT.out⟩
          | exact ⟨by rw [← HER3.out]; rfl, ⟨eA, eC, HFI.out⟩, HU.out, HUT.out⟩
        · rw [if_neg (by omega)] at HER3
          have hz' : (rj == 0) = false := by simpa using hz
          have hbd := HRB.out.2 rj (List.mem_of_getElem? hrj)
          have hww : IntKind.i64.wrap (rj - 1) = rj - 1 := by rw [IntKind.wrap_i64]; omega
          have hrob : (Value.slice T.rmA r.length T.rmC).ownBlock = some rg := by
            have h1 := HRO.out
            rw [hrm] at h1 ⊢
            rcases h1.2 with ⟨h2, _⟩ | ⟨g, cap, cur, h2, _⟩
            · cases h2
            · injection h2 with e1
              injection e1 with e1
              injection e1 with e1
              rw [e1]; rfl
          obtain ⟨rcur, hrcur⟩ := ownsRow_at HRO.out hrob
          have frg : wr.frozen? ⟨rg, j, none⟩ = false := frozen_of_heap hrcur
          obtain ⟨w5, hw5⟩ : ∃ w5, w5 = wr.setCell ⟨rg, j, none⟩ (.int .i64 (rj - 1)) := ⟨_, rfl⟩
          have hroom := HT.out.room (j := j) (rg := rg) (z := rj - 1) hjr hrm
          rw [← hw5] at hroom
          have HT5 := Lib.hid (show TnAt w5 w0.heap.size p (T.emit (r.set j (rj - 1)) es eA eC) from hroom.1)
          have hur : Upd (fun q => q = rg) wr w5 := by rw [hw5]; exact upd_own _ _ _ _
          have HX5 := Lib.hid ((hur.block b (lt_of_heap HX.out) (fun e => own_neT HRO.out HX.out (by decide) rg hrob e.symm)).trans HX.out)
          have HCH5 := Lib.hid (ownsRow_any HCH.out hur (fun q hq e => HAP.out q hq (by subst e; rw [← HRB.out.1]; exact hrob)))
          have HUT5 := Lib.hid (HUT.out.trans (hur.mono (fun q hq e => ⟨_, _, _, by subst e; exact hrcur, .inr (.inl rfl)⟩)))
          have HU5 := Lib.hid (HU.out.cut hur (fun q hq => by subst hq; exact (World.ownsRow.lt HRO.out _ hrob).1))
          have HRB5 := Lib.hid (show (r.set j (rj - 1)).length = T.rooms.length ∧ ∀ x ∈ r.set j (rj - 1), 0 ≤ x ∧ x ≤ 9223372036854775807 from ⟨by rw [List.length_set]; exact HRB.out.1, fun x hx => by
            rcases List.mem_or_eq_of_mem_set hx with h1 | h1
            · exact HRB.out.2 x h1
            · omega⟩)
          have HEO := Lib.hid (show w5.ownsRow w0.heap.size 97 6 (.slice eA es.length eC) es.length (es.map EmV.cells).flatten from HT5.out.ems)
          have HNP := Lib.hid (fun (e : (Value.slice eA es.length eC).ownBlock = some p) => own_ne HEO.out HT5.out.blk (by decide) p e rfl)
          have HNB := Lib.hid (fun (e : (Value.slice eA es.length eC).ownBlock = some b) => own_neT HEO.out HX5.out (by decide) b e rfl)
          have HBW := Lib.hid (show w0.heap.size ≤ w5.heap.size from Nat.le_trans (Nat.le_trans HU.out.size hur.size) (Nat.le_refl _))
          clear hrj hrob hrcur hroom hur HRO hbd hi HIL
          go_upto_region 8 with fail
          rw [← hw5]
          clear hw5 crj frg hww x31 x32 x33 hrm hz' hz
          obtain ⟨q0, q1', q2, q3, q4, q5, q6, q7, hmap5⟩ := eight HT5.out.o8
          obtain ⟨-, -, -, -, -, -, -, -, -, -, -, -, -, -, -, -, -, -, -, -, -, -, -, -, -, -, -, -, -, -, -, -, -, x33, -⟩ := TnV.at hmap5 HT5.out.blk
          have X33 := Lib.hid (show w5.cell? ⟨p, 33, none⟩ = some (.slice eA es.length eC) from x33)
          clear x33 hmap5
          have hA : Upd (fun q => (Value.slice eA es.length eC).ownBlock = some q) w5 w5.drew := (Upd.refl _ _).drew
          have HAw := Lib.hid (show Upd0 w5 w5.drew from (Upd.refl _ _).drew)
          refine wp_region_G 14 (fun W => Upd (fun q => (Value.slice eA es.length eC).ownBlock = some q) w5 W) [false, false, false, false, false, false, false, false, false, false, false, false, false, false, false] rfl (by kernel_rfl) ?_
          generalize w5.drew = we at hA HAw ⊢
          refine wpG_takeT (i := 0) (v := .pointer (some ⟨p, 0, none⟩)) rfl (fun L hc h => (hc.waits (n := 14) (i := 0) (by kernel_rfl) h)) (by kernel_rfl) (fun _ _ _ h => h) hA (.inl ⟨rfl, fun w5 q1 => ?_⟩) ?_
          · go_simp
          simp only [Act.put, List.setIfInBounds_toArray, List.set]
          refine wpG_takeT (i := 1) (v := .pointer (some ⟨p, 0, none⟩)) rfl (fun L hc h => (hc.waits (n := 14) (i := 1) (by kernel_rfl) h)) (by kernel_rfl) (fun _ _ _ h => h) hA (.inl ⟨rfl, fun w5 q1 => ?_⟩) ?_
          · go_simp
          simp only [Act.put, List.setIfInBounds_toArray, List.set]
          refine wpG_takeT (i := 2) (v := .pointer (some ⟨p, 0, none⟩)) rfl (fun L hc h => (hc.waits (n := 14) (i := 2) (by kernel_rfl) h)) (by kernel_rfl) (fun _ _ _ h => h) hA (.inl ⟨rfl, fun w5 q1 => ?_⟩) ?_
          · go_simp
          simp only [Act.put, List.setIfInBounds_toArray, List.set]
          refine wpG_takeT (i := 3) (v := .pointer (some ⟨p, 33, none⟩)) rfl (fun L hc h => (hc.waits (n := 14) (i := 3) (by kernel_rfl) h)) (by kernel_rfl) (fun _ _ _ h => h) hA (.inl ⟨rfl, fun w5 q1 => ?_⟩) ?_
          · go_simp
          simp only [Act.put, List.setIfInBounds_toArray, List.set]
          refine wpG_takeT (i := 4) (v := .pointer (some ⟨p, 33, none⟩)) rfl (fun L hc h => (hc.waits (n := 14) (i := 4) (by kernel_rfl) h)) (by kernel_rfl) (fun _ _ _ h => h) hA (.inl ⟨rfl, fun w5 q1 => ?_⟩) ?_
          · go_simp
          simp only [Act.put, List.setIfInBounds_toArray, List.set]
          refine wpG_takeT (i := 5) (v := .slice eA es.length eC) rfl (fun L hc h => (hc.waits (n := 14) (i := 5) (by kernel_rfl) h)) (by kernel_rfl) (fun _ _ _ h => h) hA (.inl ⟨rfl, fun w5 q1 => ?_⟩) ?_
          · have x33 := cell_keptF q1 HNP.out X33.out
            go_simp
          simp only [Act.put, List.setIfInBounds_toArray, List.set]
          refine wpG_takeT (i := 6) (v := .int .i64 c) rfl (fun L hc h => (hc.waits (n := 14) (i := 6) (by kernel_rfl) h)) (by kernel_rfl) (fun _ _ _ h => h) hA (.inl ⟨rfl, fun w5 q1 => ?_⟩) ?_
          · go_simp
          simp only [Act.put, List.setIfInBounds_toArray, List.set]
          refine wpG_takeT (i := 7) (v := .agg #[.int .i64 el.kind, .int .i64 el.rec'.src, .int .i64 el.rec'.key, .int .i64 el.rec'.val, .int .u64 el.num]) rfl (fun L hc h => (hc.waits (n := 14) (i := 7) (by kernel_rfl) h)) (by kernel_rfl) (fun _ _ _ h => h) hA (.inl ⟨rfl, fun w5 q1 => ?_⟩) ?_
          · obtain ⟨c0, c1, c2, c3, c4⟩ := cells5_of ((q1.block b (lt_of_heap HX5.out) HNB.out).trans HX5.out)
            go_simp
          simp only [Act.put, List.setIfInBounds_toArray, List.set]
          refine wpG_takeT (i := 8) (v := .agg #[.int .i64 c, .int .i64 el.kind, .int .i64 el.rec'.src, .int .i64 el.rec'.key, .int .i64 el.rec'.val, .int .u64 el.num]) rfl (fun L hc h => (hc.waits (n := 14) (i := 8) (by kernel_rfl) h)) (by kernel_rfl) (fun _ _ _ h => h) hA (.inl ⟨rfl, fun w5 q1 => ?_⟩) ?_
          · go_simp
          simp only [Act.put, List.setIfInBounds_toArray, List.set]
          refine wpG_doIf (i := 9) rfl (by kernel_rfl) rfl (fun K hK => ?_)
          have HKK := Lib.hid hK
          clear hK
          go_step
          obtain ⟨w8, hw8⟩ : ∃ w8, w8 = World.alloc we (.cells #[.int .i64 c, .int .i64 el.kind, .int .i64 el.rec'.src, .int .i64 el.rec'.key, .int .i64 el.rec'.val, .int .u64 el.num] 97) := ⟨_, rfl⟩
          have hA9 : Upd (fun q => (Value.slice eA es.length eC).ownBlock = some q) w5 w8 := by rw [hw8]; exact hA.alloc _
          have hv8 : w8.heap[we.heap.size]? = some (.cells #[.int .i64 c, .int .i64 el.kind, .int .i64 el.rec'.src, .int .i64 el.rec'.key, .int .i64 el.rec'.val, .int .u64 el.num] 97 (0, 0)) := by rw [hw8]; exact alloc_at (w := we) rfl
          have HU8 := Lib.hid (show Upd0 w5 w8 by rw [hw8]; exact HAw.out.alloc _)
          have hrow8 : Row 6 w8 (some ⟨we.heap.size, 0, none⟩) [[.int .i64 c, .int .i64 el.kind, .int .i64 el.rec'.src, .int .i64 el.rec'.key, .int .i64 el.rec'.val, .int .u64 el.num]] := row_flat (by simpa using hv8) (fun y hy => by simp only [List.mem_singleton] at hy; rw [hy]; rfl)
          rw [← hw8]
          clear hw8 hv8
          refine HKK.out _ _ hA9 ?_
          clear HKK
          simp only [Act.put, List.setIfInBounds_toArray, List.set]
          refine wpG_doIf (i := 10) rfl (by kernel_rfl) rfl (fun K hK => ?_)
          have HKK := Lib.hid hK
          clear hK
          obtain ⟨i0, hi0, hz0, hs0, hb0⟩ := info_parts infoEm
          refine wp_appR (.tmp 48) (.tmp 52) 77 rfl w0.heap.size 97 i0 (.agg #[.int .i64 0, .int .i64 0, .int .i64 0, .int .i64 0, .int .i64 0, .int .u64 0]) 6 48 Tryz.underlying77 hi0 hz0 hs0 hb0 rfl (by decide) (.slice eA es.length eC) es.length (es.map EmV.cells).flatten rfl (ownsRow_any HEO.out HU8.out (fun _ _ e => e)) (some ⟨we.heap.size, 0, none⟩) 1 1 [[.int .i64 c, .int .i64 el.kind, .int .i64 el.rec'.src, .int .i64 el.rec'.key, .int .i64 el.rec'.val, .int .u64 el.num]] rfl hrow8 rfl (fun u hu => by simp at hu; rcases hu with rfl | rfl | rfl | rfl | rfl | rfl <;> rfl) (by unfold maxLen; omega) (by omega) (Nat.le_trans HBW.out HU8.out.size) ?_
          clear hi0 hz0 hs0 hb0
          intro v' w9 hown hu9
          obtain ⟨g4, cap4, rfl⟩ := ownsRow_succ hown
          have hA10 : Upd (fun q => (Value.slice eA es.length eC).ownBlock = some q) w5 w9 := hA9.trans hu9
          clear hu9 hrow8
          refine HKK.out _ _ hA10 ?_
          clear HKK
          simp only [Act.put, List.setIfInBounds_toArray, List.set]
          refine wpG_takeT (i := 11) (v := .pointer (some ⟨p, 0, none⟩)) rfl (fun L hc h => (hc.waits (n := 14) (i := 13) (by kernel_rfl) (hc.waits (n := 13) (i := 12) (by kernel_rfl) (hc.waits (n := 12) (i := 11) (by kernel_rfl) h)))) (by kernel_rfl) (fun _ _ _ h => h) hA10 (.inl ⟨rfl, fun w5 q1 => ?_⟩) ?_
          · go_simp
          simp only [Act.put, List.setIfInBounds_toArray, List.set]
          refine wpG_takeT (i := 12) (v := .pointer (some ⟨p, 33, none⟩)) rfl (fun L hc h => (hc.waits (n := 14) (i := 13) (by kernel_rfl) (hc.waits (n := 13) (i := 12) (by kernel_rfl) h))) (by kernel_rfl) (fun _ _ _ h => h) hA10 (.inl ⟨rfl, fun w5 q1 => ?_⟩) ?_
          · go_simp
          simp only [Act.put, List.setIfInBounds_toArray, List.set]
          refine wpG_takeT (i := 13) (v := .pointer (some ⟨p, 33, none⟩)) rfl (fun L hc h => (hc.waits (n := 14) (i := 13) (by kernel_rfl) h)) (by kernel_rfl) (fun _ _ _ h => h) hA10 (.inl ⟨rfl, fun w5 q1 => ?_⟩) ?_
          · go_simp
          simp only [Act.put, List.setIfInBounds_toArray, List.set]
          refine wpG_tail_lit (k := 14) rfl rfl (by kernel_rfl) ?_
          simp only [List.drop]
          have HM := Lib.hid (show TnAt (w9.setCell ⟨p, 33, none⟩ (.slice (some ⟨g4, 0, none⟩) (es.length + 1) cap4)) w0.heap.size p (T.emit (r.set j (rj - 1)) (es ++ [⟨c, el⟩]) (some ⟨g4, 0, none⟩) cap4) from HT5.out.more (x := ⟨c, el⟩) (show w9.ownsRow w0.heap.size 97 6 (.slice (some ⟨g4, 0, none⟩) (es.length + 1) cap4) (es.length + 1) ((es.map EmV.cells).flatten ++ (EmV.mk c el).cells) by simpa [EmV.cells, ElV.cells] using hown) hA10)
          have HCH9 := Lib.hid (ownsRow_any HCH5.out hA10 (fun q hq e => own_two HCH5.out HEO.out (by decide) q hq e))
          have HX9 := Lib.hid ((hA10.block b (lt_of_heap HX5.out) HNB.out).trans HX5.out)
          have HUT9 := Lib.hid (HUT5.out.trans (hA10.mono (fun q hq e => by obtain ⟨cur, hcur⟩ := ownsRow_at HEO.out e; exact ⟨_, _, _, hcur, .inr (.inr rfl)⟩)))
          have HU9 := Lib.hid (HU5.out.cut hA10 (fun q hq => (World.ownsRow.lt HEO.out q hq).1))
          have x33 := cell_keptF hA10 HNP.out X33.out
          have hblk9 := (hA10.block p (lt_of_heap HT5.out.blk) HNP.out).trans HT5.out.blk
          have f33 : w9.frozen? ⟨p, 33, none⟩ = false := frozen_of_heap hblk9
          have HB9 := Lib.hid hblk9
          clear hA hA10 hown hblk9
          go_wp2
          go_roundw
          case rel =>
            have hu2 := upd_own w9 p 33 (.slice (some ⟨g4, 0, none⟩) (es.length + 1) cap4)
            refine ⟨k + 1, r.set j (rj - 1), es ++ [⟨c, el⟩], some ⟨g4, 0, none⟩, cap4, by omega, by go_num, by simp; omega, HM, HER3, ?_, ?_, ?_, Lib.hid (HUT9.out.trans (hu2.mono (fun q hq e => ⟨_, _, _, by subst e; exact HB9.out, .inl rfl⟩))), HRB5⟩
            · exact Lib.hid ((set_ne (by show b ≠ p; intro e; have h1 := HX9.out; have h2 := HB9.out; rw [e, h2] at h1; injection h1 with h1; injection h1 with _ h1; exact absurd h1 (by decide))).trans HX9.out)
            · exact Lib.hid (ownsRow_any HCH9.out hu2 (own_ne HCH9.out HB9.out (by decide)))
            · exact Lib.hid (HU9.out.cut hu2 (fun q hq => by have := HP.out; omega))
          case measure => simp [intOf]; omega
    · obtain rfl : k = chs.length := by omega
      have he := HER.out
      rw [List.drop_of_length_le (Nat.le_refl _), emitR] at he
      have HE := Lib.hid he
      clear he HER
      go_wp2
      go_ret
      refine ⟨by rw [← HE.out]; rfl, eA, eC, ?_, HU.out, HUT.out⟩
      rw [← HE.out]
      exact HT.out
end Go.Proofs.YtbonfdkgkcbkmaaGreat
end

section
namespace Go.Proofs.YtbonfdkgkcbkmaaGreat
set_option maxRecDepth 100000
open Go.RowKit Go.Shelf

attribute [local go_sem] Oper.semAt_some
theorem thoseL_le {p : LkV → Bool} {os : List OpM} (hck : (chkG os).2 = 0) (hol : os.length ≤ 50) : (thoseL p os).length ≤ 2500000000 := by
  have h1 := linksL_le hol (chkG_wide hck)
  have h2 := keepL_len p (numK (linksL os))
  rw [numK_len] at h2
  unfold thoseL
  omega
theorem RouteR_le {os : List OpM} {n : Int} {r : RecV} (hol : os.length ≤ 50) : (RouteR os n r).1.length ≤ 2500000000 := by
  unfold RouteR
  split
  · simp
  · rename_i h
    split
    · simp
    · split
      · simp
      · show (rtL os n r).length ≤ _
        unfold rtL
        exact thoseL_le (by omega) hol
/-- What holds of a turn: its rooms are as many as its channels, none less than nothing. -/
structure TnOk (T : TnV) : Prop where
  len : T.rooms.length = T.out.length
  ol : T.out.length ≤ 1000000
  el : T.ems.length ≤ 1000000
  rb : ∀ r ∈ T.rooms, 0 ≤ r ∧ r ≤ 9223372036854775807
/-- What comes of passing a record on. -/
def recordR (T : TnV) (r : RecV) : List Int × List EmV × Int := if (RouteR T.t.os T.t.sub r).2 ≠ 0 then (T.rooms, T.ems, (RouteR T.t.os T.t.sub r).2) else emitR T.out ⟨1, r, 0⟩ T.rooms T.ems (RouteR T.t.os T.t.sub r).1
set_option maxHeartbeats 16000000 in
theorem record_any {w0 : World} {p : Nat} {T : TnV} (r : RecV) (w : World) (h : TnAt w w0.heap.size p T) (hp : w0.heap.size ≤ p) (h0 : TkIn w0 T.t) (hu : Upd0 w0 w) (hok : TnOk T) :
    Calls Tryz.prog 170 #[.pointer (some ⟨p, 0, none⟩), .agg #[.int .i64 r.src, .int .i64 r.key, .int .i64 r.val]] w fun e w' => e = .returned (.int .i64 (recordR T r).2.2) ∧ ∃ eA eC, TnAt w' w0.heap.size p (T.emit (recordR T r).1 (recordR T r).2.1 eA eC) ∧ Upd0 w0 w' := by
  obtain ⟨b, hb⟩ : ∃ b, b = w.heap.size := ⟨_, rfl⟩
  obtain ⟨w1, hw1⟩ : ∃ w1, w1 = w.alloc (.cells #[.int .i64 r.src, .int .i64 r.key, .int .i64 r.val] 36) := ⟨_, rfl⟩
  have hu1 : Upd0 w w1 := by rw [hw1]; exact (Upd.refl _ w).alloc _
  have HX := Lib.hid (show w1.heap[b]? = some (.cells #[.int .i64 r.src, .int .i64 r.key, .int .i64 r.val] 36 (0, 0)) by rw [hw1]; exact alloc_at hb)
  have H1 := Lib.hid (h.kept hu1); have HU1 := Lib.hid (hu.trans hu1); have HP := Lib.hid hp; have HOK := Lib.hid hok
  have HRT := Lib.hid (fun (W : World) (hW : Upd0 w0 W) => plroute_any (oc := T.t.oc) T.t.sub r W (h0.ops.kept hW) h0.ol h0.oc1 h0.oc2)
  have HLE := Lib.hid (RouteR_le (n := T.t.sub) (r := r) h0.ol)
  obtain ⟨o0, o1, o2, o3, o4, o5, o6, o7, hmap⟩ := eight h.o8
  have HMAP := Lib.hid hmap
  have HRR := Lib.hid (recordR.eq_1 T r)
  obtain ⟨rr, hrr⟩ : ∃ rr, rr = recordR T r := ⟨_, rfl⟩
  rw [← hrr] at HRR ⊢
  obtain ⟨ro, hro⟩ : ∃ ro, ro = RouteR T.t.os T.t.sub r := ⟨_, rfl⟩
  rw [← hro] at HRT HLE HRR
  obtain ⟨rl, re⟩ := ro
  simp only at HRT HLE HRR
  clear h hp h0 hu hok hu1 hmap hrr hro
  go_enter Tryz.func170, Tryz.ntmps170
  go_upto_region 1 with fail
  rw [← hw1, ← hb]
  clear hw1 hb
  have hA : Upd0 w1 w1.drew := (Upd.refl _ _).drew
  refine wp_region_G 16 (fun W => Upd0 w1 W) [false, false, false, false, false, false, false, false, false, false, false, false, false, false, false, false, false] rfl (by kernel_rfl) ?_
  generalize w1.drew = we at hA ⊢
  refine wpG_takeT (i := 0) (v := .pointer (some ⟨p, 0, none⟩)) rfl (fun L hc h => (hc.waits (n := 16) (i := 0) (by kernel_rfl) h)) (by kernel_rfl) (fun _ _ _ h => h) hA (.inl ⟨rfl, fun w5 q1 => ?_⟩) ?_
  · go_simp
  simp only [Act.put, List.setIfInBounds_toArray, List.set]
  refine wpG_takeT (i := 1) (v := .pointer (some ⟨p, 0, none⟩)) rfl (fun L hc h => (hc.waits (n := 16) (i := 1) (by kernel_rfl) h)) (by kernel_rfl) (fun _ _ _ h => h) hA (.inl ⟨rfl, fun w5 q1 => ?_⟩) ?_
  · go_simp
  simp only [Act.put, List.setIfInBounds_toArray, List.set]
  refine wpG_takeT (i := 2) (v := .pointer (some ⟨p, 0, none⟩)) rfl (fun L hc h => (hc.waits (n := 16) (i := 2) (by kernel_rfl) h)) (by kernel_rfl) (fun _ _ _ h => h) hA (.inl ⟨rfl, fun w5 q1 => ?_⟩) ?_
  · go_simp
  simp only [Act.put, List.setIfInBounds_toArray, List.set]
  refine wpG_takeT (i := 3) (v := .pointer (some ⟨p, 0, none⟩)) rfl (fun L hc h => (hc.waits (n := 16) (i := 3) (by kernel_rfl) h)) (by kernel_rfl) (fun _ _ _ h => h) hA (.inl ⟨rfl, fun w5 q1 => ?_⟩) ?_
  · go_simp
  simp only [Act.put, List.setIfInBounds_toArray, List.set]
  refine wpG_takeT (i := 4) (v := .agg #[.slice T.t.oa T.t.os.length T.t.oc]) rfl (fun L hc h => (hc.waits (n := 16) (i := 4) (by kernel_rfl) h)) (by kernel_rfl) (fun _ _ _ h => h) hA (.inl ⟨rfl, fun w5 q1 => ?_⟩) ?_
  · obtain ⟨x0, -, -, -, -, -, -, -, -, -, -, -, -, -, -, -, -, -, -, -, -, -, -, -, -, -, -, -, -, -, -, -, -, -, -⟩ := TnV.at HMAP.out ((q1.block p (lt_of_heap H1.out.blk) (fun e => e)).trans H1.out.blk)
    go_simp
  simp only [Act.put, List.setIfInBounds_toArray, List.set]
  refine wpG_takeT (i := 5) (v := .pointer (some ⟨p, 0, none⟩)) rfl (fun L hc h => (hc.waits (n := 16) (i := 5) (by kernel_rfl) h)) (by kernel_rfl) (fun _ _ _ h => h) hA (.inl ⟨rfl, fun w5 q1 => ?_⟩) ?_
  · go_simp
  simp only [Act.put, List.setIfInBounds_toArray, List.set]
  refine wpG_takeT (i := 6) (v := .pointer (some ⟨p, 0, none⟩)) rfl (fun L hc h => (hc.waits (n := 16) (i := 6) (by kernel_rfl) h)) (by kernel_rfl) (fun _ _ _ h => h) hA (.inl ⟨rfl, fun w5 q1 => ?_⟩) ?_
  · go_simp
  simp only [Act.put, List.setIfInBounds_toArray, List.set]
  refine wpG_takeT (i := 7) (v := .pointer (some ⟨p, 0, none⟩)) rfl (fun L hc h => (hc.waits (n := 16) (i := 7) (by kernel_rfl) h)) (by kernel_rfl) (fun _ _ _ h => h) hA (.inl ⟨rfl, fun w5 q1 => ?_⟩) ?_
  · go_simp
  simp only [Act.put, List.setIfInBounds_toArray, List.set]
  refine wpG_takeT (i := 8) (v := .pointer (some ⟨p, 1, none⟩)) rfl (fun L hc h => (hc.waits (n := 16) (i := 8) (by kernel_rfl) h)) (by kernel_rfl) (fun _ _ _ h => h) hA (.inl ⟨rfl, fun w5 q1 => ?_⟩) ?_
  · go_simp
  simp only [Act.put, List.setIfInBounds_toArray, List.set]
  refine wpG_takeT (i := 9) (v := .int .i64 T.t.sub) rfl (fun L hc h => (hc.waits (n := 16) (i := 9) (by kernel_rfl) h)) (by kernel_rfl) (fun _ _ _ h => h) hA (.inl ⟨rfl, fun w5 q1 => ?_⟩) ?_
  · obtain ⟨-, x1, -, -, -, -, -, -, -, -, -, -, -, -, -, -, -, -, -, -, -, -, -, -, -, -, -, -, -, -, -, -, -, -, -⟩ := TnV.at HMAP.out ((q1.block p (lt_of_heap H1.out.blk) (fun e => e)).trans H1.out.blk)
    go_simp
  simp only [Act.put, List.setIfInBounds_toArray, List.set]
  refine wpG_takeT (i := 10) (v := .agg #[.int .i64 r.src, .int .i64 r.key, .int .i64 r.val]) rfl (fun L hc h => (hc.waits (n := 16) (i := 10) (by kernel_rfl) h)) (by kernel_rfl) (fun _ _ _ h => h) hA (.inl ⟨rfl, fun w5 q1 => ?_⟩) ?_
  · obtain ⟨c0, c1, c2⟩ := cells3_of ((q1.block _ (lt_of_heap HX.out) (fun e => e)).trans HX.out)
    go_simp
  simp only [Act.put, List.setIfInBounds_toArray, List.set]
  refine wpG_doIf (i := 11) rfl (by kernel_rfl) rfl (fun K hK => ?_)
  have HKK := Lib.hid hK
  clear hK
  go_step
  refine (HRT.out _ (HU1.out.trans hA)).mono ?_
  rintro _ w2 ⟨a2, c2, rfl, ho2, hu2⟩
  have hA2 := hA.trans hu2
  clear hu2
  simp only []
  refine HKK.out _ _ hA2 ?_
  clear HKK
  simp only [Act.put, List.setIfInBounds_toArray, List.set]
  refine wpG_takeT (i := 12) (v := .tuple #[.slice a2 rl.length c2, .int .i64 re]) rfl (fun L hc h => (hc.waits (n := 16) (i := 12) (by kernel_rfl) h)) (by kernel_rfl) (fun _ _ _ h => h) hA2 (.inl ⟨rfl, fun w5 q1 => ?_⟩) ?_
  · go_simp
  simp only [Act.put, List.setIfInBounds_toArray, List.set]
  refine wpG_takeT (i := 13) (v := .slice a2 rl.length c2) rfl (fun L hc h => (hc.waits (n := 16) (i := 13) (by kernel_rfl) h)) (by kernel_rfl) (fun _ _ _ h => h) hA2 (.inl ⟨rfl, fun w5 q1 => ?_⟩) ?_
  · go_simp
  simp only [Act.put, List.setIfInBounds_toArray, List.set]
  refine wpG_takeT (i := 14) (v := .int .i64 re) rfl (fun L hc h => (hc.waits (n := 16) (i := 14) (by kernel_rfl) h)) (by kernel_rfl) (fun _ _ _ h => h) hA2 (.inl ⟨rfl, fun w5 q1 => ?_⟩) ?_
  · go_simp
  simp only [Act.put, List.setIfInBounds_toArray, List.set]
  refine wpG_takeT (i := 15) (v := .slice a2 rl.length c2) rfl (fun L hc h => (hc.waits (n := 16) (i := 15) (by kernel_rfl) h)) (by kernel_rfl) (fun _ _ _ h => h) hA2 (.inl ⟨rfl, fun w5 q1 => ?_⟩) ?_
  · go_simp
  simp only [Act.put, List.setIfInBounds_toArray, List.set]
  refine wpG_tail_lit (k := 16) rfl rfl (by kernel_rfl) ?_
  simp only [List.drop]
  have HO2 := Lib.hid ho2
  have HU2 := Lib.hid (HU1.out.trans hA2)
  have HX2 := Lib.hid ((hA2.block _ (lt_of_heap HX.out) (fun e => e)).trans HX.out)
  have H2 := Lib.hid (H1.out.kept hA2)
  have HAP := Lib.hid (fun (q : Nat) (e1 : (Value.slice a2 rl.length c2).ownBlock = some q) (e2 : (Value.slice T.rmA T.rooms.length T.rmC).ownBlock = some q) => show False by
    have h1 := (World.ownsRow.lt ho2 q e1).1
    have h2 := (World.ownsRow.lt H1.out.rooms q e2).2
    have h3 := hA.size
    omega)
  clear ho2 hA hA2 HRT
  obtain ⟨c0, c1, c2'⟩ := cells3_of HX2.out
  by_cases hz : re = 0
  · subst hz
    rw [if_neg (by simp)] at HRR
    have HEM := Lib.hid (emit_any ⟨1, r, 0⟩ w2 H2.out HP.out HU2.out (ownsRow_low HO2.out (Nat.zero_le _)) HAP.out HOK.out.len HOK.out.ol HLE.out HOK.out.el HOK.out.rb)
    obtain ⟨er, her⟩ : ∃ er, er = emitR T.out ⟨1, r, 0⟩ T.rooms T.ems rl := ⟨_, rfl⟩
    rw [← her] at HEM HRR
    clear her
    go_wp2_with (go_at_call 148; fail)
    refine HEM.out.mono ?_
    rintro _ w3 ⟨rfl, eA, eC, ht3, hu3, -⟩
    have HT3 := Lib.hid ht3; have HU3 := Lib.hid hu3
    clear ht3 hu3 HEM
    simp only []
    go_wp2
    go_ret
    rw [HRR.out]
    first
    | exact ⟨rfl, eA, eC, HT3.out, HU3.out⟩
    | exact ⟨rfl, ⟨eA, eC, HT3.out⟩, HU3.out⟩
  · rw [if_pos hz] at HRR
    have hz' : (re != 0) = true := by simpa using hz
    have HFI := Lib.hid (show TnAt w2 w0.heap.size p (T.emit rr.1 rr.2.1 T.emA T.emC) by rw [HRR.out]; exact H2.out)
    go_wp2
    go_ret
    first
    | exact ⟨by rw [HRR.out]; rfl, T.emA, T.emC, HFI.out, HU2.out⟩
    | exact ⟨by rw [HRR.out]; rfl, ⟨T.emA, T.emC, HFI.out⟩, HU2.out⟩
/-- A turn that has ended. -/
def TnV.ended (T : TnV) : TnV := { T with t := { T.t with fin := true }, fin := true }
set_option maxHeartbeats 32000000 in
theorem end_any {w0 : World} {p : Nat} {T : TnV} (el : ElV) (w : World) (h : TnAt w w0.heap.size p T) (hp : w0.heap.size ≤ p) (hu : Upd0 w0 w) (hok : TnOk T) (ht : T.o.tag ≠ 7) :
    Calls Tryz.prog 169 #[.pointer (some ⟨p, 0, none⟩), .agg #[.int .i64 el.kind, .int .i64 el.rec'.src, .int .i64 el.rec'.key, .int .i64 el.rec'.val, .int .u64 el.num]] w fun e w' => e = .returned (.int .i64 (emitR T.out el T.rooms T.ems T.out).2.2) ∧ ∃ eA eC, TnAt w' w0.heap.size p (T.ended.emit (emitR T.out el T.rooms T.ems T.out).1 (emitR T.out el T.rooms T.ems T.out).2.1 eA eC) ∧ Upd0 w0 w' := by
  obtain ⟨b, hb⟩ : ∃ b, b = w.heap.size := ⟨_, rfl⟩
  obtain ⟨w1, hw1⟩ : ∃ w1, w1 = w.alloc (.cells #[.int .i64 el.kind, .int .i64 el.rec'.src, .int .i64 el.rec'.key, .int .i64 el.rec'.val, .int .u64 el.num] 95) := ⟨_, rfl⟩
  have hu1 : Upd0 w w1 := by rw [hw1]; exact (Upd.refl _ w).alloc _
  have HX := Lib.hid (show w1.heap[b]? = some (.cells #[.int .i64 el.kind, .int .i64 el.rec'.src, .int .i64 el.rec'.key, .int .i64 el.rec'.val, .int .u64 el.num] 95 (0, 0)) by rw [hw1]; exact alloc_at hb)
  have H1 := Lib.hid (h.kept hu1); have HU1 := Lib.hid (hu.trans hu1); have HP := Lib.hid hp; have HOK := Lib.hid hok
  have HRE := Lib.hid (ready_any w1 H1.out ht)
  obtain ⟨er, her⟩ : ∃ er, er = emitR T.out el T.rooms T.ems T.out := ⟨_, rfl⟩
  have HER := Lib.hid her
  rw [← her]
  clear h hp hu hok hu1 her ht
  go_enter Tryz.func169, Tryz.ntmps169
  go_upto_region 1 with fail
  rw [← hw1, ← hb]
  clear hw1 hb
  go_wp2_with (go_at_call 147; fail)
  (with_reducible refine HRE.out.mono ?_)
  rintro _ w2 ⟨rfl, hu2⟩
  have HU2 := Lib.hid (HU1.out.trans hu2)
  have HX2 := Lib.hid ((hu2.block _ (lt_of_heap HX.out) (fun e => e)).trans HX.out)
  have H2 := Lib.hid (H1.out.kept hu2)
  clear hu2 HRE H1 HX HU1
  simp only []
  obtain ⟨o0, o1, o2, o3, o4, o5, o6, o7, hmap⟩ := eight H2.out.o8
  obtain ⟨-, -, -, -, -, -, -, -, -, -, -, -, -, -, -, -, -, -, -, -, -, -, -, x23, -, -, -, -, -, -, -, -, -, -, -⟩ := TnV.at hmap H2.out.blk
  have f23 : w2.frozen? ⟨p, 23, none⟩ = false := frozen_of_heap H2.out.blk
  have f50 : w2.frozen? ⟨p, 50, none⟩ = false := frozen_of_heap H2.out.blk
  have x50 : w2.cell? ⟨p, 50, none⟩ = some (.bool T.fin) := by
    rw [cell_of_heap H2.out.blk, List.getElem?_toArray, show T.cells = (T.t.cells ++ T.mid ++ T.snap ++ [.int .u64 T.num]) ++ [.bool T.fin] by simp [TnV.cells], List.getElem?_append_right (by simp [TkV.clen H2.out.o8, TnV.mid, H2.out.snl.1])]
    simp [TkV.clen H2.out.o8, TnV.mid, H2.out.snl.1]
  obtain ⟨T1, hT1⟩ : ∃ T1 : TnV, T1 = { T with t := { T.t with fin := true } } := ⟨_, rfl⟩
  have hl1 := H2.out.lay (T' := T1) (A := [.slice T.t.oa T.t.os.length T.t.oc, .int .i64 T.t.sub, .int .i64 T.t.att, .int .i64 T.t.inp.src, .slice T.t.inp.ra T.t.inp.recs.length T.t.inp.rc, .int .i64 o0, .int .i64 o1, .int .i64 o2, .int .i64 o3, .int .i64 o4, .int .i64 o5, .int .i64 o6, .int .i64 o7, .slice T.t.qa T.t.qs.length T.t.qc, .int .u64 T.t.num, .int .u64 T.t.gd, .slice T.t.ta T.t.rows.length T.t.tc, .int .i64 T.t.snk.sub, .int .i64 T.t.snk.att, .int .i64 T.t.snk.ser, .bool T.t.snk.opn, .slice T.t.snk.na T.t.snk.names.length T.t.snk.nc, .int .u64 T.t.done]) (X := [.bool T.t.fin]) (Y := [.bool true]) (C := [.int .i64 T.o.tag, .int .i64 T.o.width, .slice T.o.ia T.o.ins.length T.o.ic, .int .i64 T.o.a, .int .i64 T.o.b, .int .i64 T.s.1, .int .i64 T.s.2, .slice T.outA T.out.length T.outC, .slice T.rmA T.rooms.length T.rmC, .slice T.emA T.ems.length T.emC, .slice T.acA T.acN T.acC] ++ (T.snap ++ [.int .u64 T.num, .bool T.fin])) (n := 23) (by rw [TnV.lit hmap]; rfl) (by rw [TnV.lit (T := T1) (by rw [hT1]; exact hmap), hT1]; rfl) rfl rfl (by rw [hT1]; exact H2.out.o8) (by rw [hT1]; exact H2.out.snl) (by rw [hT1]; exact ⟨rfl, rfl, rfl⟩) (by rw [hT1]; exact ⟨rfl, rfl, rfl⟩) (by rw [hT1]; exact ⟨rfl, rfl, rfl⟩)
  have hl2 := hl1.1.lay (T' := T.ended) (A := T1.t.cells ++ T1.mid ++ T1.snap ++ [.int .u64 T1.num]) (X := [.bool T1.fin]) (Y := [.bool true]) (C := []) (n := 50) (by simp [TnV.cells]) (by rw [hT1]; simp [TnV.cells, TnV.ended, TnV.mid]) rfl (by rw [hT1]; simp [TkV.clen (t := { T.t with fin := true }) H2.out.o8, TnV.mid, H2.out.snl.1]) H2.out.o8 H2.out.snl (by rw [hT1]; exact ⟨rfl, rfl, rfl⟩) (by rw [hT1]; exact ⟨rfl, rfl, rfl⟩) (by rw [hT1]; exact ⟨rfl, rfl, rfl⟩)
  obtain ⟨w3, hw3⟩ : ∃ w3, w3 = (w2.setCell ⟨p, 23, none⟩ (.bool true)).setCell ⟨p, 50, none⟩ (.bool true) := ⟨_, rfl⟩
  have hs : (w2.setCells p 23 [.bool true]).setCells p 50 [.bool true] = w3 := by rw [hw3]; rfl
  have hup := hl1.2.trans hl2.2
  rw [hs] at hl2 hup
  have H3 := Lib.hid hl2.1
  have HU3 := Lib.hid (HU2.out.cut hup (fun q hq => by have := HP.out; omega))
  have HX3 := Lib.hid ((hup.block b (lt_of_heap HX2.out) (fun e => by have h1 := HX2.out; have h2 := H2.out.blk; rw [e, h2] at h1; injection h1 with h1; injection h1 with _ h1; exact absurd h1 (by decide))).trans HX2.out)
  clear hl1 hl2 hs hup hT1 hmap
  go_upto_region 5 with fail
  rw [← hw3]
  clear hw3 x23 x50 f23 f50
  obtain ⟨o0, o1, o2, o3, o4, o5, o6, o7, hmap⟩ := eight H3.out.o8
  have HMAP := Lib.hid hmap
  have hA : Upd0 w3 w3.drew := (Upd.refl _ _).drew
  refine wp_region_G 6 (fun W => Upd0 w3 W) [false, false, false, false, false, false, false, false] rfl (by kernel_rfl) ?_
  generalize w3.drew = we at hA ⊢
  refine wpG_takeT (i := 0) (v := .pointer (some ⟨p, 0, none⟩)) rfl (fun L hc h => (hc.waits (n := 6) (i := 0) (by kernel_rfl) h)) (by kernel_rfl) (fun _ _ _ h => h) hA (.inl ⟨rfl, fun w5 q1 => ?_⟩) ?_
  · go_simp
  simp only [Act.put, List.setIfInBounds_toArray, List.set]
  refine wpG_takeT (i := 1) (v := .agg #[.int .i64 el.kind, .int .i64 el.rec'.src, .int .i64 el.rec'.key, .int .i64 el.rec'.val, .int .u64 el.num]) rfl (fun L hc h => (hc.waits (n := 6) (i := 1) (by kernel_rfl) h)) (by kernel_rfl) (fun _ _ _ h => h) hA (.inl ⟨rfl, fun w5 q1 => ?_⟩) ?_
  · obtain ⟨c0, c1, c2, c3, c4⟩ := cells5_of ((q1.block _ (lt_of_heap HX3.out) (fun e => e)).trans HX3.out)
    go_simp
  simp only [Act.put, List.setIfInBounds_toArray, List.set]
  refine wpG_takeT (i := 2) (v := .pointer (some ⟨p, 0, none⟩)) rfl (fun L hc h => (hc.waits (n := 6) (i := 5) (by kernel_rfl) (hc.waits (n := 5) (i := 4) (by kernel_rfl) (hc.waits (n := 4) (i := 3) (by kernel_rfl) (hc.waits (n := 3) (i := 2) (by kernel_rfl) h))))) (by kernel_rfl) (fun _ _ _ h => h) hA (.inl ⟨rfl, fun w5 q1 => ?_⟩) ?_
  · go_simp
  simp only [Act.put, List.setIfInBounds_toArray, List.set]
  refine wpG_takeT (i := 3) (v := .pointer (some ⟨p, 0, none⟩)) rfl (fun L hc h => (hc.waits (n := 6) (i := 5) (by kernel_rfl) (hc.waits (n := 5) (i := 4) (by kernel_rfl) (hc.waits (n := 4) (i := 3) (by kernel_rfl) h)))) (by kernel_rfl) (fun _ _ _ h => h) hA (.inl ⟨rfl, fun w5 q1 => ?_⟩) ?_
  · go_simp
  simp only [Act.put, List.setIfInBounds_toArray, List.set]
  refine wpG_takeT (i := 4) (v := .pointer (some ⟨p, 31, none⟩)) rfl (fun L hc h => (hc.waits (n := 6) (i := 5) (by kernel_rfl) (hc.waits (n := 5) (i := 4) (by kernel_rfl) h))) (by kernel_rfl) (fun _ _ _ h => h) hA (.inl ⟨rfl, fun w5 q1 => ?_⟩) ?_
  · go_simp
  simp only [Act.put, List.setIfInBounds_toArray, List.set]
  refine wpG_takeT (i := 5) (v := .slice T.outA T.out.length T.outC) rfl (fun L hc h => (hc.waits (n := 6) (i := 5) (by kernel_rfl) h)) (by kernel_rfl) (fun _ _ _ h => h) hA (.inl ⟨rfl, fun w5 q1 => ?_⟩) ?_
  · obtain ⟨-, -, -, -, -, -, -, -, -, -, -, -, -, -, -, -, -, -, -, -, -, -, -, -, -, -, -, -, -, -, -, x31, -, -, -⟩ := TnV.at HMAP.out ((q1.block p (lt_of_heap H3.out.blk) (fun e => e)).trans H3.out.blk)
    replace x31 : w5.cell? ⟨p, 31, none⟩ = some (.slice T.outA T.out.length T.outC) := x31
    go_simp
  simp only [Act.put, List.setIfInBounds_toArray, List.set]
  refine wpG_tail_lit (k := 6) rfl rfl (by kernel_rfl) ?_
  simp only [List.drop]
  have HEM := Lib.hid (show Calls Tryz.prog 148 #[.pointer (some ⟨p, 0, none⟩), .agg #[.int .i64 el.kind, .int .i64 el.rec'.src, .int .i64 el.rec'.key, .int .i64 el.rec'.val, .int .u64 el.num], .slice T.outA T.out.length T.outC] we fun e w' => e = .returned (.int .i64 er.2.2) ∧ ∃ eA eC, TnAt w' w0.heap.size p (T.ended.emit er.1 er.2.1 eA eC) ∧ Upd0 w0 w' by
    have := emit_any el we (H3.out.kept hA) HP.out (HU3.out.trans hA) (ca := T.outA) (chs := T.out) (cc := T.outC) (ownsRow_low (ownsRow_any H3.out.out hA (fun _ _ e => e)) (Nat.zero_le _)) H3.out.apart HOK.out.len HOK.out.ol (by have := HOK.out.ol; omega) HOK.out.el HOK.out.rb
    rw [HER.out]
    exact this.mono (fun e w' ⟨h1, eA, eC, h2, h3, _⟩ => ⟨h1, eA, eC, h2, h3⟩))
  clear hA hmap
  go_wp2_with (go_at_call 148; fail)
  (with_reducible refine HEM.out.mono ?_)
  rintro _ w4 ⟨rfl, eA, eC, ht4, hu4⟩
  have HT4 := Lib.hid ht4; have HU4 := Lib.hid hu4
  clear ht4 hu4 HEM
  simp only []
  go_wp2
  go_ret
  first
  | exact ⟨rfl, eA, eC, HT4.out, HU4.out⟩
  | exact ⟨rfl, ⟨eA, eC, HT4.out⟩, HU4.out⟩
end Go.Proofs.YtbonfdkgkcbkmaaGreat
end

section
namespace Go.Proofs.YtbonfdkgkcbkmaaGreat
set_option maxRecDepth 100000
open Go.RowKit Go.Shelf

attribute [local go_sem] Oper.semAt_some
/-- What barrier answers. -/
def BarA (T : TnV) (el : ElV) (w0 : World) (p : Nat) (e : Ending) (w' : World) : Prop :=
  ((emitR T.out el T.rooms T.ems T.out).2.2 ≠ 0 → e = .returned (.int .i64 (emitR T.out el T.rooms T.ems T.out).2.2)) ∧
  ((emitR T.out el T.rooms T.ems T.out).2.2 = 0 → e = .returned (.int .i64 0) ∧ ∃ eA eC na nc, TnAt w' w0.heap.size p ((T.emit (emitR T.out el T.rooms T.ems T.out).1 (emitR T.out el T.rooms T.ems T.out).2.1 eA eC).tell el.num na nc) ∧ OwnNm w' w0.heap.size (.slice na T.t.snk.names.length nc) T.t.snk.names)
set_option maxHeartbeats 32000000 in
theorem barrier_any {w0 : World} {p : Nat} {T : TnV} (el : ElV) (w : World) (h : TnAt w w0.heap.size p T) (hp : w0.heap.size ≤ p) (h0 : TkIn w0 T.t) (hu : Upd0 w0 w) (hok : TnOk T) (ht : T.o.tag ≠ 7) :
    Calls Tryz.prog 73 #[.pointer (some ⟨p, 0, none⟩), .agg #[.int .i64 el.kind, .int .i64 el.rec'.src, .int .i64 el.rec'.key, .int .i64 el.rec'.val, .int .u64 el.num]] w fun e w' => BarA T el w0 p e w' ∧ Upd0 w0 w' := by
  obtain ⟨b, hb⟩ : ∃ b, b = w.heap.size := ⟨_, rfl⟩
  obtain ⟨w1, hw1⟩ : ∃ w1, w1 = w.alloc (.cells #[.int .i64 el.kind, .int .i64 el.rec'.src, .int .i64 el.rec'.key, .int .i64 el.rec'.val, .int .u64 el.num] 95) := ⟨_, rfl⟩
  have hu1 : Upd0 w w1 := by rw [hw1]; exact (Upd.refl _ w).alloc _
  have HX := Lib.hid (show w1.heap[b]? = some (.cells #[.int .i64 el.kind, .int .i64 el.rec'.src, .int .i64 el.rec'.key, .int .i64 el.rec'.val, .int .u64 el.num] 95 (0, 0)) by rw [hw1]; exact alloc_at hb)
  have H1 := Lib.hid (h.kept hu1); have HU1 := Lib.hid (hu.trans hu1); have HP := Lib.hid hp; have HOK := Lib.hid hok; have HTK := Lib.hid h0
  have HRE := Lib.hid (ready_any w1 H1.out ht)
  have HBA := Lib.hid (fun (e : Ending) (w' : World) => show BarA T el w0 p e w' = (((emitR T.out el T.rooms T.ems T.out).2.2 ≠ 0 → e = .returned (.int .i64 (emitR T.out el T.rooms T.ems T.out).2.2)) ∧
  ((emitR T.out el T.rooms T.ems T.out).2.2 = 0 → e = .returned (.int .i64 0) ∧ ∃ eA eC na nc, TnAt w' w0.heap.size p ((T.emit (emitR T.out el T.rooms T.ems T.out).1 (emitR T.out el T.rooms T.ems T.out).2.1 eA eC).tell el.num na nc) ∧ OwnNm w' w0.heap.size (.slice na T.t.snk.names.length nc) T.t.snk.names)) from rfl)
  obtain ⟨er, her⟩ : ∃ er, er = emitR T.out el T.rooms T.ems T.out := ⟨_, rfl⟩
  have HER := Lib.hid her
  rw [← her] at HBA
  clear h hp hu hok hu1 her ht h0
  go_enter Tryz.func73, Tryz.ntmps73
  go_upto_region 1 with fail
  rw [← hw1, ← hb]
  clear hw1 hb
  go_wp2_with (go_at_call 147; fail)
  (with_reducible refine HRE.out.mono ?_)
  rintro _ w3 ⟨rfl, hu2⟩
  have HU3 := Lib.hid (HU1.out.trans hu2)
  have HX3 := Lib.hid ((hu2.block _ (lt_of_heap HX.out) (fun e => e)).trans HX.out)
  have H3 := Lib.hid (H1.out.kept hu2)
  clear hu2 HRE H1 HX HU1
  simp only []
  obtain ⟨o0, o1, o2, o3, o4, o5, o6, o7, hmap⟩ := eight H3.out.o8
  have HMAP := Lib.hid hmap
  go_upto_region 4 with fail
  have hA : Upd0 w3 w3.drew := (Upd.refl _ _).drew
  refine wp_region_G 6 (fun W => Upd0 w3 W) [false, false, false, false, false, false, false, false] rfl (by kernel_rfl) ?_
  generalize w3.drew = we at hA ⊢
  refine wpG_takeT (i := 0) (v := .pointer (some ⟨p, 0, none⟩)) rfl (fun L hc h => (hc.waits (n := 6) (i := 0) (by kernel_rfl) h)) (by kernel_rfl) (fun _ _ _ h => h) hA (.inl ⟨rfl, fun w5 q1 => ?_⟩) ?_
  · go_simp
  simp only [Act.put, List.setIfInBounds_toArray, List.set]
  refine wpG_takeT (i := 1) (v := .agg #[.int .i64 el.kind, .int .i64 el.rec'.src, .int .i64 el.rec'.key, .int .i64 el.rec'.val, .int .u64 el.num]) rfl (fun L hc h => (hc.waits (n := 6) (i := 1) (by kernel_rfl) h)) (by kernel_rfl) (fun _ _ _ h => h) hA (.inl ⟨rfl, fun w5 q1 => ?_⟩) ?_
  · obtain ⟨c0, c1, c2, c3, c4⟩ := cells5_of ((q1.block _ (lt_of_heap HX3.out) (fun e => e)).trans HX3.out)
    go_simp
  simp only [Act.put, List.setIfInBounds_toArray, List.set]
  refine wpG_takeT (i := 2) (v := .pointer (some ⟨p, 0, none⟩)) rfl (fun L hc h => (hc.waits (n := 6) (i := 5) (by kernel_rfl) (hc.waits (n := 5) (i := 4) (by kernel_rfl) (hc.waits (n := 4) (i := 3) (by kernel_rfl) (hc.waits (n := 3) (i := 2) (by kernel_rfl) h))))) (by kernel_rfl) (fun _ _ _ h => h) hA (.inl ⟨rfl, fun w5 q1 => ?_⟩) ?_
  · go_simp
  simp only [Act.put, List.setIfInBounds_toArray, List.set]
  refine wpG_takeT (i := 3) (v := .pointer (some ⟨p, 0, none⟩)) rfl (fun L hc h => (hc.waits (n := 6) (i := 5) (by kernel_rfl) (hc.waits (n := 5) (i := 4) (by kernel_rfl) (hc.waits (n := 4) (i := 3) (by kernel_rfl) h)))) (by kernel_rfl) (fun _ _ _ h => h) hA (.inl ⟨rfl, fun w5 q1 => ?_⟩) ?_
  · go_simp
  simp only [Act.put, List.setIfInBounds_toArray, List.set]
  refine wpG_takeT (i := 4) (v := .pointer (some ⟨p, 31, none⟩)) rfl (fun L hc h => (hc.waits (n := 6) (i := 5) (by kernel_rfl) (hc.waits (n := 5) (i := 4) (by kernel_rfl) h))) (by kernel_rfl) (fun _ _ _ h => h) hA (.inl ⟨rfl, fun w5 q1 => ?_⟩) ?_
  · go_simp
  simp only [Act.put, List.setIfInBounds_toArray, List.set]
  refine wpG_takeT (i := 5) (v := .slice T.outA T.out.length T.outC) rfl (fun L hc h => (hc.waits (n := 6) (i := 5) (by kernel_rfl) h)) (by kernel_rfl) (fun _ _ _ h => h) hA (.inl ⟨rfl, fun w5 q1 => ?_⟩) ?_
  · obtain ⟨-, -, -, -, -, -, -, -, -, -, -, -, -, -, -, -, -, -, -, -, -, -, -, -, -, -, -, -, -, -, -, x31, -, -, -⟩ := TnV.at HMAP.out ((q1.block p (lt_of_heap H3.out.blk) (fun e => e)).trans H3.out.blk)
    go_simp
  simp only [Act.put, List.setIfInBounds_toArray, List.set]
  refine wpG_tail_lit (k := 6) rfl rfl (by kernel_rfl) ?_
  simp only [List.drop]
  have HEM := Lib.hid (show Calls Tryz.prog 148 #[.pointer (some ⟨p, 0, none⟩), .agg #[.int .i64 el.kind, .int .i64 el.rec'.src, .int .i64 el.rec'.key, .int .i64 el.rec'.val, .int .u64 el.num], .slice T.outA T.out.length T.outC] we fun e w' => e = .returned (.int .i64 er.2.2) ∧ ∃ eA eC, TnAt w' w0.heap.size p (T.emit er.1 er.2.1 eA eC) ∧ Upd0 w0 w' ∧ UpdT emB we w' by
    have := emit_any el we (H3.out.kept hA) HP.out (HU3.out.trans hA) (ca := T.outA) (chs := T.out) (cc := T.outC) (ownsRow_low (ownsRow_any H3.out.out hA (fun _ _ e => e)) (Nat.zero_le _)) H3.out.apart HOK.out.len HOK.out.ol (by have := HOK.out.ol; omega) HOK.out.el HOK.out.rb
    rw [HER.out]
    exact this)
  have HXw := Lib.hid ((hA.block _ (lt_of_heap HX3.out) (fun e => e)).trans HX3.out)
  clear hA hmap
  go_wp2_with (go_at_call 148; fail)
  (with_reducible refine HEM.out.mono ?_)
  rintro _ w5 ⟨rfl, eA, eC, ht5, hu5, hut5⟩
  have HT5 := Lib.hid ht5; have HU5 := Lib.hid hu5
  have HX5 := Lib.hid (hut5.keep HXw.out (fun cs t fr e p => by injection e with _ e; subst e; rcases p with p | p | p <;> exact absurd p (by decide)))
  clear ht5 hu5 hut5 HEM HXw
  simp only []
  by_cases hz : er.2.2 = 0
  · have HTL := Lib.hid (tell_any el.num w5 HT5.out HP.out (show TkIn w0 T.t from HTK.out) HU5.out)
    obtain ⟨c0, c1, c2, c3, c4⟩ := cells5_of HX5.out
    have hz' : (er.2.2 != 0) = false := by simpa using hz
    have HZ := Lib.hid hz
    clear hz
    go_wp2_with (go_at_call 71; fail)
    (with_reducible refine HTL.out.mono ?_)
    rintro _ w6 ⟨rfl, na, nc, ht6, hn6, hu6⟩
    have HT6 := Lib.hid ht6; have HN6 := Lib.hid hn6; have HU6 := Lib.hid hu6
    clear ht6 hn6 hu6 HTL c0 c1 c2 c3 c4
    simp only []
    go_wp2
    go_ret
    refine ⟨?_, HU6.out⟩
    rw [HBA.out]
    exact ⟨fun e => absurd HZ.out e, fun _ => ⟨rfl, eA, eC, na, nc, HT6.out, HN6.out⟩⟩
  · have hz' : (er.2.2 != 0) = true := by simpa using hz
    go_wp2
    go_ret
    refine ⟨?_, HU5.out⟩
    rw [HBA.out]
    exact ⟨fun _ => rfl, fun e => absurd e hz⟩
end Go.Proofs.YtbonfdkgkcbkmaaGreat
end

