/- Walks of the disk: arrive. -/
import Derived.Test.YtbimkhdiplnbfaaB8
namespace Go.Proofs.Ytbimkhdiplnbfaa
open Go.RowKit Go.Deep

theorem run_slice1 {o : Oper} {a : Act} {w : World} {g m cap : Nat} {x : Operand} (ho : o.op = .slice 131 x (some (.const (.int .i64 1))) none none) (hx : a.eval x = .slice (some ⟨g, 0, none⟩) (m + 1) cap) (hc : m + 1 ≤ cap) :
    ∃ off, (m ≠ 0 → off = 65) ∧ (execOp a.eval o).run Try.prog w = .ok (.value (.slice (some ⟨g, off, none⟩) m (cap - 1))) w := by
  by_cases h1 : cap = 1
  · subst h1
    obtain rfl : m = 0 := by omega
    refine ⟨0, by simp, ?_⟩
    unfold execOp
    simp only [ho, hx]
    simp [go_sem]
  · refine ⟨65, fun _ => rfl, ?_⟩
    unfold execOp
    simp only [ho, hx]
    have e1 : (1 : Int) ≤ (m : Int) + 1 := by omega
    have e2 : ¬ (cap = 1) := h1
    simp [go_sem, e1, e2]

theorem wpList_slice1 {ops : Array Oper} {rest : List Oper} {Q : Exit → Act → World → Prop} {o : Oper} {a : Act} {w : World} {g m cap : Nat} {x : Operand} (hg : o.guard = none) (ho : o.op = .slice 131 x (some (.const (.int .i64 1))) none none) (hx : a.eval x = .slice (some ⟨g, 0, none⟩) (m + 1) cap) (hc : m + 1 ≤ cap)
    (h : ∀ off, (m ≠ 0 → off = 65) → wpList Try.prog ops Q rest (a.put o.dst (.slice (some ⟨g, off, none⟩) m (cap - 1))) w) : wpList Try.prog ops Q (o :: rest) a w := by
  obtain ⟨off, h1, h2⟩ := run_slice1 (w := w) ho hx hc
  exact wpList_exec hg h2 (h off h1)

theorem ownsRow_upd {w w' : World} {G : Nat → Prop} {e : TypeId} {sz g n cap : Nat} {xs : List Value} (h : w.ownsRow 0 e sz (.slice (some ⟨g, 0, none⟩) n cap) n xs) (hu : Upd G w w') (hg : ¬ G g) : w'.ownsRow 0 e sz (.slice (some ⟨g, 0, none⟩) n cap) n xs := by
  obtain ⟨h1, h2⟩ := h
  refine ⟨h1, ?_⟩
  rcases h2 with ⟨h2, _⟩ | ⟨gg, cap', cur, hv, hb, hh, r⟩
  · simp at h2
  · refine .inr ⟨gg, cap', cur, hv, hb, ?_, r⟩
    simp at hv
    exact (hu.block gg (lt_of_heap hh) (fun e => hg (by rw [hv.1]; exact e))).trans hh

theorem vcells_whole : ∀ (L : List (List Int × Int)) (j : Nat) (v : List Int × Int), L[j]? = some v → (∀ v ∈ L, v.1.length = 64) → ((L.flatMap vcells).drop (j * 65)).take 65 = vcells v
  | [], j, v, h, _ => by simp at h
  | x :: L, 0, v, h, hl => by
    simp at h; subst h
    have := vcells_length (hl x (by simp))
    rw [List.flatMap_cons, Nat.zero_mul, List.drop_zero, List.take_append, this]
    simp [List.take_of_length_le (Nat.le_of_eq this)]
  | x :: L, j + 1, v, h, hl => by
    have h1 := vcells_length (hl x (by simp))
    have := vcells_whole L j v (by simpa using h) (fun v hv => hl v (by simp [hv]))
    rw [List.flatMap_cons, List.drop_append, h1, show (j + 1) * 65 - 65 = j * 65 by omega, List.drop_eq_nil_of_le (by omega)]
    simpa using this

theorem Try.size130 : (Try.prog.info? 130).map (·.size) = some 65 := by kernel_rfl

theorem Try.zsize130 : Try.zeroCells130.size = 65 := by kernel_rfl

theorem vcells_one (v : List Int × Int) : ∀ u ∈ vcells v, u.oneCell' = true := by
  intro u hu
  simp [vcells] at hu
  rcases hu with ⟨x, _, rfl⟩ | rfl <;> rfl

/-- What holds at the outer loop's head, k sectors settled. -/
structure ArrAt (w wr : World) (p s : Nat) (D : Dk) (lost : Int → Bool) (g : Nat → Nat) (F : Nat → Prop) (k : Nat) (g' c' : Nat → Nat) : Prop where
  upd : Upd F w wr
  at_ : DiskAt wr p (D.settled lost k) s g' c'
  news : ∀ j, j < D.arr.length → g' j = g j ∨ w.heap.size ≤ g' j

theorem vers_rng {D : Dk} {K : Nat} (h : D.Ok K) (i : Nat) : ∀ v ∈ D.vers i, 0 ≤ v.2 ∧ v.2 ≤ K := by
  intro v hv
  have hs := h.sent
  simp only [Dk.vers, List.mem_cons, List.mem_map, List.mem_filter] at hv
  rcases hv with rfl | ⟨x, ⟨hx, _⟩, rfl⟩
  · exact ⟨Int.le_refl _, by omega⟩
  · obtain ⟨_, _, h3, h4⟩ := h.rblks x hx
    exact ⟨by omega, by omega⟩

theorem arr_tail {w wo W : World} {p s : Nat} {D : Dk} {lost : Int → Bool} {g : Nat → Nat} {F : Nat → Prop} {k q : Nat} {g' c' : Nat → Nat} {hd : List Int × Int} {t : List (List Int × Int)}
    (hA : ArrAt w wo p s D lost g F k g' c') (hu : Upd (fun _ => False) wo W) (hk : k < D.arr.length) (hv : D.vers k = hd :: t) (hok : D.Ok 1099511627774) (hc : D.count lost k = q) :
    RowKit.Hid (W.drew.cell? ⟨p, 0, none⟩ = some (.slice (some ⟨s, 0, none⟩) D.arr.length D.arr.length) ∧ W.drew.rangeAt (g' k) (q * 65) (bcells (D.kept lost k)) ∧ (bcells (D.kept lost k)).length = 64) := by
  have hl := settled_length D lost k
  have hm := (hu.block p (lt_of_heap hA.at_.main) (fun e => e)).trans hA.at_.main
  have hr := hA.at_.rows k (by rw [hl]; exact hk)
  rw [settled_vers_ge D lost hk (Nat.le_refl k), hv] at hr
  have hr2 := ownsRow_upd hr hu (fun e => e)
  obtain ⟨v, h1, h2, h3⟩ := kept_at D lost k
  rw [hc, hv] at h1
  refine Lib.hid ⟨?_, ?_, ?_⟩
  · have := (cells6_of hm).1
    rw [hl] at this
    exact this
  · rw [h3]
    exact rangeAt_row (w := W.drew) hr2 (vcells_at _ q v h1 (fun v hv' => by rw [← hv] at hv'; exact (vers_blk hok hk v hv').1))
  · rw [bcells_length]; exact (kept_blk hok lost hk).1

theorem arr_cell {w wo W : World} {p s : Nat} {D : Dk} {lost : Int → Bool} {g : Nat → Nat} {F : Nat → Prop} {k : Nat} {g' c' : Nat → Nat} {hd : List Int × Int} {t : List (List Int × Int)}
    (hA : ArrAt w wo p s D lost g F k g' c') (hu : Upd (fun _ => False) wo W) (hk : k < D.arr.length) (hv : D.vers k = hd :: t) (o : Obj) :
    (W.alloc o).cell? ⟨s, k, none⟩ = some (.slice (some ⟨g' k, 0, none⟩) (t.length + 1) (c' k)) := by
  have hl := settled_length D lost k
  have ls := lt_of_heap hA.at_.sec
  have hs := (hu.block s ls (fun e => e)).trans hA.at_.sec
  have hs2 : (W.alloc o).heap[s]? = _ := (alloc_lt (Nat.lt_of_lt_of_le ls hu.size)).trans hs
  rw [cell_of_heap hs2, hl]
  simp [hk, settled_vers_ge D lost hk (Nat.le_refl k), hv]

theorem arr_frozen {w wo W : World} {p s : Nat} {D : Dk} {lost : Int → Bool} {g : Nat → Nat} {F : Nat → Prop} {k : Nat} {g' c' : Nat → Nat}
    (hA : ArrAt w wo p s D lost g F k g' c') (hu : Upd (fun _ => False) wo W) (o : Obj) : (W.alloc o).frozen? ⟨s, k, none⟩ = false := by
  have ls := lt_of_heap hA.at_.sec
  have hs := (hu.block s ls (fun e => e)).trans hA.at_.sec
  have hs2 : (W.alloc o).heap[s]? = _ := (alloc_lt (Nat.lt_of_lt_of_le ls hu.size)).trans hs
  exact frozen_of_heap hs2

theorem ArrAt.next {w wo W : World} {p s : Nat} {D : Dk} {lost : Int → Bool} {g : Nat → Nat} {F : Nat → Prop} {k : Nat} {g' c' : Nat → Nat}
    (hA : ArrAt w wo p s D lost g F k g' c') (hu : Upd (fun _ => False) wo W) (hk : k < D.arr.length) (hok : D.Ok 1099511627774) (hF : F s) :
    ArrAt w ((W.drew.alloc (.cells (bcells (D.kept lost k) ++ [Value.int .i64 0]).toArray 130)).setCell ⟨s, k, none⟩ (.slice (some ⟨W.heap.size, 0, none⟩) 1 1)) p s D lost g F (k + 1)
      (fun j => if j = k then W.heap.size else g' j) (fun j => if j = k then 1 else c' j) := by
  have hu2 : Upd (fun _ => False) wo W.drew := hu.drew
  refine ⟨?_, hA.at_.settle hk (kept_blk hok lost hk).1 hu2, fun j hj => ?_⟩
  · exact ((hA.upd.trans (hu2.mono (fun _ _ e => e.elim))).alloc _).setCell (p := ⟨s, k, none⟩) (.inl hF) _
  · by_cases hjk : j = k
    · simp only [hjk, if_true]
      exact .inr (Nat.le_trans hA.upd.size hu.size)
    · simp only [hjk, if_false]; exact hA.news j hj

set_option maxRecDepth 8000 in
set_option maxHeartbeats 4000000 in
theorem arrive_any {p : Nat} {D : Dk} {F : Nat → Prop} {lost : Int → Bool} (f : Nat) (caps : Array Value) (w : World) (h : Dsk w p D F) (hok : D.Ok 1099511627774)
    (eg : ∀ args w, (callFunc f args).run Try.prog w = .ok (.enter f args) w)
    (hcl : ∀ W1, Upd F w W1 → ∀ v : List Int × Int, okBlk v.1 → (0 ≤ v.2 ∧ v.2 ≤ 1099511627774) → Calls Try.prog f (#[.agg (vcells v).toArray] ++ caps) W1 fun e w' => e = .returned (.bool (lost v.2)) ∧ Upd (fun _ => False) W1 w') :
    Calls Try.prog 85 #[.pointer (some ⟨p, 0, none⟩), .func (.func f) #[] caps] w fun e w' => e = .returned (.tuple #[]) ∧ Left w p (D.arrive lost) F w' := by
  obtain ⟨s, g, c, hD, hF⟩ := h
  have hn := hok.len
  have hA0 : ArrAt w w p s D lost g F 0 g c := ⟨Upd.refl _ _, by rw [settled_zero]; exact hD, fun j _ => .inl rfl⟩
  have hm := hD.main
  have c0 := (cells6_of hm).1
  have HC := Lib.hid hcl; have HF := Lib.hid hF; have HO := Lib.hid hok; have HA0 := Lib.hid hA0; have HN := Lib.hid hn
  clear hcl hF hok hA0 hm hD hn
  go_enter Try.func85, Try.ntmps85
  go_wp2
  go_loopg [14] D.arr.length (fun gk i wr => ∃ k : Nat, k ≤ D.arr.length ∧ gk = D.arr.length - k ∧ i = .int .i64 k ∧ ∃ g' c', ArrAt w wr p s D lost g F k g' c')
  case atStart => exact ⟨0, Nat.zero_le _, rfl, rfl, _, _, HA0.out⟩
  case round =>
    obtain ⟨k, hk, rfl, rfl, g', c', hA⟩ := hrel
    clear c0
    have hl := settled_length D lost k
    have hm := hA.at_.main
    have c0 := (cells6_of hm).1
    rw [hl] at c0
    obtain ⟨hd, t, hv⟩ : ∃ hd t, D.vers k = hd :: t := ⟨_, _, rfl⟩
    have cs : k < D.arr.length → wr.cell? ⟨s, k, none⟩ = some (.slice (some ⟨g' k, 0, none⟩) (t.length + 1) (c' k)) := fun h => by
      rw [cell_of_heap hA.at_.sec, hl]
      simp [h, settled_vers_ge D lost h (Nat.le_refl k), hv]
    have hr : k < D.arr.length → wr.ownsRow 0 130 65 (.slice (some ⟨g' k, 0, none⟩) (t.length + 1) (c' k)) (t.length + 1) ((hd :: t).flatMap vcells) := fun h => by
      have := hA.at_.rows k (by rw [hl]; exact h)
      rwa [settled_vers_ge D lost h (Nat.le_refl k), hv] at this
    have HA := Lib.hid hA
    have HV := Lib.hid hv
    have HR := Lib.hid hr
    clear hA hm hl hv hr
    go_upto_region 4 with fail
    · have hlt : k < D.arr.length := by assumption
      have cs := cs hlt
      go_wp2
      go_step3
      go_wp2
      go_step3
      have hcap : t.length + 1 ≤ c' k := by
        rcases (HR.out hlt).2 with ⟨e, _⟩ | ⟨_, _, _, e, _, _, e2, _⟩
        · simp at e
        · simp at e; omega
      iterate 8 go_step
      refine wpList_slice1 rfl rfl rfl hcap (fun off hoff => ?_)
      have HOF := Lib.hid hoff
      have htl : t.length ≤ 1099511627774 := by
        have h1 := vers_length_le D k
        rw [HV.out] at h1
        have := HO.out.rowlen
        simp at h1; omega
      clear hoff cs hcap
      go_wp2
      obtain ⟨wo, rfl⟩ : ∃ wo : World, wo = wr := ⟨_, rfl⟩
      go_loopg [6, 22] t.length (fun gi n i wi => ∃ q : Nat, q ≤ t.length ∧ gi = t.length - q ∧ n = .int .i64 q ∧ i = .int .i64 q ∧ Upd (fun _ => False) wo wi ∧ ∀ j x, j < q → t[j]? = some x → lost x.2 = false)
      case atStart => exact ⟨0, Nat.zero_le _, rfl, rfl, rfl, Upd.refl _ _, fun j x hj => by omega⟩
      case round =>
        obtain ⟨q, hq, rfl, rfl, rfl, hU, hL⟩ := hrel
        have HU := Lib.hid hU; have HL := Lib.hid hL
        clear hU hL
        go_upto_region 6 with fail
        · have hqt : q < t.length := by assumption
          obtain rfl := HOF.out (by omega)
          have hqi : (q : Int) < t.length := by omega
          iterate 7 go_step
          obtain ⟨x, hx⟩ : ∃ x, t[q]? = some x := ⟨t[q], by simp [hqt]⟩
          have hvs : ∀ v ∈ hd :: t, okBlk v.1 := by rw [← HV.out]; exact vers_blk HO.out hlt
          have hxb : okBlk x.1 := hvs x (List.mem_cons_of_mem _ (List.mem_of_getElem? hx))
          have hxl := vcells_length hxb.1
          have HXN := Lib.hid (vers_rng HO.out k x (by rw [HV.out]; exact List.mem_cons_of_mem _ (List.mem_of_getElem? hx)))
          have hrW := ownsRow_upd (HR.out hlt) HU.out (fun e => e)
          have hi130 : (Try.prog.info? 130).map (·.size) = some (vcells x).length := by rw [Try.size130, hxl]
          have hrg : wr.rangeAt (g' k) (65 + q * 65) (vcells x) := by
            have := rangeAt_row hrW (vcells_whole (hd :: t) (q + 1) x (by simpa using hx) (fun v hv => (hvs v hv).1))
            rwa [show (q + 1) * 65 = 65 + q * 65 by omega] at this
          have HX := Lib.hid hx; have HXB := Lib.hid hxb; have HXL := Lib.hid hxl; have HI := Lib.hid hi130; have HRG := Lib.hid hrg
          clear hx hvs hxb hxl hrW hi130 hrg
          refine wpList_load_mid rfl 130 (.tmp 25) rfl (g' k) (65 + q * 65) rfl (vcells x) _ HRG.out Try.underlying130 rfl HI.out ?_
          iterate 6 go_step
          have hblk : (wr.alloc (.cells Try.zeroCells130 130)).heap[wr.heap.size]? = some (.cells Try.zeroCells130 130 (0, 0)) := alloc_at rfl
          have hth : (wr.alloc (.cells Try.zeroCells130 130)).there wr.heap.size 0 (vcells x).toArray.size := by
            have := there_block hblk
            rwa [show Try.zeroCells130.size = (vcells x).toArray.size by rw [Try.zsize130]; simp [HXL.out]] at this
          refine wpList_store_mid rfl 130 (.tmp 8) (.tmp 26) rfl wr.heap.size 0 (vcells x).toArray rfl rfl hth (by rw [HI.out]; simp) (all_oneCell_toArray (vcells_one x)) ?_
          have hb2 := heap_setCells_whole (vs := vcells x) hblk (by rw [Try.zsize130, HXL.out])
          have hU2 : Upd (fun _ => False) wo ((wr.alloc (.cells Try.zeroCells130 130)).setCells wr.heap.size 0 (vcells x)) := by
            have := Upd.setCells (F := fun j => wo.heap.size ≤ j) (b := wr.heap.size) HU.out.size (vcells x) 0 ((HU.out.mono (G := fun j => wo.heap.size ≤ j) (fun _ _ e => e.elim)).alloc (.cells Try.zeroCells130 130))
            exact this.mono (fun j hj e => by omega)
          clear hblk hth
          obtain ⟨b2, hb2e⟩ : ∃ b2, b2 = wr.heap.size := ⟨_, rfl⟩
          simp only []
          generalize (wr.alloc (.cells Try.zeroCells130 130)).setCells wr.heap.size 0 (vcells x) = W2 at *
          rw [← hb2e] at hb2 ⊢
          have HB2 := Lib.hid hb2; have HU2 := Lib.hid hU2
          clear hb2 hU2 hb2e
          go_upto_region 7 with fail
          iterate 4 go_step
          refine wpList_load_mid rfl 130 (.tmp 8) rfl b2 0 rfl (vcells x) _ (rangeAt_block HB2.out) Try.underlying130 rfl HI.out ?_
          go_wp2_with fail
          have hcx := HC.out W2 (HA.out.upd.trans (HU2.out.mono (fun _ _ e => e.elim))) x HXB.out HXN.out
          obtain ⟨lx, hlx⟩ : ∃ lx, lost x.2 = lx := ⟨_, rfl⟩
          rw [hlx] at hcx
          have HLX := Lib.hid hlx
          clear hlx
          refine hcx.mono ?_
          clear hcx
          rintro e w' ⟨rfl, h3⟩
          have HU3 := Lib.hid (HU2.out.trans h3)
          clear h3
          cases lx
          · simp only []
            go_step
            go_wp2
            go_roundg (t.length - (q + 1))
            case measure => omega
            case rel =>
              refine ⟨q + 1, by omega, rfl, by go_num, by go_num, HU3.out, fun j y hj hy => ?_⟩
              by_cases hjq : j = q
              · subst hjq
                rw [HX.out] at hy
                obtain rfl := Option.some.inj hy
                exact HLX.out
              · exact HL.out j y (by omega) hy
          · simp only []
            go_step
            go_wp2
            have hcnt : D.count lost k = q := by
              unfold Dk.count
              rw [HV.out]
              refine takeWhile_count _ t q (fun j y hj hy => by simp [HL.out j y hj hy]) hq (fun y hy => ?_)
              rw [HX.out] at hy
              obtain rfl := Option.some.inj hy
              simp [HLX.out]
            have HK := arr_tail HA.out HU3.out hlt HV.out HO.out (q := q) hcnt
            clear hcnt
            have HK6 : RowKit.Hid ((Try.prog.info? 56).map (·.size) = some (bcells (D.kept lost k)).length) := Lib.hid (by rw [Try.info56p, HK.out.2.2])
            have HKL := Lib.hid HK.out.2.2
            have hk1 : (0 : Int) ≤ (q : Int) := Int.natCast_nonneg _
            have hk2 : (q : Int) < ((t.length + 1 : Nat) : Int) := by omega
            have hA : w'.drew.cell? ⟨p, 0, none⟩ = some (.slice (some ⟨s, 0, none⟩) D.arr.length D.arr.length) ∧ w'.drew.rangeAt (g' k) (q * 65) (bcells (D.kept lost k)) := ⟨HK.out.1, HK.out.2.1⟩
            clear c0 cs
            refine wp_region_G 12 (fun W' => W'.cell? ⟨p, 0, none⟩ = some (.slice (some ⟨s, 0, none⟩) D.arr.length D.arr.length) ∧ W'.rangeAt (g' k) (q * 65) (bcells (D.kept lost k))) [false, false, false, false, false, false, false, false, false, false, false, false, false, false] rfl (by kernel_rfl) ?_
            refine wpG_take (i := 0) (v := .pointer (some ⟨p, 0, none⟩)) rfl (by kernel_rfl) (fun _ _ _ h => h) hA (.inl ⟨rfl, fun w ⟨q1, q2⟩ => ?_⟩) ?_
            · go_simp
            simp only [Act.put, List.setIfInBounds_toArray, List.set]
            refine wpG_take (i := 1) (v := .pointer (some ⟨p, 0, none⟩)) rfl (by kernel_rfl) (fun _ _ _ h => h) hA (.inl ⟨rfl, fun w ⟨q1, q2⟩ => ?_⟩) ?_
            · go_simp
            simp only [Act.put, List.setIfInBounds_toArray, List.set]
            refine wpG_take (i := 2) (v := .pointer (some ⟨p, 0, none⟩)) rfl (by kernel_rfl) (fun _ _ _ h => h) hA (.inl ⟨rfl, fun w ⟨q1, q2⟩ => ?_⟩) ?_
            · go_simp
            simp only [Act.put, List.setIfInBounds_toArray, List.set]
            refine wpG_take (i := 3) (v := .slice (some ⟨s, 0, none⟩) D.arr.length D.arr.length) rfl (by kernel_rfl) (fun _ _ _ h => h) hA (.inl ⟨rfl, fun w ⟨q1, q2⟩ => ?_⟩) ?_
            · go_simp
            simp only [Act.put, List.setIfInBounds_toArray, List.set]
            refine wpG_take (i := 4) (v := .int .i64 (k : Int)) rfl (by kernel_rfl) (fun _ _ _ h => h) hA (.inl ⟨rfl, fun w ⟨q1, q2⟩ => ?_⟩) ?_
            · go_simp
            simp only [Act.put, List.setIfInBounds_toArray, List.set]
            refine wpG_take (i := 5) (v := .slice (some ⟨g' k, 0, none⟩) (t.length + 1) (c' k)) rfl (by kernel_rfl) (fun _ _ _ h => h) hA (.inl ⟨rfl, fun w ⟨q1, q2⟩ => ?_⟩) ?_
            · go_simp
            simp only [Act.put, List.setIfInBounds_toArray, List.set]
            refine wpG_take (i := 6) (v := .int .i64 (q : Int)) rfl (by kernel_rfl) (fun _ _ _ h => h) hA (.inl ⟨rfl, fun w ⟨q1, q2⟩ => ?_⟩) ?_
            · go_simp
            simp only [Act.put, List.setIfInBounds_toArray, List.set]
            refine wpG_take (i := 7) (v := .pointer (some ⟨g' k, q * 65, none⟩)) rfl (by kernel_rfl) (fun _ _ _ h => h) hA (.inl ⟨rfl, fun w ⟨q1, q2⟩ => ?_⟩) ?_
            · (go_simp; intro hx; omega)
            simp only [Act.put, List.setIfInBounds_toArray, List.set]
            refine wpG_take (i := 8) (v := .pointer (some ⟨g' k, q * 65, none⟩)) rfl (by kernel_rfl) (fun _ _ _ h => h) hA (.inl ⟨rfl, fun w ⟨q1, q2⟩ => ?_⟩) ?_
            · go_simp
            simp only [Act.put, List.setIfInBounds_toArray, List.set]
            refine wpG_take (i := 9) (v := .agg (bcells (D.kept lost k)).toArray) rfl (by kernel_rfl) (fun _ _ _ h => h) hA (.inl ⟨rfl, fun w ⟨q1, q2⟩ => ?_⟩) ?_
            · exact run_load_mid' rfl rfl (bcells (D.kept lost k)) q2 Try.underlying56 rfl HK6.out
            simp only [Act.put, List.setIfInBounds_toArray, List.set]
            refine wpG_take (i := 10) (v := .agg (bcells (D.kept lost k) ++ [Value.int .i64 0]).toArray) rfl (by kernel_rfl) (fun _ _ _ h => h) hA (.inl ⟨rfl, fun w ⟨q1, q2⟩ => ?_⟩) ?_
            · exact run_exec_build (run_build130_one (bcells (D.kept lost k)) _ HKL.out) rfl (by simp [Act.eval])
            simp only [Act.put, List.setIfInBounds_toArray, List.set]
            refine wpG_do (i := 11) rfl (by kernel_rfl) rfl (fun K hK => ?_)
            refine wp_exec (run_exec_buildSlice (run_buildSlice131 (bcells (D.kept lost k) ++ [Value.int .i64 0]) _ (by simp [HKL.out])) rfl (by simp [Act.eval])) ?_
            refine hK _ _ ⟨keepa (W := w'.drew) hA.1, World.rangeAt_alloc hA.2 _⟩ ?_
            simp only [Act.put, List.setIfInBounds_toArray, List.set]
            refine wpG_tail_lit (k := 12) rfl rfl (by kernel_rfl) ?_
            simp only [List.drop]
            clear hA
            have HNX := Lib.hid (ArrAt.next HA.out HU3.out hlt HO.out ((HF.out s).2 (.inr (.inl rfl))))
            have cs2 : ∀ o, (w'.alloc o).cell? ⟨s, k, none⟩ = some (.slice (some ⟨g' k, 0, none⟩) (t.length + 1) (c' k)) := arr_cell HA.out HU3.out hlt HV.out
            have cf2 : ∀ o, (w'.alloc o).frozen? ⟨s, k, none⟩ = false := arr_frozen HA.out HU3.out
            go_wp2
            simp only [Exit.noGoto]
            go_wp2
            go_roundg (D.arr.length - (k + 1))
            case measure => omega
            case rel =>
              have := HN.out.2
              exact ⟨k + 1, by omega, rfl, congrArg _ ((IntWalk.wrap64_in _ (by omega)).trans (by omega)), _, _, HNX.out⟩
        · have hqe : q = t.length := by omega
          have hcnt : D.count lost k = q := by
            unfold Dk.count
            rw [HV.out]
            refine takeWhile_count _ t q (fun j y hj hy => by simp [HL.out j y hj hy]) hq (fun y hy => ?_)
            rw [hqe] at hy
            simp at hy
          clear hqe
          have HK := arr_tail HA.out HU.out hlt HV.out HO.out (q := q) hcnt
          clear hcnt
          have HK6 : RowKit.Hid ((Try.prog.info? 56).map (·.size) = some (bcells (D.kept lost k)).length) := Lib.hid (by rw [Try.info56p, HK.out.2.2])
          have HKL := Lib.hid HK.out.2.2
          have hk1 : (0 : Int) ≤ (q : Int) := Int.natCast_nonneg _
          have hk2 : (q : Int) < ((t.length + 1 : Nat) : Int) := by omega
          have hA : wr.drew.cell? ⟨p, 0, none⟩ = some (.slice (some ⟨s, 0, none⟩) D.arr.length D.arr.length) ∧ wr.drew.rangeAt (g' k) (q * 65) (bcells (D.kept lost k)) := ⟨HK.out.1, HK.out.2.1⟩
          clear c0 cs
          refine wp_region_G 12 (fun W' => W'.cell? ⟨p, 0, none⟩ = some (.slice (some ⟨s, 0, none⟩) D.arr.length D.arr.length) ∧ W'.rangeAt (g' k) (q * 65) (bcells (D.kept lost k))) [false, false, false, false, false, false, false, false, false, false, false, false, false, false] rfl (by kernel_rfl) ?_
          refine wpG_take (i := 0) (v := .pointer (some ⟨p, 0, none⟩)) rfl (by kernel_rfl) (fun _ _ _ h => h) hA (.inl ⟨rfl, fun w ⟨q1, q2⟩ => ?_⟩) ?_
          · go_simp
          simp only [Act.put, List.setIfInBounds_toArray, List.set]
          refine wpG_take (i := 1) (v := .pointer (some ⟨p, 0, none⟩)) rfl (by kernel_rfl) (fun _ _ _ h => h) hA (.inl ⟨rfl, fun w ⟨q1, q2⟩ => ?_⟩) ?_
          · go_simp
          simp only [Act.put, List.setIfInBounds_toArray, List.set]
          refine wpG_take (i := 2) (v := .pointer (some ⟨p, 0, none⟩)) rfl (by kernel_rfl) (fun _ _ _ h => h) hA (.inl ⟨rfl, fun w ⟨q1, q2⟩ => ?_⟩) ?_
          · go_simp
          simp only [Act.put, List.setIfInBounds_toArray, List.set]
          refine wpG_take (i := 3) (v := .slice (some ⟨s, 0, none⟩) D.arr.length D.arr.length) rfl (by kernel_rfl) (fun _ _ _ h => h) hA (.inl ⟨rfl, fun w ⟨q1, q2⟩ => ?_⟩) ?_
          · go_simp
          simp only [Act.put, List.setIfInBounds_toArray, List.set]
          refine wpG_take (i := 4) (v := .int .i64 (k : Int)) rfl (by kernel_rfl) (fun _ _ _ h => h) hA (.inl ⟨rfl, fun w ⟨q1, q2⟩ => ?_⟩) ?_
          · go_simp
          simp only [Act.put, List.setIfInBounds_toArray, List.set]
          refine wpG_take (i := 5) (v := .slice (some ⟨g' k, 0, none⟩) (t.length + 1) (c' k)) rfl (by kernel_rfl) (fun _ _ _ h => h) hA (.inl ⟨rfl, fun w ⟨q1, q2⟩ => ?_⟩) ?_
          · go_simp
          simp only [Act.put, List.setIfInBounds_toArray, List.set]
          refine wpG_take (i := 6) (v := .int .i64 (q : Int)) rfl (by kernel_rfl) (fun _ _ _ h => h) hA (.inl ⟨rfl, fun w ⟨q1, q2⟩ => ?_⟩) ?_
          · go_simp
          simp only [Act.put, List.setIfInBounds_toArray, List.set]
          refine wpG_take (i := 7) (v := .pointer (some ⟨g' k, q * 65, none⟩)) rfl (by kernel_rfl) (fun _ _ _ h => h) hA (.inl ⟨rfl, fun w ⟨q1, q2⟩ => ?_⟩) ?_
          · (go_simp; intro hx; omega)
          simp only [Act.put, List.setIfInBounds_toArray, List.set]
          refine wpG_take (i := 8) (v := .pointer (some ⟨g' k, q * 65, none⟩)) rfl (by kernel_rfl) (fun _ _ _ h => h) hA (.inl ⟨rfl, fun w ⟨q1, q2⟩ => ?_⟩) ?_
          · go_simp
          simp only [Act.put, List.setIfInBounds_toArray, List.set]
          refine wpG_take (i := 9) (v := .agg (bcells (D.kept lost k)).toArray) rfl (by kernel_rfl) (fun _ _ _ h => h) hA (.inl ⟨rfl, fun w ⟨q1, q2⟩ => ?_⟩) ?_
          · exact run_load_mid' rfl rfl (bcells (D.kept lost k)) q2 Try.underlying56 rfl HK6.out
          simp only [Act.put, List.setIfInBounds_toArray, List.set]
          refine wpG_take (i := 10) (v := .agg (bcells (D.kept lost k) ++ [Value.int .i64 0]).toArray) rfl (by kernel_rfl) (fun _ _ _ h => h) hA (.inl ⟨rfl, fun w ⟨q1, q2⟩ => ?_⟩) ?_
          · exact run_exec_build (run_build130_one (bcells (D.kept lost k)) _ HKL.out) rfl (by simp [Act.eval])
          simp only [Act.put, List.setIfInBounds_toArray, List.set]
          refine wpG_do (i := 11) rfl (by kernel_rfl) rfl (fun K hK => ?_)
          refine wp_exec (run_exec_buildSlice (run_buildSlice131 (bcells (D.kept lost k) ++ [Value.int .i64 0]) _ (by simp [HKL.out])) rfl (by simp [Act.eval])) ?_
          refine hK _ _ ⟨keepa (W := wr.drew) hA.1, World.rangeAt_alloc hA.2 _⟩ ?_
          simp only [Act.put, List.setIfInBounds_toArray, List.set]
          refine wpG_tail_lit (k := 12) rfl rfl (by kernel_rfl) ?_
          simp only [List.drop]
          clear hA
          have HNX := Lib.hid (ArrAt.next HA.out HU.out hlt HO.out ((HF.out s).2 (.inr (.inl rfl))))
          have cs2 : ∀ o, (wr.alloc o).cell? ⟨s, k, none⟩ = some (.slice (some ⟨g' k, 0, none⟩) (t.length + 1) (c' k)) := arr_cell HA.out HU.out hlt HV.out
          have cf2 : ∀ o, (wr.alloc o).frozen? ⟨s, k, none⟩ = false := arr_frozen HA.out HU.out
          go_wp2
          simp only [Exit.noGoto]
          go_wp2
          go_roundg (D.arr.length - (k + 1))
          case measure => omega
          case rel =>
            have := HN.out.2
            exact ⟨k + 1, by omega, rfl, congrArg _ ((IntWalk.wrap64_in _ (by omega)).trans (by omega)), _, _, HNX.out⟩
    · have hkn : k = D.arr.length := by omega
      subst hkn
      have hA := HA.out
      have hat := hA.at_
      rw [settled_all HO.out lost] at hat
      go_returns
      refine ⟨rfl, _, ⟨s, g', c', hat, fun _ => Iff.rfl⟩, ?_, hA.upd⟩
      rintro j (e | e | ⟨i, hi, e⟩)
      · exact .inl ((HF.out j).2 (.inl e))
      · exact .inl ((HF.out j).2 (.inr (.inl e)))
      · have hi' : i < D.arr.length := by simpa [Dk.arrive] using hi
        rcases hA.news i hi' with e2 | e2
        · exact .inl ((HF.out j).2 (.inr (.inr ⟨i, hi', e.trans e2⟩)))
        · exact .inr (by omega)

end Go.Proofs.Ytbimkhdiplnbfaa
