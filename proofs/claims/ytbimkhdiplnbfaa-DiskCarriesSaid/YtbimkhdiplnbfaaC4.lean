/- Walks of the disk: row, up to the sort. -/
import Derived.Test.YtbimkhdiplnbfaaC3
namespace Go.Proofs.Ytbimkhdiplnbfaa
open Go.RowKit Go.Deep

theorem ecells_length {x : Nat × List Int × Int} (h : x.2.1.length = 64) : (ecells x).length = 66 := by simp [ecells, vcells_length h]
theorem ecells_one (x : Nat × List Int × Int) : ∀ u ∈ ecells x, u.oneCell' = true := by
  intro u hu
  rcases List.mem_cons.1 hu with rfl | hu
  · rfl
  · exact vcells_one _ u hu

theorem ownsRow_any {w w' : World} {G : Nat → Prop} {B : Nat} {e : TypeId} {sz n : Nat} {v : Value} {xs : List Value} (h : w.ownsRow B e sz v n xs) (hu : Upd G w w') (hg : ∀ k, v.ownBlock = some k → ¬ G k) : w'.ownsRow B e sz v n xs := by
  obtain ⟨h1, h2⟩ := h
  refine ⟨h1, ?_⟩
  rcases h2 with h2 | ⟨gg, cap', cur, hv, hb, hh, r⟩
  · exact .inl h2
  · exact .inr ⟨gg, cap', cur, hv, hb, (hu.block gg (lt_of_heap hh) (hg gg (by rw [hv]; rfl))).trans hh, r⟩

/-- What the loops have gathered. -/
structure RowAt (w wr : World) (v : Value) (L : List (Nat × List Int × Int)) : Prop where
  upd : Upd (fun _ => False) w wr
  cell : wr.heap[w.heap.size]? = some (.cells #[v] 161 (0, 0))
  own : wr.ownsRow w.heap.size 163 66 v L.length (L.flatMap ecells)
  ne : v.ownBlock ≠ some w.heap.size

theorem RowAt.start (w : World) : RowAt w (w.alloc (.cells #[.slice none 0 0] 161)) (.slice none 0 0) [] :=
  ⟨(Upd.refl _ w).alloc _, alloc_at rfl, World.ownsRow_nil _ _ _ _, by simp [Value.ownBlock]⟩

theorem RowAt.kept {w W W2 : World} {v : Value} {L : List (Nat × List Int × Int)} (h : RowAt w W v L) (hu : Upd (fun _ => False) W W2) : RowAt w W2 v L :=
  ⟨h.upd.trans hu, (hu.block _ (lt_of_heap h.cell) (fun e => e)).trans h.cell, ownsRow_any h.own hu (fun _ _ e => e), h.ne⟩

theorem RowAt.grow {w W w4 : World} {v : Value} {L : List (Nat × List Int × Int)} {x : Nat × List Int × Int} {gg cap' : Nat} {o : Obj} (h : RowAt w W v L)
    (hown : w4.ownsRow w.heap.size 163 66 (.slice (some ⟨gg, 0, none⟩) (L.length + 1) cap') (L.length + 1) (L.flatMap ecells ++ ecells x))
    (hg : (W.alloc o).grownBy w4 v.ownBlock) (hat : v.ownBlock = some gg ∨ gg = W.heap.size + 1) :
    RowAt w (w4.setCell ⟨w.heap.size, 0, none⟩ (.slice (some ⟨gg, 0, none⟩) (L.length + 1) cap')) (.slice (some ⟨gg, 0, none⟩) (L.length + 1) cap') (L ++ [x]) := by
  have hlt := h.own.lt
  have hz := h.upd.size
  have hb := lt_of_heap h.cell
  have hgn : gg ≠ w.heap.size := by
    rcases hat with e | e
    · intro e2; rw [e2] at e; exact h.ne e
    · omega
  have hc4 : w4.heap[w.heap.size]? = some (.cells #[v] 161 (0, 0)) := ((hg.block _ (by simp; omega) (fun e => h.ne e.symm)).trans (alloc_lt hb)).trans h.cell
  have hu1 : Upd (fun j => w.heap.size ≤ j) w w4 :=
    ((h.upd.mono (G := fun j => w.heap.size ≤ j) (fun _ _ e => e.elim)).alloc o).step (Upd.of_grown (F := fun j => w.heap.size ≤ j) hg (fun k hk => (hlt k hk).1)) (fun _ _ e => e)
  refine ⟨?_, ?_, ?_, ?_⟩
  · exact (hu1.setCell (p := ⟨w.heap.size, 0, none⟩) (.inl (Nat.le_refl _)) _).mono (fun j hj e => by omega)
  · have := blk_set (i := 0) (v := .slice (some ⟨gg, 0, none⟩) (L.length + 1) cap') hc4
    simpa using this
  · have := ownsRow_any hown (upd_own w4 w.heap.size 0 (.slice (some ⟨gg, 0, none⟩) (L.length + 1) cap')) (fun k hk e => by simp [Value.ownBlock] at hk; omega)
    simpa using this
  · simp [Value.ownBlock, hgn]

theorem filter_lt_succ_perm (n : Nat) : ∀ (l : List (Nat × List Int × Int)), ((l.filter (fun x => decide (x.1 < n))) ++ (l.filter (fun x => x.1 == n))).Perm (l.filter (fun x => decide (x.1 < n + 1)))
  | [] => by simp
  | x :: l => by
    have ih := filter_lt_succ_perm n l
    have e1 : ∀ p : Nat × List Int × Int → Bool, p x = true → (x :: l).filter p = x :: l.filter p := fun p h => List.filter_cons_of_pos h
    have e2 : ∀ p : Nat × List Int × Int → Bool, p x = false → (x :: l).filter p = l.filter p := fun p h => List.filter_cons_of_neg (by simp [h])
    rcases Nat.lt_trichotomy x.1 n with h | h | h
    · rw [e1 (fun x => decide (x.1 < n)) (by simpa using h), e2 (fun x => x.1 == n) (by simp; omega), e1 (fun x => decide (x.1 < n + 1)) (by simp; omega)]
      exact ih.cons x
    · rw [e2 (fun x => decide (x.1 < n)) (by simp; omega), e1 (fun x => x.1 == n) (by simpa using h), e1 (fun x => decide (x.1 < n + 1)) (by simp; omega)]
      exact List.perm_middle.trans (ih.cons x)
    · rw [e2 (fun x => decide (x.1 < n)) (by simp; omega), e2 (fun x => x.1 == n) (by simp; omega), e2 (fun x => decide (x.1 < n + 1)) (by simp; omega)]
      exact ih

theorem tail_map (D : Dk) (k : Nat) : ((D.vers k).tail.map fun v => (k, v)) = D.row.filter (fun x => x.1 == k) := by
  simp only [Dk.vers, List.tail_cons, List.map_map]
  have : ∀ l : List (Nat × List Int × Int), (∀ x ∈ l, x.1 = k) → l.map ((fun v => (k, v)) ∘ (·.2)) = l := by
    intro l hl
    induction l with
    | nil => rfl
    | cons x l ih =>
      rw [List.map_cons, ih (fun y hy => hl y (by simp [hy]))]
      have := hl x (by simp)
      subst this; rfl
  exact this _ (fun x hx => by simpa using (List.mem_filter.1 hx).2)

theorem pile_perm (D : Dk) : ∀ n, (D.pile n).Perm (D.row.filter (fun x => decide (x.1 < n)))
  | 0 => by simp [Dk.pile]
  | n + 1 => by
    rw [pile_succ, tail_map]
    exact ((pile_perm D n).append_right _).trans (filter_lt_succ_perm n D.row)

theorem pile_le (D : Dk) (k : Nat) : (D.pile (k + 1)).length ≤ D.row.length := by
  rw [(pile_perm D (k + 1)).length_eq]; exact List.length_filter_le _ _

set_option maxRecDepth 8000 in
set_option maxHeartbeats 4000000 in
theorem row_run {p : Nat} {D : Dk} {F : Nat → Prop} {Q : Ending → World → Prop} (w : World) (h : Dsk w p D F) (hok : D.Ok 1099511627774)
    (hQ : ∀ v wr, RowAt w wr v (D.pile D.arr.length) → Calls Try.prog 115 #[v, .func (.func 116) #[] #[]] wr fun e w' => e = .returned (.tuple #[]) ∧ Q (.returned (.func (.func 117) #[] #[.pointer (some ⟨w.heap.size, 0, none⟩)])) w') :
    Calls Try.prog 88 #[.pointer (some ⟨p, 0, none⟩)] w Q := by
  obtain ⟨s, g, c, hD, hF⟩ := h
  have hm := hD.main
  have lp := lt_of_heap hm
  have c0 := (cells6_of hm).1
  have hn := hok.len
  have HD := Lib.hid hD; have HO := Lib.hid hok; have HN := Lib.hid hn; have HQ := Lib.hid hQ
  clear hD hok hn hQ hF hm
  go_enter Try.func88, Try.ntmps88
  go_wp2
  clear c0 lp
  go_loopg [13] D.arr.length (fun gk i wr => ∃ k : Nat, k ≤ D.arr.length ∧ gk = D.arr.length - k ∧ i = .int .i64 k ∧ ∃ v, RowAt w wr v (D.pile k))
  case atStart => exact ⟨0, Nat.zero_le _, rfl, rfl, _, RowAt.start w⟩
  case round =>
    obtain ⟨k, hk, rfl, rfl, v, hR⟩ := hrel
    have hDr := HD.out.kept (G := fun _ => False) hR.upd (fun _ _ e => e)
    obtain ⟨hd, t, hv⟩ : ∃ hd t, D.vers k = hd :: t := ⟨_, _, rfl⟩
    have cs : k < D.arr.length → wr.cell? ⟨s, k, none⟩ = some (.slice (some ⟨g k, 0, none⟩) (t.length + 1) (c k)) := fun h => by
      rw [cell_of_heap hDr.sec]
      simp [h, hv]
    have hr : k < D.arr.length → wr.ownsRow 0 130 65 (.slice (some ⟨g k, 0, none⟩) (t.length + 1) (c k)) (t.length + 1) ((hd :: t).flatMap vcells) := fun h => by
      have := hDr.rows k h
      rwa [hv] at this
    have c3 := cells1_of hR.cell
    have HR := Lib.hid hR
    have HV := Lib.hid hv
    have HW := Lib.hid hr
    clear hR hDr hv hr
    go_upto_region 5 with fail
    · have hlt : k < D.arr.length := by assumption
      have hcap : t.length + 1 ≤ c k := by
        rcases (HW.out hlt).2 with ⟨e, _⟩ | ⟨_, _, _, e, _, _, e2, _⟩
        · simp at e
        · simp at e; omega
      iterate 4 go_step
      refine wpList_slice1 rfl rfl rfl hcap (fun off hoff => ?_)
      have HOF := Lib.hid hoff
      have htl : t.length ≤ 1099511627774 := by
        have h1 := vers_length_le D k
        rw [HV.out] at h1
        have := HO.out.rowlen
        simp at h1; omega
      have hpl : (D.pile k).length + t.length ≤ 1099511627774 := by
        have h1 := pile_le D k
        rw [pile_succ, HV.out] at h1
        have := HO.out.rowlen
        simp at h1; omega
      have HPL := Lib.hid hpl
      clear hoff cs hcap c3 hpl
      go_wp2
      obtain ⟨wo, rfl⟩ : ∃ wo : World, wo = wr := ⟨_, rfl⟩
      clear HW
      go_loopg [21] t.length (fun gi i wi => ∃ q : Nat, q ≤ t.length ∧ gi = t.length - q ∧ i = .int .i64 q ∧ ∃ v, RowAt w wi v (D.pile k ++ (t.take q).map fun v => (k, v)))
      case atStart => exact ⟨0, Nat.zero_le _, rfl, rfl, v, by simpa using HR.out⟩
      case round =>
        obtain ⟨q, hq, rfl, rfl, v2, hR2⟩ := hrel
        have HR2 := Lib.hid hR2
        clear hR2
        go_upto_region 7 with fail
        · have hqt : q < t.length := by assumption
          obtain rfl := HOF.out (by omega)
          have hqi : (q : Int) < t.length := by omega
          have hvs : ∀ v ∈ hd :: t, okBlk v.1 := by rw [← HV.out]; exact vers_blk HO.out hlt
          obtain ⟨x, hx⟩ : ∃ x, t[q]? = some x := ⟨t[q], by simp [hqt]⟩
          have hxb : okBlk x.1 := hvs x (List.mem_cons_of_mem _ (List.mem_of_getElem? hx))
          have hxl := vcells_length hxb.1
          have hrW := ownsRow_upd (HV.out ▸ HD.out.rows k hlt) HR2.out.upd (fun e => e)
          have hi130 : (Try.prog.info? 130).map (·.size) = some (vcells x).length := by rw [Try.size130, hxl]
          have hrg : wr.rangeAt (g k) (65 + q * 65) (vcells x) := by
            have := rangeAt_row hrW (vcells_whole (hd :: t) (q + 1) x (by simpa using hx) (fun v hv => (hvs v hv).1))
            rwa [show (q + 1) * 65 = 65 + q * 65 by omega] at this
          have HX := Lib.hid hx; have HXB := Lib.hid hxb; have HXL := Lib.hid hxl; have HI := Lib.hid hi130; have HRG := Lib.hid hrg
          clear hx hvs hxb hxl hrW hi130 hrg
          iterate 4 go_step
          refine wpList_load_mid rfl 130 (.tmp 23) rfl (g k) (65 + q * 65) rfl (vcells x) _ HRG.out Try.underlying130 rfl HI.out ?_
          iterate 3 go_step
          have hblk : (wr.alloc (.cells Try.zeroCells130 130)).heap[wr.heap.size]? = some (.cells Try.zeroCells130 130 (0, 0)) := alloc_at rfl
          have hth : (wr.alloc (.cells Try.zeroCells130 130)).there wr.heap.size 0 (vcells x).toArray.size := by
            have := there_block hblk
            rwa [show Try.zeroCells130.size = (vcells x).toArray.size by rw [Try.zsize130]; simp [HXL.out]] at this
          refine wpList_store_mid rfl 130 (.tmp 7) (.tmp 24) rfl wr.heap.size 0 (vcells x).toArray rfl rfl hth (by rw [HI.out]; simp) (all_oneCell_toArray (vcells_one x)) ?_
          have hb2 := heap_setCells_whole (vs := vcells x) hblk (by rw [Try.zsize130, HXL.out])
          have hU2 : Upd (fun _ => False) wr ((wr.alloc (.cells Try.zeroCells130 130)).setCells wr.heap.size 0 (vcells x)) := by
            have := Upd.setCells (F := fun j => wr.heap.size ≤ j) (b := wr.heap.size) (Nat.le_refl _) (vcells x) 0 ((Upd.refl _ wr).alloc (.cells Try.zeroCells130 130))
            exact this.mono (fun j hj e => by omega)
          have HR3 := Lib.hid (HR2.out.kept hU2)
          clear hblk hth hU2
          obtain ⟨b2, hb2e⟩ : ∃ b2, b2 = wr.heap.size := ⟨_, rfl⟩
          simp only []
          generalize (wr.alloc (.cells Try.zeroCells130 130)).setCells wr.heap.size 0 (vcells x) = W2 at *
          rw [← hb2e] at hb2 ⊢
          have c3 := cells1_of HR3.out.cell
          have HB2 := Lib.hid hb2
          clear hb2 hb2e HR2
          go_upto_region 8 with fail
          iterate 7 go_step
          refine wpList_load_mid rfl 130 (.tmp 7) rfl b2 0 rfl (vcells x) _ (rangeAt_block HB2.out) Try.underlying130 rfl HI.out ?_
          refine wpList_exec rfl (run_exec_build (run_build163 k (vcells x) _ HXL.out) rfl (by simp [Act.eval, Act.put])) ?_
          refine wpList_exec rfl (run_exec_buildSlice (run_buildSlice161 (ecells (k, x)) _ (ecells_length (x := (k, x)) HXB.out.1)) rfl (by simp [Act.eval, Act.put, ecells])) ?_
          obtain ⟨i0, hi0, hz0, hz1, hz2⟩ := info_parts Try.info163p
          have hlen : (D.pile k ++ (t.take q).map fun v => (k, v)).length ≤ 1099511627773 := by
            have := HPL.out
            rw [List.length_append, List.length_map, List.length_take]
            omega
          refine wpList_append_lies _ rfl (.tmp 25) (.tmp 29) 161 rfl w.heap.size 163 i0 (.agg Z163) 66 80 Try.underlying161 hi0 hz0 hz1 hz2 (by simp [Value.cells, Z163_size]) (by omega) v2 _ _ rfl (HR3.out.own.alloc _) ⟨W2.heap.size, 0, none⟩ 1 1 (ecells (k, x)) rfl
            (by rw [ecells_length (x := (k, x)) HXB.out.1]) (World.news_of_block (cs := (ecells (k, x)).toArray) (t := 163) (fr := (0, 0)) (heap_alloc_new _ _)) (ecells_one _) (by omega) (by unfold maxLen; omega) (by omega) (by have := HR3.out.upd.size; simp; omega) (W2.heap.size + 1) (by simp) ?_
          intro gg cap' w4 hown hgrow hat hlt4
          have HR5 := Lib.hid (HR3.out.grow hown hgrow hat)
          have hb4 : w4.heap[w.heap.size]? = some (.cells #[v2] 161 (0, 0)) := by
            have hb := lt_of_heap HR3.out.cell
            exact ((hgrow.block _ (by simp; omega) (fun e => HR3.out.ne e.symm)).trans (alloc_lt hb)).trans HR3.out.cell
          have c4 := cells1_of hb4
          have f4 : w4.frozen? ⟨w.heap.size, 0, none⟩ = false := frozen_of_heap hb4
          clear c3 hown hgrow hat hi0 hz0 hz1 hz2 hb4
          go_wp2
          go_roundg (t.length - (q + 1))
          case measure => omega
          case rel =>
            refine ⟨q + 1, by omega, rfl, by go_num, .slice (some ⟨gg, 0, none⟩) ((D.pile k).length + q + 1) cap', ?_⟩
            have h5 := HR5.out
            have e : (D.pile k ++ (t.take q).map fun v => (k, v)) ++ [(k, x)] = D.pile k ++ (t.take (q + 1)).map fun v => (k, v) := by
              rw [List.take_add_one, HX.out]; simp
            have e2 : (D.pile k ++ (t.take q).map fun v => (k, v)).length = (D.pile k).length + q := by
              rw [List.length_append, List.length_map, List.length_take]; omega
            rw [e, e2] at h5
            exact h5
        · have hqe : q = t.length := by omega
          subst hqe
          go_roundg (D.arr.length - (k + 1))
          case measure => omega
          case rel =>
            have := HN.out.2
            refine ⟨k + 1, by omega, rfl, congrArg _ ((IntWalk.wrap64_in _ (by omega)).trans (by omega)), v2, ?_⟩
            have h1 := HR2.out
            rw [List.take_length] at h1
            rw [pile_succ, HV.out]
            exact h1
    · have hkn : k = D.arr.length := by omega
      subst hkn
      refine (HQ.out v wr HR.out).mono ?_
      rintro e w' ⟨rfl, hq⟩
      have HQ2 := Lib.hid hq
      clear hq
      simp only []
      go_step
      go_wp2
      exact HQ2.out

end Go.Proofs.Ytbimkhdiplnbfaa
