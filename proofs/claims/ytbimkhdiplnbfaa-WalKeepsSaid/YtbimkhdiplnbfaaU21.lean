/- Walks: all of a log. -/
import Derived.Test.YtbimkhdiplnbfaaU19
import Derived.Test.YtbimkhdiplnbfaaU20

section
namespace Go.Proofs.Ytbimkhdiplnbfaa
open Go.RowKit Go.Shelf

attribute [local go_sem] Oper.semAt_some

/-- A row of slices and a row of bytes are two blocks. -/
theorem types_apart {W : World} {B B' n k : Nat} {v u : Value} {xs : List Value} {b : List Int} (h : W.ownsRow B 28 1 v n xs) (h2 : OwnB W B' u b) (hv : v.ownBlock = some k) : u.ownBlock ≠ some k := by
  intro hu
  rcases h.2 with ⟨rfl, _⟩ | ⟨g, cap, cur, rfl, _, hg, _⟩
  · simp [Value.ownBlock] at hv
  · rcases h2.2 with ⟨rfl, _⟩ | ⟨g2, cap2, cur2, rfl, _, hg2, _⟩
    · simp [Value.ownBlock] at hu
    · simp only [Value.ownBlock, Option.some.injEq] at hv hu
      subst hv
      subst hu
      rw [hg] at hg2
      injection hg2 with hg2
      injection hg2 with _ hg2
      cases hg2

structure TellAt (w : World) (X : Lg) (pre : List (Nat × Value)) (W : World) : Prop where
  upd : Upd (fun _ => False) w W
  size : w.heap.size + 4 ≤ W.heap.size
  c0 : W.heap[w.heap.size]? = some (.cells #[.slice none 0 0] 22 (0, 0))
  c1 : W.heap[w.heap.size + 1]? = some (.cells #[.bool false] 4 (0, 0))
  out : ∃ v, W.heap[w.heap.size + 1 + 1]? = some (.cells #[v] 22 (0, 0)) ∧ W.ownsRow (w.heap.size + 4) 28 1 v pre.length (pre.map (·.2))
  each : ∀ i x b, pre[i]? = some x → X.parts[i + 1]? = some b → OwnB W (w.heap.size + 4) x.2 b

theorem TellAt.kept {w W W' : World} {X : Lg} {pre : List (Nat × Value)} (h : TellAt w X pre W) (hk : ∀ (k : Nat) (o : Obj), W.heap[k]? = some o → o.isCells = true → W'.heap[k]? = some o) (hs : W.heap.size ≤ W'.heap.size) (hu : Upd (fun _ => False) w W') : TellAt w X pre W' := by
  have hrow : ∀ {B e s v n xs}, W.ownsRow B e s v n xs → W'.ownsRow B e s v n xs := fun {B e s v n xs} h => by
    refine ⟨h.1, ?_⟩
    rcases h.2 with h | ⟨g, cap, cur, rfl, h2, h3, h4⟩
    · exact .inl h
    · exact .inr ⟨g, cap, cur, rfl, h2, hk g _ h3 rfl, h4⟩
  obtain ⟨v, h1, h2⟩ := h.out
  exact ⟨hu, Nat.le_trans h.size hs, hk _ _ h.c0 rfl, hk _ _ h.c1 rfl, ⟨v, hk _ _ h1 rfl, hrow h2⟩, fun i x b hx hb => hrow (h.each i x b hx hb)⟩

theorem TellAt.upd0 {w W W' : World} {X : Lg} {pre : List (Nat × Value)} (h : TellAt w X pre W) (hu : Upd (fun _ => False) W W') : TellAt w X pre W' :=
  h.kept (fun k _o ho _ => (hu.block k (lt_of_heap ho) (fun e => e)).trans ho) hu.size (h.upd.trans hu)

theorem upd_put {W : World} {l : Nat} (o : Obj) : Upd (fun k => k = l) W (W.putObj l o) := Upd.of_grown (grownBy_putObj' W l o) (fun k hk => by injection hk with hk; exact hk.symm)

theorem TellAt.put {w W : World} {X : Lg} {pre : List (Nat × Value)} {l : Nat} {o : Obj} (o' : Obj) (h : TellAt w X pre W) (hl : w.heap.size ≤ l) (ho : W.heap[l]? = some o) (hc : o.isCells = false) : TellAt w X pre (W.putObj l o') :=
  h.kept (fun k p hp hpc => by
    by_cases e : k = l
    · subst e; rw [ho] at hp; injection hp with hp; subst hp; rw [hc] at hpc; cases hpc
    · exact (World.putObj_heap_other e).trans hp) (upd_put o').size (h.upd.step (upd_put o') (fun k hk e => by omega))

theorem TellAt.more {w W W' : World} {X : Lg} {pre : List (Nat × Value)} {x : Nat × Value} {v v' : Value} (h : TellAt w X pre W) (hbox : W.heap[w.heap.size + 1 + 1]? = some (.cells #[v] 22 (0, 0))) (hrow : W.ownsRow (w.heap.size + 4) 28 1 v pre.length (pre.map (·.2)))
    (hx : ∀ b, X.parts[pre.length + 1]? = some b → OwnB W (w.heap.size + 4) x.2 b) (hg : W.grownBy W' v.ownBlock) (hrow' : W'.ownsRow (w.heap.size + 4) 28 1 v' (pre.length + 1) (pre.map (·.2) ++ [x.2])) :
    TellAt w X (pre ++ [x]) (W'.setCell ⟨w.heap.size + 1 + 1, 0, none⟩ v') := by
  have hvb : ∀ k, v.ownBlock = some k → w.heap.size + 4 ≤ k := fun k hk => (World.ownsRow.lt hrow k hk).1
  have hvb' : ∀ k, v'.ownBlock = some k → w.heap.size + 4 ≤ k := fun k hk => (World.ownsRow.lt hrow' k hk).1
  have hkeep : ∀ k, k < W.heap.size → v.ownBlock ≠ some k → W'.heap[k]? = W.heap[k]? := fun k hk hn => hg.block k hk (fun e => hn e.symm)
  have hu1 : Upd (fun k => v.ownBlock = some k) W W' := Upd.of_grown hg (fun k hk => hk)
  have hu2 : Upd (fun k => k = w.heap.size + 1 + 1) W' (W'.setCell ⟨w.heap.size + 1 + 1, 0, none⟩ v') := upd_own W' (w.heap.size + 1 + 1) 0 v'
  have hs := h.size
  have hn : ∀ k, k < w.heap.size + 4 → v.ownBlock ≠ some k := fun k hk e => by have := hvb k e; omega
  have c0 := (hkeep _ (by omega) (hn _ (by omega))).trans h.c0
  have c1 := (hkeep _ (by omega) (hn _ (by omega))).trans h.c1
  have cb := (hkeep _ (by omega) (hn _ (by omega))).trans hbox
  refine ⟨(h.upd.step hu1 (fun k hk e => by have := hvb k e; omega)).step hu2 (fun k hk e => by omega), by have := hu2.size; have := hu1.size; omega,
    (hu2.block _ (lt_of_heap c0) (by omega)).trans c0, (hu2.block _ (lt_of_heap c1) (by omega)).trans c1, ⟨v', ?_, ?_⟩, ?_⟩
  · have := blk_set (i := 0) (v := v') cb
    simpa using this
  · rw [List.length_append, List.map_append]
    exact ownsRow_heap hrow' (fun k hk => hu2.block k (World.ownsRow.lt hrow' k hk).2 (fun e => by have := hvb' k hk; omega))
  · intro i y b hy hb
    have hold : OwnB W (w.heap.size + 4) y.2 b := by
      by_cases hi : i < pre.length
      · rw [List.getElem?_append_left hi] at hy
        exact h.each i y b hy hb
      · rw [List.getElem?_append_right (by omega)] at hy
        have hi2 : i - pre.length = 0 := by
          have := (List.getElem?_eq_some_iff.1 hy).1
          simp at this
          omega
        rw [hi2] at hy
        simp at hy
        subst hy
        rw [show i = pre.length by omega] at hb
        exact hx b hb
    refine ownsRow_heap hold (fun k hk => ?_)
    have hkl := World.ownsRow.lt hold k hk
    rw [hu2.block k (Nat.lt_of_lt_of_le hkl.2 hu1.size) (fun e => by omega)]
    exact hkeep k hkl.2 (fun e => types_apart hrow hold e hk)

set_option maxRecDepth 100000 in
set_option maxHeartbeats 8000000 in
theorem all_any {q p : Nat} {X : Lg} {G : Nat → Prop} (w : World) (hlog : Log w q p X G) (hok : X.Ok) (hne : X.parts ≠ []) :
    Calls Try.prog 24 #[.pointer (some ⟨q, 0, none⟩)] w fun e w' => ∃ v vs, e = .returned (.tuple #[v, .bool true]) ∧ w'.ownsRow w.heap.size 28 1 v (X.parts.length - 1) vs ∧ (∀ i u b, vs[i]? = some u → X.parts[i + 1]? = some b → OwnB w' w.heap.size u b) ∧ Upd (fun _ => False) w w' := by
  have HLG := Lib.hid hlog; have HOK := Lib.hid hok; have HNE := Lib.hid hne
  have HGL := Lib.hid hlog.lt
  have hpl := hok.len
  clear hlog hok hne
  refine (callsIn_wide (n := 3)).1 ?_
  refine callsIn_of_wp_marks Try.func24 rfl trivial ?_ rfl
  simp only [Try.ntmps24, List.size_toArray, List.length_cons, List.length_nil, Nat.reduceAdd, Nat.reduceSub, Array.replicate_succ, Array.replicate_zero, List.push_toArray, List.append_toArray, List.nil_append, List.cons_append]
  gi_wp2_with (refine ⟨trivial, ?_⟩; gi_at_call 79; refine (callsIn_wide.2 (walAll_any q _)).mono ?_; rintro e w' ⟨rfl, h⟩)
  obtain ⟨w1, hw1⟩ : ∃ w1, w1 = (((w.alloc (.cells #[.slice none 0 0] 22)).alloc (.cells #[.bool false] 4)).alloc (.cells #[.slice none 0 0] 22)).alloc (.cells #[.pointer (some ⟨q, 0, none⟩)] 24) := ⟨_, rfl⟩
  rw [← hw1]
  have hsz : w1.heap.size = w.heap.size + 4 := by rw [hw1]; simp
  have hu1 : Upd (fun _ => False) w w1 := by rw [hw1]; exact ((((Upd.refl _ w).alloc _).alloc _).alloc _).alloc _
  have hat : TellAt w X [] w1 := by
    refine ⟨hu1, by omega, ?_, ?_, ⟨.slice none 0 0, ?_, World.ownsRow_nil _ _ _ _⟩, fun i x b hx => by simp at hx⟩
    · rw [hw1]; exact (alloc_lt (by simp <;> omega)).trans ((alloc_lt (by simp <;> omega)).trans ((alloc_lt (by simp <;> omega)).trans (alloc_at rfl)))
    · rw [hw1]; exact (alloc_lt (by simp <;> omega)).trans ((alloc_lt (by simp <;> omega)).trans (alloc_at (by simp <;> omega)))
    · rw [hw1]; exact (alloc_lt (by simp <;> omega)).trans (alloc_at (by simp <;> omega))
  have hbox : w1.heap[w.heap.size + 1 + 1 + 1]? = some (.cells #[.pointer (some ⟨q, 0, none⟩)] 24 (0, 0)) := by rw [hw1]; exact alloc_at (by simp <;> omega)
  have HU1 := Lib.hid hu1; have HAT := Lib.hid hat; have HBX := Lib.hid hbox; have HSZ := Lib.hid hsz
  clear h hw1 hat hu1 hbox hsz
  refine wpIn_rangeFunc_told (α := Nat × Value) (encs := fun x => #[.int .i64 x.1, x.2]) rfl (by omega) (gf := 113) (lb := #[.pointer (some ⟨w.heap.size + 1 + 1 + 1, 0, none⟩)]) rfl trivial (enters_of Try.func113 (by kernel_rfl) rfl) (fun _ => rfl)
    (fun pre x W0 W1 => x.1 = pre.length ∧ ∃ b, X.parts[pre.length + 1]? = some b ∧ OwnB W1 W0.heap.size x.2 b) (fun xs => xs.length + 1 = X.parts.length) (TellAt w X) (fun k => G k ∨ k = w.heap.size + 1 + 1 + 1) ?hKp (fun _ _ _ h hu => h.upd0 hu) (fun pre W l o o' h hl ho hc => h.put o' (by have := HSZ.out; omega) ho hc) HAT.out ?hseq
    (fun x => { tmps := #[.pointer (some ⟨q, 0, none⟩), undef, .pointer (some ⟨w.heap.size, 0, none⟩), .pointer (some ⟨w.heap.size + 1, 0, none⟩), .pointer (some ⟨w.heap.size + 1 + 1, 0, none⟩), .int .i64 x.1, x.2, .pointer (some ⟨q, 0, none⟩), .func (.func 113) #[] #[.pointer (some ⟨w.heap.size + 1 + 1 + 1, 0, none⟩)], .int .i64 x.1, x.2, undef, undef, undef, undef, undef, undef, undef, undef, undef], defers := [] }) ?hassign ?hbody ?hdone
  case hKp =>
    rintro k (hk | hk)
    · have := HGL.out k hk; have := HSZ.out; omega
    · have := HSZ.out; omega
  case hseq =>
    intro l J W h0 hW hJA hY
    have hb : ∀ k o, k < w1.heap.size → w1.heap[k]? = some o → W.heap[k]? = some o := fun k o hk ho => (hW k hk).trans ho
    refine walk_any 2 (by omega) l HOK.out HNE.out J W ((HLG.out.kept HU1.out (fun _ _ e => e)).keep (fun k hk => hW k (by have := HGL.out k hk; have := HSZ.out; omega))) ((hW _ (by have := HSZ.out; omega)).trans HBX.out) (fun pre x W0 W1 b hj hu hx hb ho => hY pre x W0 W1 hj hu ⟨hx, b, hb, ho⟩) h0 hJA
  case hassign =>
    intro l x W K hK
    have HKK := Lib.hid hK
    clear hK
    gi_wp2
    exact HKK.out
  case hbody =>
    rintro l pre x W0 W1 W r r' hl hi0 hu ⟨hx1, b, hb, hown⟩ hl1 rfl
    obtain ⟨W, hW⟩ : ∃ W, W = W1.putObj l (.loop r') := ⟨_, rfl⟩
    rw [← hW]
    have hat : TellAt w X pre W := by rw [hW]; exact (hi0.upd0 hu).put _ (by have := HSZ.out; omega) hl1 rfl
    have hownW : OwnB W (w.heap.size + 4) x.2 b := by
      have h4 := hown.mono (B' := w.heap.size + 4) hi0.size
      rw [hW]
      refine ownsRow_heap h4 (fun k hk => ?_)
      refine World.putObj_heap_other (fun e => ?_)
      subst e
      rcases h4.2 with ⟨h, _⟩ | ⟨g, cap, cur, h, _, hg, _⟩
      · rw [h] at hk; simp [Value.ownBlock] at hk
      · rw [h] at hk
        simp only [Value.ownBlock, Option.some.injEq] at hk
        subst hk
        rw [hl1] at hg
        injection hg with hg
        cases hg
    obtain ⟨xk, u⟩ := x
    simp only at hx1 hownW
    subst hx1
    obtain ⟨v, hbx, hrow⟩ := hat.out
    have hplb : pre.length + 1 < X.parts.length := (List.getElem?_eq_some_iff.1 hb).1
    obtain ⟨sa, sc, hv⟩ := rowV hrow
    obtain ⟨ua, uc, hu'⟩ := hownW.slice'
    have c4 := cells1_of hbx
    have f4 : W.frozen? ⟨w.heap.size + 1 + 1, 0, none⟩ = false := frozen_of_heap hbx
    have hvb : ∀ k, v.ownBlock = some k → w.heap.size + 4 ≤ k := fun k hk => (World.ownsRow.lt hrow k hk).1
    have hua : Upd (fun _ => False) W (W.alloc (.cells #[u] 28)) := (Upd.refl _ W).alloc _
    have hatA := hat.upd0 hua
    have hbxA := (hua.block _ (lt_of_heap hbx) (fun e => e)).trans hbx
    have hownA : OwnB (W.alloc (.cells #[u] 28)) (w.heap.size + 4) u b := hownW.keptF hua (fun _ _ e => e)
    have hnotc : ∀ k o, W.heap[k]? = some o → o.isCells = false → v.ownBlock ≠ some k := by
      intro k o ho hc e
      rcases hrow.2 with ⟨h, _⟩ | ⟨g, cap, cur, h, _, hg, _⟩
      · rw [h] at e; simp [Value.ownBlock] at e
      · rw [h] at e
        simp only [Value.ownBlock, Option.some.injEq] at e
        subst e
        rw [ho] at hg
        injection hg with hg
        subst hg
        cases hc
    subst hv
    subst hu'
    have HAT2 := Lib.hid hat; have HROW := Lib.hid hrow; have HATA := Lib.hid hatA; have HBXA := Lib.hid hbxA; have HOWNA := Lib.hid hownA; have HVB := Lib.hid hvb; have HB := Lib.hid hb; have HNC := Lib.hid hnotc; have HUA := Lib.hid hua
    clear hat hown hrow hatA hbxA hownA hvb hb hi0 hu hl1 hW hownW hnotc hua hbx
    gi_upto_region 7 with fail
    iterate 10 gi_step
    obtain ⟨i0, hi0, hz0, hz1, hz2⟩ := info_parts Try.info28p
    refine wpListIn_append_own _ rfl (.tmp 15) (.tmp 17) 22 rfl (w.heap.size + 4) 28 i0 (.slice none 0 0) 1 24 Try.underlying22 hi0 hz0 hz1 hz2 rfl (by omega) _ _ _ rfl (HROW.out.alloc _) ⟨W.heap.size, 0, none⟩ 1 1 [.slice ua b.length uc] rfl rfl (cell_one_new _ _ _) (by simp [Value.oneCell']) (by unfold maxLen; omega) (by omega) (by have := HAT2.out.size; simp; omega) ?_
    intro v' w4 hown4 hgrow _
    obtain ⟨g4, cap4, rfl⟩ := ownsRow_succ hown4
    have hmore := HATA.out.more (x := (pre.length, .slice ua b.length uc)) HBXA.out (HROW.out.alloc _) (fun c hc => by have := HB.out; rw [this] at hc; injection hc with hc; rw [← hc]; exact HOWNA.out) hgrow hown4
    have hbx4 : w4.heap[w.heap.size + 1 + 1]? = some (.cells #[.slice sa pre.length sc] 22 (0, 0)) := (hgrow.block _ (lt_of_heap HBXA.out) (fun e => by have := HVB.out _ e.symm; omega)).trans HBXA.out
    have f4' : w4.frozen? ⟨w.heap.size + 1 + 1, 0, none⟩ = false := frozen_of_heap hbx4
    have c4' := cells1_of hbx4
    have hsA : W.heap.size < (W.alloc (.cells #[.slice ua b.length uc] 28)).heap.size := by simp
    have hblk : ∀ k, k < W.heap.size → (Value.slice sa pre.length sc).ownBlock ≠ some k → k ≠ w.heap.size + 1 + 1 → (w4.setCell ⟨w.heap.size + 1 + 1, 0, none⟩ (.slice (some ⟨g4, 0, none⟩) (pre.length + 1) cap4)).heap[k]? = W.heap[k]? := fun k hk h1 h2 => by
      rw [set_ne (by exact h2), hgrow.block k (by omega) (fun e => h1 e.symm)]
      exact HUA.out.block k hk (fun e => e)
    have HMORE := Lib.hid hmore; have HBLK := Lib.hid hblk
    have HSZ4 : RowKit.Hid (W.heap.size ≤ (w4.setCell ⟨w.heap.size + 1 + 1, 0, none⟩ (.slice (some ⟨g4, 0, none⟩) (pre.length + 1) cap4)).heap.size) := Lib.hid (by
      have h1 := hgrow.size
      have h2 := (upd_own w4 (w.heap.size + 1 + 1) 0 (.slice (some ⟨g4, 0, none⟩) (pre.length + 1) cap4)).size
      omega)
    clear hmore hblk hgrow hown4 hi0 hz0 hz1 hz2 c4 f4 hsA hbx4
    gi_wp2
    refine ⟨HMORE.out, ⟨HSZ4.out, fun k o hk ho hc => ?_⟩, fun k hk => ?_⟩
    · rw [HBLK.out k (lt_of_heap ho) (HNC.out k o ho hc) (by have := HSZ.out; omega)]
      exact ho
    · have h1 := HAT2.out.size
      refine HBLK.out k ?_ (fun e => ?_) ?_
      · rcases hk with hk | hk
        · have := HGL.out k hk; omega
        · omega
      · have := HVB.out k e
        rcases hk with hk | hk
        · have := HGL.out k hk; omega
        · omega
      · rcases hk with hk | hk
        · have := HGL.out k hk; omega
        · omega
  case hdone =>
    rintro xs W hS hs hK
    obtain ⟨v, hbx, hrow⟩ := hs.out
    obtain ⟨sa, sc, rfl⟩ := rowV hrow
    have c20 := cells1_of hbx
    have c18 := cells1_of hs.c0
    have c19 := cells1_of hs.c1
    have f18 : W.frozen? ⟨w.heap.size, 0, none⟩ = false := frozen_of_heap hs.c0
    have f19 : W.frozen? ⟨w.heap.size + 1, 0, none⟩ = false := frozen_of_heap hs.c1
    have HS := Lib.hid hs; have HK := Lib.hid hK; have HROW := Lib.hid hrow; have HBX2 := Lib.hid hbx; have HXS := Lib.hid hS
    clear hs hK hrow hbx hS
    gi_wp2
    obtain ⟨W2, hW2⟩ : ∃ W2, W2 = (W.setCell ⟨w.heap.size, 0, none⟩ (.slice sa xs.length sc)).setCell ⟨w.heap.size + 1, 0, none⟩ (.bool true) := ⟨_, rfl⟩
    rw [← hW2]
    have hz := HS.out.size; have hz1 := HSZ.out
    have hk2 : W2.heap[w1.heap.size]? = some (.deferred (some [])) := by
      rw [hW2, set_ne (by show w1.heap.size ≠ w.heap.size + 1; omega), set_ne (by show w1.heap.size ≠ w.heap.size; omega)]; exact HK.out
    have h0 : W2.heap[w.heap.size]? = some (.cells #[.slice sa xs.length sc] 22 (0, 0)) := by
      rw [hW2, set_ne (by show w.heap.size ≠ w.heap.size + 1; omega)]
      have := blk_set (i := 0) (v := .slice sa xs.length sc) HS.out.c0
      simpa using this
    have h1 : W2.heap[w.heap.size + 1]? = some (.cells #[.bool true] 4 (0, 0)) := by
      have h1' : (W.setCell ⟨w.heap.size, 0, none⟩ (.slice sa xs.length sc)).heap[w.heap.size + 1]? = some (.cells #[.bool false] 4 (0, 0)) := by
        rw [set_ne (by show w.heap.size + 1 ≠ w.heap.size; omega)]; exact HS.out.c1
      have := blk_set (i := 0) (v := .bool true) h1'
      rw [hW2]
      simpa using this
    have hu2 : Upd (fun k => k = w.heap.size ∨ k = w.heap.size + 1) W W2 := by
      rw [hW2]
      exact ((upd_own W w.heap.size 0 _).mono (fun k _ e => .inl e)).trans ((upd_own _ (w.heap.size + 1) 0 _).mono (fun k _ e => .inr e))
    refine ⟨by simp, .inl ⟨_, _, rfl, run_takeDeferred hk2, ?_⟩⟩
    have hg3 := grownBy_putObj' W2 w1.heap.size (.deferred none)
    have h0' := (hg3.block _ (lt_of_heap h0) (fun e => by have := Option.some.inj e; omega)).trans h0
    have h1' := (hg3.block _ (lt_of_heap h1) (fun e => by have := Option.some.inj e; omega)).trans h1
    have hu3 : Upd (fun k => k = w.heap.size ∨ k = w.heap.size + 1 ∨ k = w1.heap.size) W (W2.putObj w1.heap.size (.deferred none)) := (hu2.mono (fun k _ e => e.elim .inl (fun e => .inr (.inl e)))).trans ((upd_put (.deferred none)).mono (fun k _ e => .inr (.inr e)))
    have hkeepR : ∀ {B e s v n xs}, w.heap.size + 4 ≤ B → W.ownsRow B e s v n xs → (W2.putObj w1.heap.size (.deferred none)).ownsRow w.heap.size e s v n xs := fun {B e s v n xs} hB h => by
      have hne1 : v.ownBlock ≠ some w1.heap.size := fun e2 => by
        rcases h.2 with ⟨h, _⟩ | ⟨g, cap, cur, h, _, hg, _⟩
        · rw [h] at e2; simp [Value.ownBlock] at e2
        · rw [h] at e2
          simp only [Value.ownBlock, Option.some.injEq] at e2
          subst e2
          rw [HK.out] at hg
          injection hg with hg
          cases hg
      have h5 : W.ownsRow w.heap.size e s v n xs := by
        refine ⟨h.1, ?_⟩
        rcases h.2 with h | ⟨g, cap, cur, rfl, h2, h3⟩
        · exact .inl h
        · exact .inr ⟨g, cap, cur, rfl, by omega, h3⟩
      refine ownsRow_heap h5 (fun k hk => hu3.block k (World.ownsRow.lt h k hk).2 (fun e3 => ?_))
      have := (World.ownsRow.lt h k hk).1
      rcases e3 with e3 | e3 | e3
      · omega
      · omega
      · subst e3; exact hne1 hk
    refine ⟨_, results_cell2 (fn := Try.f24) rfl rfl rfl (run_load22 h0') (run_load4 h1'), _, xs.map (·.2), rfl, ?_, ?_, ?_⟩
    · have := hkeepR (Nat.le_refl _) HROW.out
      rw [show X.parts.length - 1 = xs.length by have := HXS.out; omega]
      exact this
    · intro i u b hu hb
      rw [List.getElem?_map] at hu
      obtain ⟨x, hx, rfl⟩ := Option.map_eq_some_iff.1 hu
      exact hkeepR (Nat.le_refl _) (HS.out.each i x b hx hb)
    · exact HS.out.upd.step hu3 (fun k hk e => by omega)

end Go.Proofs.Ytbimkhdiplnbfaa
end

section
namespace Go.Proofs.Ytbimkhdiplnbfaa
open Go.RowKit Go.Shelf

/-- Bytes that lie somewhere, one behind the other. -/
def RowsIn (w : World) (v : Value) (txs : List (List Int)) : Prop := ∃ vs, w.ownsRow 0 28 1 v txs.length vs ∧ ∀ (i : Nat) u b, vs[i]? = some u → txs[i]? = some b → BytesIn w u b

theorem RowsIn.kept {w w' : World} {v : Value} {txs : List (List Int)} (h : RowsIn w v txs) (hu : Upd (fun _ => False) w w') : RowsIn w' v txs := by
  obtain ⟨vs, h1, h2⟩ := h
  exact ⟨vs, ownsRow_any h1 hu (fun _ _ e => e), fun i u b hu' hb => (h2 i u b hu' hb).kept hu⟩

theorem cells2_of {w : World} {b : Nat} {x0 x1 : Value} {t : TypeId} (h : w.heap[b]? = some (.cells #[x0, x1] t (0, 0))) : w.cell? ⟨b, 0, none⟩ = some x0 ∧ w.cell? ⟨b, 1, none⟩ = some x1 := by
  constructor <;> simp [World.cell?, h]

theorem usedOf_take (l : List (List Int)) (k : Nat) (b : List Int) (h : l[k]? = some b) : usedOf (l.take (k + 1)) = usedOf (l.take k) + secsN b.length := by
  rw [List.take_add_one, h, usedOf_append]
  simp [usedOf]

theorem len_le_used (l : List (List Int)) : (l.length : Int) ≤ usedOf l := by
  induction l with
  | nil => simp [usedOf]
  | cons b l ih =>
    have := secsN_pos b.length
    rw [usedOf_cons]
    simp
    omega

set_option maxRecDepth 100000 in
set_option maxHeartbeats 8000000 in
theorem in_any {q p : Nat} {X : Lg} {G : Nat → Prop} {sv tv : Value} {snap : List Int} {txs : List (List Int)} (w : World) (hlog : Log w q p X G) (hok : X.Ok) (hne : X.parts ≠ []) (har : X.h.area = 16) (hus : X.used = usedOf X.parts)
    (hsn : BytesIn w sv snap) (hbs : Bytes snap) (hsl : snap.length ≤ 40000) (htx : RowsIn w tv txs) (hbt : ∀ b ∈ txs, Bytes b ∧ b.length ≤ 40000) (htl : txs.length ≤ 1000) :
    Calls Try.prog 22 #[.agg #[sv, tv], .pointer (some ⟨q, 0, none⟩)] w fun e w' => e = .returned (.bool (decide (X.parts = snap :: txs))) ∧ Upd (fun _ => False) w w' := by
  obtain ⟨s0, ps, hp⟩ : ∃ s0 ps, X.parts = s0 :: ps := by
    rcases hX : X.parts with _ | ⟨a, b⟩
    · exact absurd hX hne
    · exact ⟨a, b, rfl⟩
  obtain ⟨sa, sc, rfl⟩ := hsn.slice'
  obtain ⟨tvs, htr, hte⟩ := htx
  obtain ⟨ta, tc, rfl⟩ := rowV htr
  have hpl := hok.len
  have hs0 : X.parts[0]? = some s0 := by rw [hp]; rfl
  have hby0 : Bytes s0 := (hok.bytes s0 (by rw [hp]; simp)).1
  have hbyp : ∀ b ∈ ps, Bytes b ∧ b.length ≤ 40000 := fun b hb => hok.bytes b (by rw [hp]; simp [hb])
  have hpsl : ps.length + 1 = X.parts.length := by rw [hp]; simp
  have HLG := Lib.hid hlog; have HOK := Lib.hid hok; have HNE := Lib.hid hne; have HAR := Lib.hid har; have HUS := Lib.hid hus; have HSN := Lib.hid hsn; have HBS := Lib.hid hbs; have HTR := Lib.hid htr; have HTE := Lib.hid hte; have HBT := Lib.hid hbt; have HP := Lib.hid hp; have HS0 := Lib.hid hs0; have HBY0 := Lib.hid hby0; have HBYP := Lib.hid hbyp; have HPSL := Lib.hid hpsl
  have hu1 : Upd (fun _ => False) w (w.alloc (.cells #[.slice sa snap.length sc, .slice ta txs.length tc] 30)) := (Upd.refl _ w).alloc _
  have hbx1 : (w.alloc (.cells #[.slice sa snap.length sc, .slice ta txs.length tc] 30)).heap[w.heap.size]? = some (.cells #[.slice sa snap.length sc, .slice ta txs.length tc] 30 (0, 0)) := alloc_at rfl
  have HU1 := Lib.hid hu1; have HBX1 := Lib.hid hbx1
  clear hlog hok hne har hus hsn hbs htr hte hbt hp hs0 hby0 hbyp hu1 hbx1
  go_enter Try.func22, Try.ntmps22
  go_wp2_with (go_at_call 24; fail)
  refine (all_any _ (HLG.out.kept HU1.out (fun _ _ e => e)) HOK.out HNE.out).mono ?_
  rintro e w2 ⟨lv, lvs, rfl, hlr, hle, hu2⟩
  obtain ⟨lnn, hln⟩ : ∃ lnn, lnn = X.parts.length - 1 := ⟨_, rfl⟩
  rw [← hln] at hlr
  have hlp : ps.length = lnn := by omega
  obtain ⟨la, lc, rfl⟩ := rowV hlr
  have HU2 := Lib.hid (HU1.out.trans hu2)
  have hbx2 := (hu2.block _ (lt_of_heap HBX1.out) (fun e => e)).trans HBX1.out
  have HBX2 := Lib.hid hbx2
  have HLR := Lib.hid hlr; have HLE := Lib.hid hle; have HLP := Lib.hid hlp
  have c1 := (cells2_of hbx2).2
  clear hlr hle hu2 hbx2 hln hlp HU1 HBX1 hpsl
  simp only []
  go_upto_region 2 with fail
  by_cases hll : lnn = txs.length
  rotate_left
  · have hl1 : ((lnn : Int) != (txs.length : Int)) = true := by simp; omega
    have HD : RowKit.Hid (decide (X.parts = s0 :: ps) = true ∧ decide (X.parts = snap :: txs) = false) := Lib.hid ⟨by simp [HP.out], by
      have := HLP.out
      rw [decide_eq_false_iff_not, HP.out]
      intro e
      injection e with _ e
      rw [e] at this
      omega⟩
    go_quiet (fail)
    go_wp2
    go_ret
    rw [HD.out.2]
    exact ⟨rfl, HU2.out.trans ⟨rfl, rfl, rfl, Nat.le_refl _, fun _ _ _ => rfl⟩⟩
  · have hl1 : ((lnn : Int) != (txs.length : Int)) = false := by simp; omega
    have hA : Upd (fun _ => False) w2 w2.drew := (Upd.refl _ w2).drew
    have HLL := Lib.hid hll
    clear hll c1
    refine wp_region_G 17 (fun W => Upd (fun _ => False) w2 W) [false, false, false, false, false, false, false, false, false, false, false, false, false, false, false, false, false, false] rfl (by kernel_rfl) ?_
    refine wpG_takeT (i := 0) (v := .bool true) rfl (fun L hc h => (hc.waits (n := 17) (i := 10) (by kernel_rfl) (hc.waits (n := 10) (i := 2) (by kernel_rfl) (hc.waits (n := 2) (i := 1) (by kernel_rfl) (hc.waits (n := 1) (i := 0) (by kernel_rfl) h))))) (by kernel_rfl) (fun _ _ _ h => h) hA (.inl ⟨rfl, fun w5 q1 => ?_⟩) ?_
    · go_simp
    simp only [Act.put, List.setIfInBounds_toArray, List.set]
    refine wpG_takeT (i := 1) (v := .bool false) rfl (fun L hc h => (hc.waits (n := 17) (i := 10) (by kernel_rfl) (hc.waits (n := 10) (i := 2) (by kernel_rfl) (hc.waits (n := 2) (i := 1) (by kernel_rfl) h)))) (by kernel_rfl) (fun _ _ _ h => h) hA (.inl ⟨rfl, fun w5 q1 => ?_⟩) ?_
    · go_simp
    simp only [Act.put, List.setIfInBounds_toArray, List.set]
    refine wpG_takeT (i := 2) (v := .bool false) rfl (fun L hc h => (hc.waits (n := 17) (i := 10) (by kernel_rfl) (hc.waits (n := 10) (i := 2) (by kernel_rfl) h))) (by kernel_rfl) (fun _ _ _ h => h) hA (.inl ⟨rfl, fun w5 q1 => ?_⟩) ?_
    · go_simp
    simp only [Act.put, List.setIfInBounds_toArray, List.set]
    refine wpG_takeT (i := 3) (v := .slice la lnn lc) rfl (fun L hc h => (hc.waits (n := 17) (i := 10) (by kernel_rfl) (hc.waits (n := 10) (i := 9) (by kernel_rfl) (hc.waits (n := 9) (i := 8) (by kernel_rfl) (hc.waits (n := 8) (i := 4) (by kernel_rfl) (hc.waits (n := 4) (i := 3) (by kernel_rfl) h)))))) (by kernel_rfl) (fun _ _ _ h => h) hA (.inl ⟨rfl, fun w5 q1 => ?_⟩) ?_
    · go_simp
    simp only [Act.put, List.setIfInBounds_toArray, List.set]
    refine wpG_takeT (i := 4) (v := .int .i64 lnn) rfl (fun L hc h => (hc.waits (n := 17) (i := 10) (by kernel_rfl) (hc.waits (n := 10) (i := 9) (by kernel_rfl) (hc.waits (n := 9) (i := 8) (by kernel_rfl) (hc.waits (n := 8) (i := 4) (by kernel_rfl) h))))) (by kernel_rfl) (fun _ _ _ h => h) hA (.inl ⟨rfl, fun w5 q1 => ?_⟩) ?_
    · go_simp
    simp only [Act.put, List.setIfInBounds_toArray, List.set]
    refine wpG_takeT (i := 5) (v := .pointer (some ⟨w.heap.size, 1, none⟩)) rfl (fun L hc h => (hc.waits (n := 17) (i := 10) (by kernel_rfl) (hc.waits (n := 10) (i := 9) (by kernel_rfl) (hc.waits (n := 9) (i := 8) (by kernel_rfl) (hc.waits (n := 8) (i := 7) (by kernel_rfl) (hc.waits (n := 7) (i := 6) (by kernel_rfl) (hc.waits (n := 6) (i := 5) (by kernel_rfl) h))))))) (by kernel_rfl) (fun _ _ _ h => h) hA (.inl ⟨rfl, fun w5 q1 => ?_⟩) ?_
    · go_simp
    simp only [Act.put, List.setIfInBounds_toArray, List.set]
    refine wpG_takeT (i := 6) (v := .slice ta txs.length tc) rfl (fun L hc h => (hc.waits (n := 17) (i := 10) (by kernel_rfl) (hc.waits (n := 10) (i := 9) (by kernel_rfl) (hc.waits (n := 9) (i := 8) (by kernel_rfl) (hc.waits (n := 8) (i := 7) (by kernel_rfl) (hc.waits (n := 7) (i := 6) (by kernel_rfl) h)))))) (by kernel_rfl) (fun _ _ _ h => h) hA (.inl ⟨rfl, fun w5 q1 => ?_⟩) ?_
    · have cc : w5.cell? ⟨w.heap.size, 1, none⟩ = some (.slice ta txs.length tc) := by simp [World.cell?, (q1.block _ (lt_of_heap HBX2.out) (fun e => e)).trans HBX2.out]
      go_simp
    simp only [Act.put, List.setIfInBounds_toArray, List.set]
    refine wpG_takeT (i := 7) (v := .int .i64 txs.length) rfl (fun L hc h => (hc.waits (n := 17) (i := 10) (by kernel_rfl) (hc.waits (n := 10) (i := 9) (by kernel_rfl) (hc.waits (n := 9) (i := 8) (by kernel_rfl) (hc.waits (n := 8) (i := 7) (by kernel_rfl) h))))) (by kernel_rfl) (fun _ _ _ h => h) hA (.inl ⟨rfl, fun w5 q1 => ?_⟩) ?_
    · go_simp
    simp only [Act.put, List.setIfInBounds_toArray, List.set]
    refine wpG_takeT (i := 8) (v := .bool false) rfl (fun L hc h => (hc.waits (n := 17) (i := 10) (by kernel_rfl) (hc.waits (n := 10) (i := 9) (by kernel_rfl) (hc.waits (n := 9) (i := 8) (by kernel_rfl) h)))) (by kernel_rfl) (fun _ _ _ h => h) hA (.inl ⟨rfl, fun w5 q1 => ?_⟩) ?_
    · go_simp
    simp only [Act.put, List.setIfInBounds_toArray, List.set]
    refine wpG_takeT (i := 9) (v := .bool false) rfl (fun L hc h => (hc.waits (n := 17) (i := 10) (by kernel_rfl) (hc.waits (n := 10) (i := 9) (by kernel_rfl) h))) (by kernel_rfl) (fun _ _ _ h => h) hA (.inl ⟨rfl, fun w5 q1 => ?_⟩) ?_
    · go_simp
    simp only [Act.put, List.setIfInBounds_toArray, List.set]
    refine wpG_takeT (i := 10) (v := .bool false) rfl (fun L hc h => (hc.waits (n := 17) (i := 10) (by kernel_rfl) h)) (by kernel_rfl) (fun _ _ _ h => h) hA (.inl ⟨rfl, fun w5 q1 => ?_⟩) ?_
    · go_simp
    simp only [Act.put, List.setIfInBounds_toArray, List.set]
    refine wpG_takeT (i := 11) (v := .pointer (some ⟨q, 0, none⟩)) rfl (fun L hc h => (hc.waits (n := 17) (i := 16) (by kernel_rfl) (hc.waits (n := 16) (i := 15) (by kernel_rfl) (hc.waits (n := 15) (i := 12) (by kernel_rfl) (hc.waits (n := 12) (i := 11) (by kernel_rfl) h))))) (by kernel_rfl) (fun _ _ _ h => h) hA (.inl ⟨rfl, fun w5 q1 => ?_⟩) ?_
    · go_simp
    simp only [Act.put, List.setIfInBounds_toArray, List.set]
    refine wpG_takeT (i := 13) (v := .pointer (some ⟨w.heap.size, 0, none⟩)) rfl (fun L hc h => (hc.waits (n := 17) (i := 16) (by kernel_rfl) (hc.waits (n := 16) (i := 15) (by kernel_rfl) (hc.waits (n := 15) (i := 14) (by kernel_rfl) (hc.waits (n := 14) (i := 13) (by kernel_rfl) h))))) (by kernel_rfl) (fun _ _ _ h => h) hA (.inl ⟨rfl, fun w5 q1 => ?_⟩) ?_
    · go_simp
    simp only [Act.put, List.setIfInBounds_toArray, List.set]
    refine wpG_takeT (i := 14) (v := .slice sa snap.length sc) rfl (fun L hc h => (hc.waits (n := 17) (i := 16) (by kernel_rfl) (hc.waits (n := 16) (i := 15) (by kernel_rfl) (hc.waits (n := 15) (i := 14) (by kernel_rfl) h)))) (by kernel_rfl) (fun _ _ _ h => h) hA (.inl ⟨rfl, fun w5 q1 => ?_⟩) ?_
    · have cc : w5.cell? ⟨w.heap.size, 0, none⟩ = some (.slice sa snap.length sc) := by simp [World.cell?, (q1.block _ (lt_of_heap HBX2.out) (fun e => e)).trans HBX2.out]
      go_simp
    simp only [Act.put, List.setIfInBounds_toArray, List.set]
    refine wpG_doIf (i := 12) rfl (by kernel_rfl) rfl (fun K hK => ?_)
    have HKK := Lib.hid hK
    clear hK
    go_step
    refine (snap_any _ (HLG.out.kept (HU2.out.trans hA) (fun _ _ e => e)) HOK.out HS0.out).mono ?_
    rintro e w3 ⟨u3, rfl, ho3, hu3⟩
    have hA2 : Upd (fun _ => False) w2 w3 := hA.trans hu3
    have HO3 := Lib.hid ho3
    clear hA hu3 ho3
    simp only []
    refine HKK.out _ _ hA2 ?_
    clear HKK
    simp only [List.setIfInBounds_toArray, List.set]
    refine wpG_doIf (i := 15) rfl (by kernel_rfl) rfl (fun K hK => ?_)
    have HKK := Lib.hid hK
    clear hK
    go_step
    refine (equal_any (xs := s0) (ys := snap) _ HO3.out.bytesIn (HSN.out.kept (HU2.out.trans hA2)) HBY0.out HBS.out).mono ?_
    rintro e w4 ⟨rfl, rfl⟩
    simp only []
    refine HKK.out _ _ hA2 ?_
    clear HKK
    simp only [List.setIfInBounds_toArray, List.set]
    refine wpG_takeT (i := 16) (v := .bool (!(s0 == snap))) rfl (fun L hc h => (hc.waits (n := 17) (i := 16) (by kernel_rfl) h)) (by kernel_rfl) (fun _ _ _ h => h) hA2 (.inl ⟨rfl, fun w5 q1 => ?_⟩) ?_
    · go_simp
    simp only [Act.put, List.setIfInBounds_toArray, List.set]
    refine wpG_tail_lit (k := 17) rfl rfl (by kernel_rfl) ?_
    simp only [List.drop]
    clear hl1
    have HU3 := Lib.hid (HU2.out.trans hA2)
    have HLR3 := Lib.hid (ownsRow_any HLR.out hA2 (fun _ _ e => e))
    have HLE3 : RowKit.Hid (∀ (i : Nat) u b, lvs[i]? = some u → X.parts[i + 1]? = some b → ∃ B, OwnB w3 B u b) := Lib.hid (fun i u b h1 h2 => ⟨_, (HLE.out i u b h1 h2).keptF hA2 (fun _ _ e => e)⟩)
    have hbx3 := (hA2.block _ (lt_of_heap HBX2.out) (fun e => e)).trans HBX2.out
    have HBX3 := Lib.hid hbx3
    have c0 := (cells2_of hbx3).1
    clear hA2 hbx3 HLR HLE HBX2 HO3
    by_cases hss : s0 = snap
    rotate_left
    · have hb1 : (!(s0 == snap)) = true := by simpa using hss
      have HD : RowKit.Hid (decide (X.parts = snap :: txs) = false) := Lib.hid (by
        rw [decide_eq_false_iff_not, HP.out]
        intro e
        injection e with e _
        exact hss e)
      clear hss
      go_wp2
      go_ret
      rw [HD.out]
      exact ⟨rfl, HU3.out⟩
    · subst hss
      have hb1 : (!(s0 == s0)) = false := by simp
      have HSEC := Lib.hid (secsI_nat hsl)
      go_wp2_with (go_at_call 16; fail)
      refine (sectors_any _ _).mono ?_
      rintro e w4 ⟨rfl, rfl⟩
      rw [HSEC.out]
      simp only []
      clear c0 hb1
      go_upto_region 6 with fail
      go_loopg [7, 39] lnn (fun gk used i wr => ∃ k : Nat, k ≤ lnn ∧ gk = lnn - k ∧ i = .int .i64 k ∧ used = .int .i64 (usedOf (X.parts.take (k + 1))) ∧ (∀ j, j < k → ps[j]? = txs[j]?) ∧ Upd (fun _ => False) w3 wr)
      case atStart => exact ⟨0, by omega, rfl, rfl, by rw [HP.out]; simp [usedOf], fun j hj => by omega, Upd.refl _ _⟩
      case round =>
        obtain ⟨k, hk, rfl, rfl, rfl, hsame, hu⟩ := hrel
        obtain ⟨wo, rfl⟩ : ∃ wo, wo = wr := ⟨_, rfl⟩
        have HSM := Lib.hid hsame; have HUO := Lib.hid hu
        by_cases hkl : k < lnn
        · have hkl2 : (k : Int) < lnn := by omega
          have hlr := ownsRow_any HLR3.out hu (fun _ _ e => e)
          have htr := ownsRow_any HTR.out (HU3.out.trans hu) (fun _ _ e => e)
          have hbxo := (hu.block _ (lt_of_heap HBX3.out) (fun e => e)).trans HBX3.out
          have c1 := (cells2_of hbxo).2
          have hkt : k < txs.length := by have := HLL.out; omega
          obtain ⟨b, hb⟩ : ∃ b, ps[k]? = some b := ⟨_, List.getElem?_eq_getElem (by have := HLP.out; omega)⟩
          have hbX : X.parts[k + 1]? = some b := by rw [HP.out]; simpa using hb
          obtain ⟨u, hlu⟩ : ∃ u, lvs[k]? = some u := ⟨_, List.getElem?_eq_getElem (by have := hlr.1; omega)⟩
          obtain ⟨c, hc⟩ : ∃ c, txs[k]? = some c := ⟨_, List.getElem?_eq_getElem hkt⟩
          obtain ⟨y, hy⟩ : ∃ y, tvs[k]? = some y := ⟨_, List.getElem?_eq_getElem (by have := htr.1; omega)⟩
          obtain ⟨B0, hou⟩ := HLE3.out k u b hlu hbX
          have hou := hou.keptF hu (fun _ _ e => e)
          have hin := (HTE.out k y c hy hc).kept (HU3.out.trans hu)
          obtain ⟨g1, hg1⟩ : ∃ g1, la = some ⟨g1, 0, none⟩ := by
            rcases hlr.2 with ⟨_, h⟩ | ⟨g, cap, cur, h, _⟩
            · omega
            · injection h with h; exact ⟨g, h⟩
          obtain ⟨g2, hg2⟩ : ∃ g2, ta = some ⟨g2, 0, none⟩ := by
            rcases htr.2 with ⟨_, h⟩ | ⟨g, cap, cur, h, _⟩
            · omega
            · injection h with h; exact ⟨g, h⟩
          obtain ⟨ua, uc, hus⟩ := hou.slice'
          have cl : wo.cell? ⟨g1, k, none⟩ = some u := by
            have := hlr.cells (g := g1) (by rw [hg1]; rfl) k u hlu
            rwa [Addr.add_mid, Nat.zero_add] at this
          have ct : wo.cell? ⟨g2, k, none⟩ = some y := by
            have := htr.cells (g := g2) (by rw [hg2]; rfl) k y hy
            rwa [Addr.add_mid, Nat.zero_add] at this
          have hbl := HBYP.out b (List.mem_of_getElem? hb)
          have hcl := HBT.out c (List.mem_of_getElem? hc)
          have hbl2 := hbl.2
          have hstep := usedOf_take X.parts (k + 1) b hbX
          have hle1 : 0 ≤ usedOf (X.parts.take (k + 1)) := usedOf_pos _
          have hle2 : usedOf (X.parts.take (k + 1 + 1)) ≤ 1000 := by
            have h1 := HUS.out; have h2 := HOK.out.used
            have h3 : usedOf X.parts = usedOf (X.parts.take (k + 1 + 1)) + usedOf (X.parts.drop (k + 1 + 1)) := by rw [← usedOf_append, List.take_append_drop]
            have h4 := usedOf_pos (X.parts.drop (k + 1 + 1))
            omega
          obtain ⟨us, husd⟩ : ∃ us, us = usedOf (X.parts.take (k + 1)) := ⟨_, rfl⟩
          rw [hstep] at hle2
          rw [← husd] at hle1 hle2 hstep ⊢
          have hkt2 : (k : Int) < txs.length := by omega
          have HOU := Lib.hid hou; have HIN := Lib.hid hin; have HST := Lib.hid hstep; have HBL := Lib.hid hbl; have HCL := Lib.hid hcl; have HB := Lib.hid hb; have HC := Lib.hid hc
          have HSB := Lib.hid (secsI_nat hbl2)
          have hwr : IntKind.i64.wrap (us + (secsN b.length : Int)) = us + secsN b.length := by rw [IntKind.wrap_i64]; omega
          subst hg1
          subst hg2
          subst hus
          clear hou hin hstep hbl hcl hb hc hlr htr hbxo hu hsame hlu hy hbX husd
          go_wp2_with (go_at_call 73; fail)
          refine (equal_any (xs := b) (ys := c) _ HOU.out.bytesIn HIN.out HBL.out.1 HCL.out.1).mono ?_
          rintro e w5 ⟨rfl, rfl⟩
          simp only []
          by_cases hbc : b = c
          · have hq : (!(b == c)) = false := by simpa using hbc
            have HBC := Lib.hid hbc
            clear hbc
            go_wp2_with (go_at_call 16; fail)
            refine (sectors_any _ _).mono ?_
            rintro e w6 ⟨rfl, rfl⟩
            rw [HSB.out]
            simp only []
            go_wp2
            go_roundg (lnn - (k + 1))
            case measure => omega
            case rel =>
              refine ⟨k + 1, by omega, rfl, congrArg _ (by omega), by rw [HST.out], fun j hj => ?_, HUO.out⟩
              by_cases hjk : j = k
              · subst hjk; rw [HB.out, HC.out, HBC.out]
              · exact HSM.out j (by omega)
          · have hq : (!(b == c)) = true := by simpa using hbc
            have HD : RowKit.Hid (decide (X.parts = s0 :: txs) = false) := Lib.hid (by
              rw [decide_eq_false_iff_not, HP.out]
              intro e
              injection e with _ e
              have h1 := HB.out; have h2 := HC.out
              rw [e, h2] at h1
              injection h1 with h1
              exact hbc h1.symm)
            clear hbc
            go_wp2
            go_ret
            rw [HD.out]
            exact ⟨rfl, HU3.out.trans HUO.out⟩
        · obtain rfl : k = lnn := by omega
          have hkl2 : ¬ (k : Int) < k := by omega
          have hall : X.parts.take (k + 1) = X.parts := List.take_of_length_le (by rw [HP.out]; have := HLP.out; simp; omega)
          have HD : RowKit.Hid (decide (X.parts = s0 :: txs) = true) := Lib.hid (by
            rw [decide_eq_true_iff, HP.out]
            congr 1
            apply List.ext_getElem?
            intro j
            by_cases hj : j < k
            · exact hsame j hj
            · have h1 := HLP.out; have h2 := HLL.out
              rw [List.getElem?_eq_none (by omega), List.getElem?_eq_none (by omega)])
          rw [hall, ← HUS.out]
          have hub := HOK.out.used
          have hw1 : IntKind.i64.wrap (16 - X.used) = 16 - X.used := by rw [IntKind.wrap_i64]; omega
          clear hall hsame hu
          go_wp2_with (go_at_call 17; fail)
          refine (left_any _ (HLG.out.kept (HU3.out.trans HUO.out) (fun _ _ e => e)) HOK.out).mono ?_
          rintro e w5 ⟨rfl, hu5⟩
          rw [HAR.out]
          have HU5 := Lib.hid (HU3.out.trans (HUO.out.trans hu5))
          clear hu5
          simp only []
          go_wp2_with (go_at_call 26; fail)
          refine (loglen_any _ (HLG.out.kept HU5.out (fun _ _ e => e)) HOK.out).mono ?_
          rintro e w6 ⟨rfl, hu6⟩
          rw [show ((X.parts.length : Int) - 1) = (k : Int) by have h1 := HPSL.out; have h2 := HLP.out; omega]
          have HU6 := Lib.hid (HU5.out.trans hu6)
          clear hu6
          simp only []
          go_wp2
          go_ret
          rw [HD.out]
          exact ⟨by simp, HU6.out⟩

end Go.Proofs.Ytbimkhdiplnbfaa
end

section
namespace Go.Proofs.Ytbimkhdiplnbfaa
open Go.RowKit

theorem law_fmt {D : Dk} {N area : Nat} (hg : D.Good N) (ha : 4 ≤ area ∧ area ≤ 1000) (hN : 2 + 2 * area ≤ N) : LawD (fmtX area) 1 (fmtD D area 3).S := by
  have b1 := zl_bound (area := area) (N := N) hN
  have b2 : ∀ x ∈ raw (partSc (fmtH area) 1 0 true [] bytes_nil), 0 ≤ x.1 ∧ x.1 < N := partSc_bound bytes_nil (by show (1 : Int) ≤ area; omega) (by show (2 : Int) + 2 * area ≤ N; omega)
  have b3 : ∀ x ∈ raw [headSc (fmtH area)], 0 ≤ x.1 ∧ x.1 < N := headSc_bound (by omega)
  obtain ⟨_, g1⟩ := hg.lays _ (by omega) b1
  obtain ⟨_, g2⟩ := g1.lays _ (by omega) b2
  have hz : ∀ i : Int, 0 ≤ i → i < 2 + 2 * area → (D.lays (fmt1 area)).S i = zblk := fun i h1 h2 => by
    show (D.lays (raw (zl area))).S i = zblk
    rw [hg.S_lays _ b1 i h1 (by omega)]
    exact layS_zl h1 h2
  refine (LawD.fmt ha hz).congr (fun i h1 h2 => ?_)
  have h2' : i < 2 + 2 * (area : Int) := h2
  show (((D.lays (raw (zl area))).lays (raw (partSc (fmtH area) 1 0 true [] bytes_nil))).lays (raw [headSc (fmtH area)])).S i = _
  rw [Dk.Good.S_lays _ g2 b3 i h1 (by omega)]
  refine layS_congr (N := N) _ _ _ (fun j h3 h4 => ?_) i h1 (by omega)
  rw [Dk.Good.S_lays _ g1 b2 j h3 h4, partL_raw]
  rfl

theorem law_app {X : Lg} {τ : Int} {D : Dk} {N : Nat} (h : LawD X τ D.S) (hg : D.Good N) (hN : 2 + 2 * X.h.area ≤ N) {b : List Int} (hb : Bytes b) (hl : b.length ≤ 40000) (hr : X.used + secsN b.length ≤ X.h.area) (hn : X.h.number + X.parts.length + 1 ≤ 2000000000) : LawD (X.add b) 1 (D.lays (X.apS b hb)).S := by
  have ha := h.says.area
  refine (h.add (τ' := 1) hl hr hn (by omega)).congr (fun i h1 h2 => ?_)
  have h2' : i < 2 + 2 * X.h.area := h2
  unfold Lg.apS
  rw [hg.S_lays _ (partSc_bound hb (by omega) hN) i h1 (by omega), partL_raw]

theorem law_cp {X : Lg} {τ : Int} {D : Dk} {N : Nat} (h : LawD X τ D.S) (hg : D.Good N) (hN : 2 + 2 * X.h.area ≤ N) {b : List Int} (hb : Bytes b) (hl : b.length ≤ 40000) (hr : (secsN b.length : Int) ≤ X.h.area) (hn : X.h.number + X.parts.length ≤ 1073741824) (ht : X.h.turn < 1073741824) :
    LawD ((⟨X.cpH, [], 0, false⟩ : Lg).add b) 1 ((D.lays (X.cpS b hb)).lays (raw [headSc X.cpH])).S := by
  have ha := h.says.area
  have b1 : ∀ x ∈ X.cpS b hb, 0 ≤ x.1 ∧ x.1 < N := partSc_bound hb (by omega) hN
  obtain ⟨_, g1⟩ := hg.lays _ (by omega) b1
  refine (h.cp (τ' := 1) hl hr hn ht (by omega)).congr (fun i h1 h2 => ?_)
  have h2' : i < 2 + 2 * X.h.area := h2
  rw [Dk.Good.S_lays _ g1 (headSc_bound (by omega)) i h1 (by omega)]
  refine layS_congr (N := N) _ _ _ (fun j h3 h4 => ?_) i h1 (by omega)
  rw [Dk.Good.S_lays _ hg b1 j h3 h4]
  unfold Lg.cpS
  rw [partL_raw]

theorem shows_far {D : Dk} {K : Nat} (h : D.Ok K) {i : Nat} (hi : D.arr.length ≤ i) : D.shows i = [] := by
  have e : D.row.filter (fun x => x.1 == i) = [] := by
    rw [List.filter_eq_nil_iff]
    intro x hx
    have := (h.rblks x hx).2.1
    simp; omega
  unfold Dk.shows Dk.vers
  rw [e, List.getD_eq_getElem?_getD, List.getElem?_eq_none hi]
  rfl

theorem startN_nonneg {D : Dk} {K : Nat} (h : D.Ok K) (i : Int) : 0 ≤ startN (D.S i) := by
  unfold startN Dk.S
  by_cases hi : i.toNat < D.arr.length
  · exact be_nonneg (fun x hx => (shows_blk h hi).2 x (List.mem_of_mem_drop hx))
  · rw [shows_far h (by omega)]
    show (0 : Int) ≤ 0
    omega

/-- What Open does on a disk of a log that does not fail. -/
theorem openD_law {X : Lg} {τ : Int} {D : Dk} {N K : Nat} (h : LawD X τ D.S) (hg : D.Good N) (hok : D.Ok K) (hN : 2 + 2 * X.h.area ≤ N) (ht : X.h.turn < 1073741824) (hτ : τ ≤ X.h.turn + 1) :
    ∃ D', openD D = (some X.on, 0, D') ∧ D'.Good N ∧ LawD X.on (X.h.turn + 1) D'.S := by
  have ha := h.says.area
  obtain ⟨e0, g0, r0, s0⟩ := hg.callR (i := 0) (by omega)
  obtain ⟨e1, g1, r1, s1⟩ := g0.callR (i := 1) (by omega)
  have hc := h.counts
  obtain ⟨D2, f1, f2, f3, f4⟩ := foundD_good (h := X.h) (N := N) (by omega) hN 1001 [] 0 ((D.callD 0 false).callD 1 false) (by omega) g1
  have hlen : (X.parts.length : Int) ≤ X.used := by rw [h.sum]; exact len_le_used _
  have hfit := h.fits
  rw [s1, s0, h.found (startN_nonneg hok) (by omega)] at f1
  rw [s1, s0] at f3
  have hb := headSc_bound (h := X.on.h) (N := N) (by omega)
  obtain ⟨l1, l2⟩ := f2.lays (raw [headSc X.on.h]) (by omega) hb
  have hlaw := h.opened ht hτ
  refine ⟨D2.lays (raw [headSc X.on.h]), ?_, l2, hlaw.congr (fun i h1 h2 => ?_)⟩
  · unfold openD
    rw [if_pos e0, if_pos e1, r0, r1, s0, hc]
    unfold openH
    rw [if_neg (by have := g1.len; simp; omega)]
    show openP X.h (foundD X.h 1001 [] 0 _) = _
    rw [f1]
    unfold openP
    rw [if_pos rfl, if_neg (by have := h.one; simp; exact ⟨this, by omega⟩)]
    unfold openL
    rw [if_pos (by exact l1)]
    unfold Lg.on
    rw [h.sum]
    rfl
  · have h2' : i < 2 + 2 * X.h.area := h2
    rw [Dk.Good.S_lays _ f2 hb i h1 (by omega), f3]
    rfl

/-- Open, on a disk of a log that does not fail. -/
theorem open_good {p N K : Nat} {X : Lg} {τ : Int} {D : Dk} {F : Nat → Prop} (w : World) (hD : Dsk w p D F) (h : LawD X τ D.S) (hg : D.Good N) (hok : D.Ok K) (hK : K ≤ 1000000000) (hN : 2 + 2 * X.h.area ≤ N) (ht : X.h.turn < 1073741824) (hτ : τ ≤ X.h.turn + 1) :
    Calls Try.prog 21 #[.pointer (some ⟨p, 0, none⟩)] w fun e w' => ∃ q D' G' F', e = .returned (.tuple #[.pointer (some ⟨q, 0, none⟩), .int .i64 0]) ∧ WalG w' q p X.on D' G' F' N (K + 1002000) ∧ LawD X.on (X.h.turn + 1) D'.S ∧ (∀ k, G' k → w.heap.size ≤ k) ∧ (∀ k, F' k → F k ∨ w.heap.size ≤ k) ∧ Upd F w w' := by
  obtain ⟨D', e1, e2, e3⟩ := openD_law h hg hok hN ht hτ
  refine (open_any w hD hok (by omega)).mono ?_
  rintro e w' hx
  rw [e1] at hx
  obtain ⟨F', h1, h2, h3, h4, q, G', rfl, h5, h6, h7, h8⟩ := hx
  exact ⟨q, D', G', F', rfl, ⟨⟨h5, h1, h7⟩, h8, rfl, e2, h4, hN⟩, e3, h6, h2, h3⟩

set_option maxRecDepth 100000 in
set_option maxHeartbeats 4000000 in
theorem begun_law (w : World) : Calls Try.prog 15 #[] w fun e w' => ∃ q D G F, e = .returned (.tuple #[.pointer (some ⟨q, 0, none⟩), .pointer (some ⟨w.heap.size + 1, 0, none⟩), .bool true]) ∧ WalG w' q (w.heap.size + 1) (fmtX 16) D G F 34 20000 ∧ LawD (fmtX 16) 1 D.S ∧ (∀ k, G k → w.heap.size ≤ k) ∧ (∀ k, F k → w.heap.size ≤ k) ∧ Upd (fun _ => False) w w' := by
  go_enter Try.func15, Try.ntmps15
  go_wp2_with (go_at_call 32; fail)
  refine (new_good_disk 34 w (by omega)).mono ?_
  rintro e w1 ⟨F1, rfl, d1, hF1, hu1, hg, hok⟩
  have D1 := Lib.hid d1; have HF1 := Lib.hid hF1; have HU1 := Lib.hid hu1; have HG := Lib.hid hg; have HOK := Lib.hid hok
  clear d1 hF1 hu1 hg hok
  simp only []
  go_wp2_with (go_at_call 23; fail)
  refine (format_good (area := 16) (N := 34) (K := 0) w1 D1.out HG.out HOK.out (by omega) (by omega) (by omega)).mono ?_
  rintro e w2 ⟨q, G2, F2, rfl, hw2, hG2, hF2, hu2⟩
  have hu : Upd (fun _ => False) w w2 := HU1.out.step hu2 (fun k hk e => by have := HF1.out k e; omega)
  have hs1 := HU1.out.size
  have HL := Lib.hid (law_fmt (area := 16) HG.out (by omega) (by omega))
  have HW := Lib.hid hw2; have HU := Lib.hid hu
  have HG2 : RowKit.Hid (∀ k, G2 k → w.heap.size ≤ k) := Lib.hid (fun k hk => by have := hG2 k hk; omega)
  have HF2 : RowKit.Hid (∀ k, F2 k → w.heap.size ≤ k) := Lib.hid (fun k hk => (hF2 k hk).elim (HF1.out k) (fun e => by omega))
  clear hw2 hG2 hF2 hu2 hu hs1 D1 HF1 HU1 HG HOK
  simp only []
  go_wp2
  go_returns
  exact ⟨_, _, _, _, rfl, HW.out, HL.out, HG2.out, HF2.out, HU.out⟩

end Go.Proofs.Ytbimkhdiplnbfaa
end

section
namespace Go.Proofs.Ytbimkhdiplnbfaa
open Go.RowKit

/-- Each version of a sector is what it showed, or one of those laid. -/
def Dk.Vers (D : Dk) (S : Int → List Int) (l : List (Int × List Int)) : Prop := ∀ i : Nat, i < D.arr.length → ∀ v ∈ D.vers i, v.1 = S i ∨ ((i : Int), v.1) ∈ l

theorem callD_arr (D : Dk) (i : Int) (wr : Bool) : (D.callD i wr).arr = D.arr ∧ (D.callD i wr).row = D.row := by
  unfold Dk.callD
  split
  · exact ⟨rfl, rfl⟩
  · split
    · exact ⟨rfl, rfl⟩
    · split
      · exact ⟨rfl, rfl⟩
      · split <;> exact ⟨rfl, rfl⟩

theorem callD_vers (D : Dk) (i : Int) (wr : Bool) (k : Nat) : (D.callD i wr).vers k = D.vers k := by
  unfold Dk.vers
  rw [(callD_arr D i wr).1, (callD_arr D i wr).2]

theorem Dk.Vers.start {D : Dk} (h : D.row = []) (l : List (Int × List Int)) : D.Vers D.S l := by
  intro i _ v hv
  have e : D.vers i = [(D.arr.getD i [], 0)] := by unfold Dk.vers; rw [h]; rfl
  have es : D.S (i : Int) = D.arr.getD i [] := by
    unfold Dk.S Dk.shows
    rw [Int.toNat_natCast, e]
    rfl
  rw [e] at hv
  simp only [List.mem_singleton] at hv
  left
  rw [hv, es]

theorem Dk.Vers.callD {D : Dk} {S : Int → List Int} {l : List (Int × List Int)} (h : D.Vers S l) (i : Int) (wr : Bool) : (D.callD i wr).Vers S l := by
  intro k hk v hv
  rw [(callD_arr D i wr).1] at hk
  rw [callD_vers] at hv
  exact h k hk v hv

theorem write_len (D : Dk) (i : Int) (b : List Int) : (D.write i b).arr.length = D.arr.length := by
  unfold Dk.write
  split
  · show (D.callD i true).arr.length = _
    rw [(callD_arr D i true).1]
  · rw [(callD_arr D i true).1]

theorem Dk.Vers.write {D : Dk} {S : Int → List Int} {l : List (Int × List Int)} (h : D.Vers S l) {i : Int} {b : List Int} (hm : (i, b) ∈ l) (hi : 0 ≤ i) : (D.write i b).Vers S l := by
  unfold Dk.write
  split
  · intro k hk v hv
    have hk' : k < D.arr.length := by
      have : k < (D.callD i true).arr.length := hk
      rwa [(callD_arr D i true).1] at this
    by_cases e : k = i.toNat
    · subst e
      rw [vers_send_same, callD_vers] at hv
      rcases List.mem_append.1 hv with hv | hv
      · exact h _ hk' v hv
      · simp only [List.mem_singleton] at hv
        right
        rw [hv, show ((i.toNat : Nat) : Int) = i by omega]
        exact hm
    · rw [vers_send_other _ _ _ _ e, callD_vers] at hv
      exact h k hk' v hv
  · exact h.callD i true

theorem kept_mem (D : Dk) (lost : Int → Bool) (i : Nat) : ∃ v ∈ D.vers i, v.1 = D.kept lost i := by
  have hc : D.count lost i < (D.vers i).length := by
    unfold Dk.count
    have h1 := List.Sublist.length_le (List.takeWhile_sublist (fun v : List Int × Int => !lost v.2) (l := (D.vers i).tail))
    have h2 : (D.vers i).tail.length = (D.vers i).length - 1 := List.length_tail
    have h3 : 0 < (D.vers i).length := by unfold Dk.vers; simp
    omega
  refine ⟨(D.vers i)[D.count lost i], List.getElem_mem hc, ?_⟩
  unfold Dk.kept
  rw [List.getD_eq_getElem?_getD, List.getElem?_eq_getElem hc]
  rfl

theorem arrive_vers (D : Dk) (lost : Int → Bool) {i : Nat} (hi : i < D.arr.length) : (D.arrive lost).vers i = [(D.kept lost i, 0)] := by
  unfold Dk.vers Dk.arrive
  simp [List.getD_eq_getElem?_getD, hi]

theorem Dk.Vers.arrive {D : Dk} {S : Int → List Int} {l : List (Int × List Int)} (h : D.Vers S l) (lost : Int → Bool) : (D.arrive lost).Vers S l := by
  intro i hi v hv
  have hi' : i < D.arr.length := by simpa [Dk.arrive] using hi
  rw [arrive_vers D lost hi'] at hv
  simp only [List.mem_singleton] at hv
  obtain ⟨u, hu, e⟩ := kept_mem D lost i
  have := h i hi' u hu
  rw [e] at this
  rw [hv]
  exact this

theorem Dk.Vers.sync {D : Dk} {S : Int → List Int} {l : List (Int × List Int)} (h : D.Vers S l) : D.sync.Vers S l := by
  unfold Dk.sync
  split
  · exact (h.callD 0 true).arrive _
  · exact h.callD 0 true

theorem Dk.Vers.lays {S : Int → List Int} {L : List (Int × List Int)} : ∀ (l : List (Int × List Int)) {D : Dk}, D.Vers S L → (∀ x ∈ l, x ∈ L ∧ 0 ≤ x.1) → (D.lays l).Vers S L
  | [], _, h, _ => h.sync
  | (i, b) :: l, D, h, hl => by
    have hx := hl (i, b) (List.mem_cons_self ..)
    unfold Dk.lays
    split
    · exact Dk.Vers.lays l (h.write hx.1 hx.2) (fun x hx => hl x (List.mem_cons_of_mem _ hx))
    · exact h.write hx.1 hx.2

theorem sync_len (D : Dk) : D.sync.arr.length = D.arr.length := by
  unfold Dk.sync
  split
  · show ((List.range (D.callD 0 true).arr.length).map _).length = _
    rw [(callD_arr D 0 true).1]; simp
  · rw [(callD_arr D 0 true).1]

theorem lays_len : ∀ (l : List (Int × List Int)) (D : Dk), (D.lays l).arr.length = D.arr.length
  | [], D => sync_len D
  | (i, b) :: l, D => by
    unfold Dk.lays
    split
    · rw [lays_len l, write_len]
    · exact write_len D i b

theorem crash_good (D : Dk) (keep : List Bool) : (D.crash keep).Good D.arr.length ∧ (D.crash keep).row = [] := ⟨⟨rfl, rfl, rfl, by simp [Dk.crash, Dk.arrive]⟩, rfl⟩

theorem crash_shows' {D : Dk} {keep : List Bool} {i : Nat} (hi : i < D.arr.length) : (D.crash keep).shows i = D.kept (fun n => !D.keepsAt keep n) i := by
  unfold Dk.shows Dk.vers Dk.crash Dk.arrive
  simp [List.getD_eq_getElem?_getD, hi]

/-- Behind a loss of power a sector shows what it showed, or what was laid. -/
theorem Dk.Vers.crash {D : Dk} {S : Int → List Int} {l : List (Int × List Int)} (h : D.Vers S l) (keep : List Bool) {i : Int} (h1 : 0 ≤ i) (h2 : i < D.arr.length) : (D.crash keep).S i = S i ∨ (i, (D.crash keep).S i) ∈ l := by
  have hv := h.arrive (fun n => !D.keepsAt keep n) i.toNat (by simp [Dk.arrive]; omega)
  have hi : i.toNat < D.arr.length := by omega
  rw [arrive_vers D _ hi] at hv
  have hs : (D.crash keep).S i = D.kept (fun n => !D.keepsAt keep n) i.toNat := by
    unfold Dk.S
    exact crash_shows' hi
  have := hv (D.kept (fun n => !D.keepsAt keep n) i.toNat, 0) (List.mem_singleton.2 rfl)
  rw [hs]
  rwa [show ((i.toNat : Nat) : Int) = i by omega] at this

/-! ### Sectors laid without an error -/
theorem callE_zero {D : Dk} {i : Int} (h : D.callE i true = 0) : D.callR i true = true ∧ 0 ≤ i ∧ i < D.arr.length ∧ D.dead = false ∧ (D.callD i true).dead = false := by
  unfold Dk.callE at h
  cases hd : D.dead with
  | true => simp [hd] at h
  | false =>
    rw [hd] at h
    simp only [Bool.false_eq_true, if_false] at h
    by_cases h1 : i < 0 ∨ (D.arr.length : Int) ≤ i
    · rw [if_pos h1] at h; omega
    · rw [if_neg h1] at h
      by_cases h2 : D.arm = 0
      · simp [h2] at h
      · by_cases h3 : D.fail = 0
        · simp [h2, h3] at h
        · refine ⟨by simp [Dk.callR, hd, h3]; omega, by omega, by omega, rfl, ?_⟩
          unfold Dk.callD
          simp [hd, h1, h2, h3]

theorem write_S {D : Dk} {i : Int} (h : D.callE i true = 0) {j : Int} (hj : 0 ≤ j) (b : List Int) : (D.write i b).S j = if j = i then b else D.S j := by
  obtain ⟨h1, h2, _, _⟩ := callE_zero h
  unfold Dk.write Dk.S
  rw [if_pos h1]
  unfold Dk.shows
  by_cases e : j = i
  · subst e
    rw [vers_send_same, List.getLast?_concat, if_pos rfl]
    rfl
  · rw [vers_send_other _ _ _ _ (by omega), callD_vers, if_neg e]

theorem write_dead {D : Dk} {i : Int} (h : D.callE i true = 0) (b : List Int) : (D.write i b).dead = false := by
  obtain ⟨h1, _, _, _, h2⟩ := callE_zero h
  unfold Dk.write
  rw [if_pos h1]
  exact h2

/-- Sectors that were laid, and synced, stand there. -/
theorem lays_done : ∀ (l : List (Int × List Int)) (D : Dk), D.laysE l = 0 → (∀ j : Int, 0 ≤ j → j < D.arr.length → (D.lays l).S j = layS D.S l j) ∧ (D.lays l).row = [] ∧ (D.lays l).dead = false
  | [], D, h => by
    have hc : D.callE 0 true = 0 := h
    obtain ⟨_, _, _, _, hd⟩ := callE_zero hc
    show (∀ j : Int, 0 ≤ j → j < D.arr.length → D.sync.S j = D.S j) ∧ D.sync.row = [] ∧ D.sync.dead = false
    unfold Dk.sync
    rw [if_pos hc]
    refine ⟨fun j h1 h2 => ?_, rfl, hd⟩
    unfold Dk.S
    show ((((D.callD 0 true).arrive (fun _ => false)).vers j.toNat).getLast?.getD (zblk, 0)).1 = D.shows j.toNat
    rw [arrive_vers _ _ (by rw [(callD_arr D 0 true).1]; omega), kept_all]
    unfold Dk.shows
    rw [callD_vers]
    rfl
  | (i, b) :: l, D, h => by
    unfold Dk.laysE at h
    split at h
    · rename_i hc
      obtain ⟨h1, h2, h3⟩ := lays_done l (D.write i b) h
      unfold Dk.lays layS
      rw [if_pos hc]
      refine ⟨fun j g1 g2 => ?_, h2, h3⟩
      rw [h1 j g1 (by rw [write_len]; exact g2)]
      exact layS_congr (N := D.arr.length) l _ _ (fun k k1 _ => write_S hc k1 b) j g1 g2
    · rename_i hc
      exact absurd h hc

end Go.Proofs.Ytbimkhdiplnbfaa
end

section
namespace Go.Proofs.Ytbimkhdiplnbfaa
open Go.RowKit

/-- Some of what was laid stands there. -/
def Mix (area : Int) (S S' : Int → List Int) (l : List (Int × List Int)) : Prop := ∀ i, 0 ≤ i → i < 2 + 2 * area → S' i = S i ∨ (i, S' i) ∈ l

theorem OldC.next {nx τ t : Int} {c : List Int} {k : Nat} (hnx : 0 ≤ nx ∧ nx ≤ 2000000000) (ht : 1 ≤ t ∧ t ≤ 2000000000) (hc : c.length ≤ 40000) (hk : k ≤ 65535) (h : OldC nx τ (cutF t nx false c k)) : t < τ := by
  rcases h with hz | ⟨t', n', s', b', k', e', g1, g2, g3, g4, g5⟩
  · have := cutF_turn (turn := t) (number := nx) (by omega) false c k
    rw [hz, be_zblk] at this
    omega
  · have g6 : k' ≤ 65535 := by unfold secsN at g3; omega
    obtain ⟨c1, c2, _⟩ := cutF_names (by omega) (by omega) (by omega) (by omega) hk g6 hc g2 e'
    have c3 := cutF_snap (by omega) (by omega) (by omega) (by omega) hk g6 hc g2 e'
    rcases g5 with g5 | ⟨_, g5 | g5⟩
    · omega
    · rw [← c3] at g5; cases g5
    · omega

theorem partL_mem {h : Hd} {number place i : Int} {snap : Bool} {b s : List Int} (hm : (i, s) ∈ partL h number place snap b) : ∃ k : Nat, k < secsN b.length ∧ i = atF h.area (place + k) ∧ s = cutF h.turn number snap b k := by
  unfold partL at hm
  rw [List.mem_map] at hm
  obtain ⟨k, hk, e⟩ := hm
  injection e with e1 e2
  exact ⟨k, by simpa using hk, e1.symm, e2.symm⟩

theorem LawD.live {X : Lg} {τ τ' : Int} {S : Int → List Int} (h : LawD X τ S) (hτ : τ ≤ τ') : LawD X τ' S :=
  ⟨h.sum, h.one, h.says, h.place, h.fits, h.next, h.head, h.other, h.parts, fun v h1 h2 => (h.old v h1 h2).mono (.inr ⟨rfl, hτ⟩), h.none⟩

/-- The power goes while a transaction is laid: what was, or it whole. -/
theorem LawD.crash_add {X : Lg} {τ : Int} {S S' : Int → List Int} (h : LawD X τ S) (hτ : τ ≤ X.h.turn) {b : List Int} (hb : b.length ≤ 40000) (hr : X.used + secsN b.length ≤ X.h.area) (hn : X.h.number + X.parts.length + 1 ≤ 2000000000)
    (hm : Mix X.h.area S S' (partL X.h (X.h.number + X.parts.length) (X.h.place + X.used) false b)) : LawD X (X.h.turn + 1) S' ∨ LawD (X.add b) 1 S' := by
  have ha := h.says.area; have ht := h.says.turn; have hs := h.sum; have hnum := h.says.number
  have hsp := secsN_pos b.length
  have hup := usedOf_pos X.parts
  have hat : ∀ p, S' (atF X.h.area p) = S (atF X.h.area p) ∨ (atF X.h.area p, S' (atF X.h.area p)) ∈ partL X.h (X.h.number + X.parts.length) (X.h.place + X.used) false b := fun p => by
    obtain ⟨v, hv, e⟩ := atF_range (area := X.h.area) (p := p) (by omega)
    rw [e]; exact hm _ (by omega) (by omega)
  by_cases hw : ∀ k : Nat, k < secsN b.length → S' (atF X.h.area (X.h.place + X.used + k)) = cutF X.h.turn (X.h.number + X.parts.length) false b k
  · right
    refine (h.add (τ' := 1) hb hr hn (by omega)).congr (fun i h1 h2 => ?_)
    have h2' : i < 2 + 2 * X.h.area := h2
    by_cases hk : ∃ k : Nat, k < secsN b.length ∧ atF X.h.area (X.h.place + X.used + k) = i
    · obtain ⟨k, hk, e⟩ := hk
      rw [← e, hw k hk, layS_part (by omega) (by omega) k hk]
    · rw [layS_part_other (fun k hk' e => hk ⟨k, hk', e⟩)]
      rcases hm i h1 h2' with e | e
      · exact e
      · obtain ⟨k, hk', e1, _⟩ := partL_mem e
        exact absurd ⟨k, hk', e1.symm⟩ hk
  · left
    have hlow : ∀ i, 0 ≤ i → i < 2 → S' i = S i := fun i h1 h2 => by
      rcases hm i h1 (by omega) with e | e
      · exact e
      · obtain ⟨k, _, e1, _⟩ := partL_mem e
        exact absurd e1.symm (atF_ne (by omega) h2)
    refine ⟨h.sum, h.one, h.says, h.place, h.fits, h.next, by rw [hlow _ (by omega) (by omega)]; exact h.head, by rw [hlow _ (by omega) (by omega)]; exact h.other, PartsAt.congr X.parts 0 0 (fun v h1 h2 => ?_) h.parts, fun v h1 h2 => ?_, fun t c h1 h2 hc hl => ?_⟩
    · rcases hat (X.h.place + v) with e | e
      · exact e
      · obtain ⟨k, hk, e1, _⟩ := partL_mem e
        rw [show X.h.place + X.used + (k : Int) = X.h.place + (X.used + k) by omega] at e1
        have := atF_inj (by omega) e1 (by omega) (by omega)
        omega
    · rcases hm (2 + v) (by omega) (by omega) with e | e
      · rw [e]
        exact (h.old v h1 h2).mono (.inr ⟨rfl, by omega⟩)
      · obtain ⟨k, hk, _, e2⟩ := partL_mem e
        rw [e2]
        exact .inr ⟨_, _, _, _, _, rfl, by omega, hb, hk, by omega, .inr ⟨rfl, .inr (by omega)⟩⟩
    · have hold : ∀ k : Nat, k < secsN c.length → S (atF X.h.area (X.h.place + X.used + k)) = cutF t (X.h.number + X.parts.length) false c k → t < τ := fun k hk e => by
        obtain ⟨v, hv, ev⟩ := atF_range (area := X.h.area) (p := X.h.place + X.used + k) (by omega)
        have := h.old v hv.1 hv.2
        rw [← ev, e] at this
        exact this.next (by have := h.next; omega) (by omega) hc (by unfold secsN at hk; omega)
      have hnew : ∀ k : Nat, k < secsN c.length → k < 1000 → (atF X.h.area (X.h.place + X.used + k), S' (atF X.h.area (X.h.place + X.used + k))) ∈ partL X.h (X.h.number + X.parts.length) (X.h.place + X.used) false b → t = X.h.turn := fun k hk _ e => by
        obtain ⟨j, hj, _, e2⟩ := partL_mem e
        have e3 := hl k hk
        rw [e2] at e3
        obtain ⟨c1, _⟩ := cutF_names (by omega) (by omega) (by omega) (by omega) (by unfold secsN at hj; omega) (by unfold secsN at hk; omega) hb hc e3
        exact c1.symm
      have hsc := secsN_pos c.length
      have hk1000 : ∀ k : Nat, k < secsN c.length → k < 1000 := fun k hk => by unfold secsN at hk; omega
      by_cases htt : t = X.h.turn
      · subst htt
        refine hw ?_
        -- the first sector is new: so all are of this very part
        have h0 := hl 0 (by omega)
        rcases hat (X.h.place + X.used + ((0 : Nat) : Int)) with e | e
        · have := hold 0 (by omega) (by rw [← e]; exact h0)
          omega
        · obtain ⟨j, hj, e1, e2⟩ := partL_mem e
          have hj0 := atF_inj (p := X.h.place + X.used) (a := ((0 : Nat) : Int)) (b := (j : Int)) (area := X.h.area) (by omega) e1 (by omega) (by omega)
          obtain rfl : j = 0 := by omega
          rw [h0] at e2
          have hlen : c.length = b.length := by
            have g1 := cutF_len (turn := X.h.turn) (number := X.h.number + X.parts.length) (snap := false) hc
            have g2 := cutF_len (turn := X.h.turn) (number := X.h.number + X.parts.length) (snap := false) hb
            rw [e2, g2] at g1
            omega
          intro k hk
          have hkc : k < secsN c.length := by rw [hlen]; exact hk
          rcases hat (X.h.place + X.used + k) with q | q
          · have := hold k hkc (by rw [← q]; exact hl k hkc)
            omega
          · obtain ⟨m, hm', e3, e4⟩ := partL_mem q
            have hmk : m = k := by
              by_cases hle : k ≤ m
              · have := atF_inj (p := X.h.place + X.used) (area := X.h.area) (by omega) e3 (by omega) (by omega)
                omega
              · have := atF_inj (p := X.h.place + X.used) (area := X.h.area) (by omega) e3.symm (by omega) (by omega)
                omega
            rw [e4, hmk]
      · refine h.none t c h1 h2 hc (fun k hk => ?_)
        rcases hat (X.h.place + X.used + k) with q | q
        · rw [← q]; exact hl k hk
        · exact absurd (hnew k hk (hk1000 k hk) q) htt

/-- The power goes while a snapshot is laid: what was. -/
theorem LawD.crash_snap {X : Lg} {τ : Int} {S S' : Int → List Int} (h : LawD X τ S) {b : List Int} (hb : b.length ≤ 40000) (hr : (secsN b.length : Int) ≤ X.h.area)
    (hm : Mix X.h.area S S' (partL X.h X.cpH.number X.cpH.place true b)) : LawD X τ S' := by
  have ha := h.says.area; have ht := h.says.turn; have hs := h.sum; have hnum := h.says.number; have hnx := h.next
  have hfit := h.fits
  have hup := usedOf_pos X.parts
  have hshift : ∀ k : Nat, atF X.h.area (X.cpH.place + k) = atF X.h.area (X.h.place + (X.used + k)) := fun k => by
    show atF X.h.area ((X.h.place + X.used) % (2 * X.h.area) + k) = _
    rw [atF_shift, show X.h.place + X.used + (k : Int) = X.h.place + (X.used + k) by omega]
  have hat : ∀ p, S' (atF X.h.area p) = S (atF X.h.area p) ∨ (atF X.h.area p, S' (atF X.h.area p)) ∈ partL X.h X.cpH.number X.cpH.place true b := fun p => by
    obtain ⟨v, hv, e⟩ := atF_range (area := X.h.area) (p := p) (by omega)
    rw [e]; exact hm _ (by omega) (by omega)
  have hlow : ∀ i, 0 ≤ i → i < 2 → S' i = S i := fun i h1 h2 => by
    rcases hm i h1 (by omega) with e | e
    · exact e
    · obtain ⟨k, _, e1, _⟩ := partL_mem e
      exact absurd e1.symm (atF_ne (by omega) h2)
  refine ⟨h.sum, h.one, h.says, h.place, h.fits, h.next, by rw [hlow _ (by omega) (by omega)]; exact h.head, by rw [hlow _ (by omega) (by omega)]; exact h.other, PartsAt.congr X.parts 0 0 (fun v h1 h2 => ?_) h.parts, fun v h1 h2 => ?_, fun t c h1 h2 hc hl => ?_⟩
  · rcases hat (X.h.place + v) with e | e
    · exact e
    · obtain ⟨k, hk, e1, _⟩ := partL_mem e
      rw [hshift] at e1
      have := atF_inj (by omega) e1 (by omega) (by omega)
      omega
  · rcases hm (2 + v) (by omega) (by omega) with e | e
    · rw [e]
      exact h.old v h1 h2
    · obtain ⟨k, hk, _, e2⟩ := partL_mem e
      rw [e2]
      exact .inr ⟨_, _, _, _, _, rfl, by omega, hb, hk, by show 0 ≤ X.h.number + (X.parts.length : Int); omega, .inr ⟨rfl, .inl rfl⟩⟩
  · refine h.none t c h1 h2 hc (fun k hk => ?_)
    rcases hat (X.h.place + X.used + k) with q | q
    · rw [← q]; exact hl k hk
    · obtain ⟨j, hj, _, e2⟩ := partL_mem q
      have e3 := hl k hk
      rw [e2] at e3
      have c3 := cutF_snap (by omega) (by omega) (by show 0 ≤ X.h.number + (X.parts.length : Int) ∧ X.h.number + (X.parts.length : Int) ≤ _; omega) (by omega) (by unfold secsN at hj; omega) (by unfold secsN at hk; omega) hb hc e3
      cases c3

theorem Mix.laid {area : Int} {S : Int → List Int} {h : Hd} {number place : Int} {snap : Bool} {b : List Int} (ha : h.area = area) (h1 : 1 ≤ area) (hs : (secsN b.length : Int) ≤ 2 * area) : Mix area S (layS S (partL h number place snap b)) (partL h number place snap b) := by
  intro i _ _
  by_cases hk : ∃ k : Nat, k < secsN b.length ∧ atF h.area (place + k) = i
  · obtain ⟨k, hk, e⟩ := hk
    right
    rw [← e, layS_part (by omega) (by omega) k hk]
    exact List.mem_map.2 ⟨k, by simpa using hk, rfl⟩
  · left
    exact layS_part_other (fun k hk' e => hk ⟨k, hk', e⟩)

/-- The power goes while a snapshot's head is laid: what was, or the new one. -/
theorem LawD.crash_head {X : Lg} {τ : Int} {S S' : Int → List Int} (h : LawD X τ S) {b : List Int} (hb : b.length ≤ 40000) (hr : (secsN b.length : Int) ≤ X.h.area) (hn : X.h.number + X.parts.length ≤ 1073741824) (ht1 : X.h.turn < 1073741824)
    (hm : Mix X.h.area (layS S (partL X.h X.cpH.number X.cpH.place true b)) S' [X.cpH.laid]) : LawD X τ S' ∨ LawD ((⟨X.cpH, [], 0, false⟩ : Lg).add b) 1 S' := by
  have ha := h.says.area
  have h1 := h.crash_snap hb hr (Mix.laid rfl (by omega) (by omega))
  by_cases hx : S' X.cpH.laid.1 = X.cpH.laid.2
  · right
    refine (h.cp (τ' := 1) hb hr hn ht1 (by omega)).congr (fun i g1 g2 => ?_)
    have g2' : i < 2 + 2 * X.h.area := g2
    by_cases hi : i = X.cpH.laid.1
    · rw [hi, hx]
      exact (layS_mem _ _ (List.pairwise_singleton ..) (List.mem_singleton.2 rfl)).symm
    · rw [layS_other _ _ (by intro x hx; simp at hx; subst hx; exact fun e => hi e.symm)]
      rcases hm i g1 g2' with e | e
      · exact e
      · simp only [List.mem_singleton] at e
        exact absurd (congrArg Prod.fst e) hi
  · left
    refine h1.congr (fun i g1 g2 => ?_)
    rcases hm i g1 g2 with e | e
    · exact e
    · simp only [List.mem_singleton] at e
      have e1 := congrArg Prod.fst e; have e2 := congrArg Prod.snd e
      simp only at e1 e2
      rw [e1] at e2
      exact absurd e2 hx

end Go.Proofs.Ytbimkhdiplnbfaa
end

section
namespace Go.Proofs.Ytbimkhdiplnbfaa
open Go.RowKit Go.Shelf

/-- Rows of bytes that came in. -/
def BRows (w : World) (sa : Option Addr) (sn : Nat) (A : Nat → Option Addr) (L C : Nat → Nat) (Z : Nat → List Int) : Prop :=
  ∀ i, i < sn → ∃ b o, sa = some ⟨b, o, none⟩ ∧ b < w.heap.size ∧ w.cell? ⟨b, o + i, none⟩ = some (.slice (A i) (L i) (C i)) ∧ (Z i).length = L i ∧ Bytes (Z i) ∧ BytesIn w (.slice (A i) (L i) (C i)) (Z i)

theorem BRows.kept {w w' : World} {sa : Option Addr} {sn : Nat} {A : Nat → Option Addr} {L C : Nat → Nat} {Z : Nat → List Int} (h : BRows w sa sn A L C Z) (hu : Upd (fun _ => False) w w') : BRows w' sa sn A L C Z := fun i hi => by
  obtain ⟨b, o, h1, h2, h3, h4, h5, h6⟩ := h i hi
  exact ⟨b, o, h1, Nat.lt_of_lt_of_le h2 hu.size, cell_keptF hu (fun e => e) h3, h4, h5, h6.kept hu⟩

theorem bytes_head {w : World} {sa : Option Addr} {n c m : Nat} {bs : List Int} (hb : BytesIn w (.slice sa n c) bs) (hm : m ≤ n) :
    ∃ sb cb, (∀ W, (Instr.slice 28 (.slice sa n c) none (some (.int .i64 (m : Int))) none).run Try.prog W = .ok (.slice sb m cb) W) ∧ BytesIn w (.slice sb m cb) (bs.take m) := by
  have hz : ∀ W : World, (sizeOf (Try.prog.elem 28)).run Try.prog W = .ok 1 W := fun W => by kernel_rfl
  have hnc : n ≤ c := by
    rcases hb with ⟨e, _⟩ | ⟨a, c', e, h2, _⟩
    · injection e with _ e1 e2; omega
    · injection e with _ e1 e2; omega
  refine ⟨if c = 0 then sa else sa.map (·.add (0 * 1)), c - 0, fun W => ?_, ?_⟩
  · rw [run_slice_h W 28 sa n c elem28 .i64 m (by omega) (by omega), hz]
    rfl
  · rcases hb with ⟨e, rfl⟩ | ⟨a, c', e, h2, h3, h4⟩
    · injection e with e0 e1 e2
      subst e0 e1 e2
      obtain rfl : m = 0 := by omega
      exact .inl ⟨rfl, rfl⟩
    · injection e with e0 e1 e2
      subst e0 e2
      refine .inr ⟨a, c - 0, ?_, by simp; omega, by omega, fun i u hi => ?_⟩
      · congr 1
        · split
          · rfl
          · simp [Addr.add]
        · simp; omega
      · have hi2 : (bcells bs)[i]? = some u := by
          have e3 : bcells (bs.take m) = (bcells bs).take m := by simp [bcells]
          rw [e3] at hi
          have hlt := (List.getElem?_eq_some_iff.1 hi).1
          simp only [List.length_take] at hlt
          rwa [List.getElem?_take_of_lt (by omega)] at hi
        exact h4 i u hi2

theorem ownsRow_base {w : World} {B B' : Nat} {e : TypeId} {s : Nat} {v : Value} {n : Nat} {xs : List Value} (h : w.ownsRow B e s v n xs) (hb : B' ≤ B) : w.ownsRow B' e s v n xs := by
  refine ⟨h.1, ?_⟩
  rcases h.2 with h | ⟨g, cap, cur, rfl, h2, h3⟩
  · exact .inl h
  · exact .inr ⟨g, cap, cur, rfl, by omega, h3⟩

/-- Where WalRounds stands. -/
def RdAt (w : World) (q p bc i : Nat) (W : World) : Prop := ∃ (X : Lg) (D : Dk) (G F : Nat → Prop) (sv tv : Value) (vs : List Value) (snap : List Int) (txs : List (List Int)),
  WalG W q p X D G F 34 (20000 + 2000 * i) ∧ LawD X 1 D.S ∧ (∀ k, G k → w.heap.size ≤ k) ∧ (∀ k, F k → w.heap.size ≤ k) ∧ X.h.area = 16 ∧ X.h.number + X.parts.length ≤ 2 + i ∧ X.h.turn ≤ 1 + i ∧
  X.parts = snap :: txs ∧ W.heap[bc]? = some (.cells #[sv, tv] 30 (0, 0)) ∧ ¬ G bc ∧ ¬ F bc ∧ BytesIn w sv snap ∧ W.ownsRow w.heap.size 28 1 tv txs.length vs ∧ (∀ (j : Nat) u b, vs[j]? = some u → txs[j]? = some b → BytesIn w u b) ∧
  (∀ k, tv.ownBlock = some k → ¬ G k ∧ ¬ F k ∧ k ≠ bc) ∧ Upd (fun _ => False) w W

set_option maxRecDepth 100000 in
set_option maxHeartbeats 8000000 in
theorem rounds_run (sa : Option Addr) (sn sc : Nat) (A : Nat → Option Addr) (L C : Nat → Nat) (Z : Nat → List Int) (every : Int) (_hev : -9223372036854775808 ≤ every ∧ every ≤ 9223372036854775807) (w : World) (hsn : sn ≤ 9223372036854775807) (hrows : BRows w sa sn A L C Z) :
    Calls Try.prog 3 #[.slice sa sn sc, .int .i64 every] w fun e w' => e = .returned (.bool true) ∧ Upd (fun _ => False) w w' := by
  have HRW := Lib.hid hrows
  clear hrows
  go_enter Try.func3, Try.ntmps3
  go_wp2_with (go_at_call 14; fail)
  refine (wakes04_run w).mono ?_
  rintro e w1 ⟨rfl, hu1⟩
  have HU1 := Lib.hid hu1
  clear hu1
  simp only []
  go_wp2_with (go_at_call 15; fail)
  refine (begun_law w1).mono ?_
  rintro e w2 ⟨q, D, G, F, rfl, hw2, hl2, hG2, hF2, hu2⟩
  obtain ⟨p, hp⟩ : ∃ p, p = w1.heap.size + 1 := ⟨_, rfl⟩
  rw [← hp] at hw2 ⊢
  have HU2 := Lib.hid (HU1.out.trans hu2)
  have HW2 := Lib.hid hw2; have HL2 := Lib.hid hl2
  have HG2 : RowKit.Hid (∀ k, G k → w.heap.size ≤ k) := Lib.hid (fun k hk => by have := hG2 k hk; have := HU1.out.size; omega)
  have HF2 : RowKit.Hid (∀ k, F k → w.heap.size ≤ k) := Lib.hid (fun k hk => by have := hF2 k hk; have := HU1.out.size; omega)
  clear hw2 hl2 hG2 hF2 hu2 HU1 hp
  simp only []
  go_upto_region 7 with fail
  obtain ⟨bc, hbc⟩ : ∃ bc, bc = w2.heap.size := ⟨_, rfl⟩
  obtain ⟨w3, hw3⟩ : ∃ w3, w3 = w2.alloc (.cells #[.slice none 0 0, .slice none 0 0] 30) := ⟨_, rfl⟩
  have hu23 : Upd (fun _ => False) w2 w3 := by rw [hw3]; exact (Upd.refl _ w2).alloc _
  have hst : RdAt w q p bc 0 w3 := by
    refine ⟨fmtX 16, D, G, F, .slice none 0 0, .slice none 0 0, [], [], [], HW2.out.kept hu23 (fun _ _ e => e) (fun _ _ e => e), HL2.out, HG2.out, HF2.out, rfl, by show (1 : Int) + 1 ≤ 2 + 0; omega, by show (1 : Int) ≤ 1 + 0; omega, rfl, by rw [hw3, hbc]; exact alloc_at rfl, fun e => ?_, fun e => ?_, .inl ⟨rfl, rfl⟩, World.ownsRow_nil _ _ _ _, fun j u b hj => by simp at hj, fun k hk => by simp [Value.ownBlock] at hk, HU2.out.trans hu23⟩
    · have := HW2.out.wal.1.lt _ e; omega
    · have := HW2.out.wal.2.1.lt _ e; omega
  have HST := Lib.hid hst
  have HBC : RowKit.Hid (w.heap.size ≤ bc) := Lib.hid (by rw [hbc]; exact HU2.out.size)
  rw [← hbc, ← hw3]
  clear hst hu23 hw3 hbc HW2 HL2 HG2 HF2 HU2
  obtain ⟨r, hr⟩ : ∃ r : Int, r = (IntKind.u64.wrap every).tmod 5 := ⟨_, rfl⟩
  have hr0 : 0 ≤ r ∧ r ≤ 4 := by
    have h0 : 0 ≤ IntKind.u64.wrap every := by rw [IntKind.wrap_u64]; omega
    rw [hr, Int.tmod_eq_emod_of_nonneg h0]
    omega
  have hr1 : (IntKind.u64.wrap every).tmod 5 = r := hr.symm
  have hr2 : IntKind.i64.wrap r = r := by rw [IntKind.wrap_i64]; omega
  have hr3 : IntKind.i64.wrap (r + 1) = r + 1 := by rw [IntKind.wrap_i64]; omega
  clear hr
  go_upto_block 0 with fail
  clear hr1 hr2 hr3 _hev
  go_cut [] from 10 to 72 (fun wr => ∃ i, i ≤ 60 ∧ RdAt w q p bc i wr)
  case first =>
    go_wp2_with fail
    go_loopg [30] sn (fun gk iv wr => ∃ i : Nat, i ≤ sn ∧ i ≤ 60 ∧ gk = sn - i ∧ iv = .int .i64 i ∧ RdAt w q p bc i wr)
    case atStart => exact ⟨0, by omega, by omega, rfl, rfl, HST.out⟩
    case round =>
      obtain ⟨i, hi, hi60, rfl, rfl, hst⟩ := hrel
      obtain ⟨wo, rfl⟩ : ∃ wo, wo = wr := ⟨_, rfl⟩
      have HS := Lib.hid hst
      clear hst HST
      by_cases hin : i < sn
      · have hin2 : (i : Int) < sn := by omega
        have hu : Upd (fun _ => False) w wo := by
          obtain ⟨_, _, _, _, _, _, _, _, _, _, _, _, _, _, _, _, _, _, _, _, _, _, _, _, h⟩ := HS.out
          exact h
        obtain ⟨b0, o0, hsa, _, hcell, hZl, hZb, hZi⟩ := (HRW.out.kept hu) i hin
        have hZw : BytesIn w (.slice (A i) (L i) (C i)) (Z i) := by
          obtain ⟨_, _, _, _, _, _, _, h⟩ := HRW.out i hin
          exact h
        by_cases h60 : i = 60
        · subst h60
          subst hsa
          clear hu hZl hZb hZi hZw
          go_wp2
          go_meet
          case rel => exact ⟨60, by omega, HS.out⟩
        · have hb60 : ((i : Int) == 60) = false := by simp; omega
          have hi59 : i ≤ 59 := by omega
          subst hsa
          obtain ⟨m, hm⟩ : ∃ m : Nat, m = min (L i) 200 := ⟨_, rfl⟩
          have hmL : m ≤ L i := by omega
          have hm2 : m ≤ 200 := by omega
          obtain ⟨sb, cb, hsl, hbi⟩ := bytes_head hZw hmL
          obtain ⟨bs, hbs⟩ : ∃ bs, bs = (Z i).take m := ⟨_, rfl⟩
          rw [← hbs] at hbi
          have hbl : bs.length = m := by rw [hbs]; simp; omega
          have hbb : Bytes bs := fun x hx => hZb x (List.mem_of_mem_take (by rw [← hbs]; exact hx))
          have HM := Lib.hid hm; have HBI := Lib.hid hbi; have HBB := Lib.hid hbb; have HBL := Lib.hid hbl; have HU := Lib.hid hu
          have HSL := Lib.hid hsl
          clear hm hbi hbb hbl hbs hZi hZw hZb hu hsl
          go_upto_region 12 with fail
          clear hcell
          iterate 13 go_step
          rw [show min (L i : Int) 200 = (m : Int) by rw [HM.out]; omega]
          have hsl := HSL.out
          iterate 6 go_step
          clear hsl
          obtain ⟨X, D, G, F, sv, tv, vs, snap, txs, hwal, hlaw, hGw, hFw, har, hnx, htn, hparts, hbx, hGb, hFb, hsvi, hrow, heach, htv, hup⟩ := HS.out
          have HWAL := Lib.hid hwal; have HLAW := Lib.hid hlaw; have HGW := Lib.hid hGw; have HFW := Lib.hid hFw; have HAR := Lib.hid har; have HNX := Lib.hid hnx; have HTN := Lib.hid htn; have HPA := Lib.hid hparts; have HBX := Lib.hid hbx; have HGB := Lib.hid hGb; have HFB := Lib.hid hFb; have HSV := Lib.hid hsvi; have HROW := Lib.hid hrow; have HEA := Lib.hid heach; have HTV := Lib.hid htv
          have hspan : (0 : Int) ≤ X.used ∧ X.used ≤ 16 := by have h1 := hwal.ok.used; have h2 := hlaw.fits; omega
          have hsec5 : secsN m ≤ 5 := by unfold secsN; omega
          have HSEC := Lib.hid (secsI_nat (n := m) (by omega))
          clear hwal hlaw hGw hFw har hnx htn hparts hbx hGb hFb hsvi hrow heach htv hup HS
          go_upto_region 13 with fail
          go_cut [53] from 42 to 52 (fun c wr => c = .bool (decide ((i : Int) % (r + 1) = 0 ∨ X.h.area - X.used < (secsN m : Int))) ∧ Upd (fun _ => False) wo wr)
          case first =>
            by_cases hz : (i : Int) % (r + 1) = 0
            · have hzb : ((i : Int) % (r + 1) == 0) = true := by simpa using hz
              have HD : RowKit.Hid (decide ((i : Int) % (r + 1) = 0 ∨ X.h.area - X.used < (secsN m : Int)) = true) := Lib.hid (by simp [hz])
              have hne : ((r + 1 : Int) == 0) = false := by simp; omega
              clear hz
              go_wp2
              go_meet
              case rel => exact ⟨by rw [HD.out], Upd.refl _ _⟩
            · have hzb : ((i : Int) % (r + 1) == 0) = false := by simpa using hz
              have HD : RowKit.Hid (decide ((i : Int) % (r + 1) = 0 ∨ X.h.area - X.used < (secsN m : Int)) = decide (X.h.area - X.used < (secsN m : Int))) := Lib.hid (by simp [hz])
              have hne : ((r + 1 : Int) == 0) = false := by simp; omega
              clear hz
              go_wp2_with (go_at_call 16; fail)
              refine (sectors_any _ _).mono ?_
              rintro e w5 ⟨rfl, rfl⟩
              rw [HSEC.out]
              simp only []
              go_wp2_with (go_at_call 17; fail)
              refine (left_any _ HWAL.out.wal.1 HWAL.out.ok).mono ?_
              rintro e w6 ⟨rfl, hu6⟩
              have HU6 := Lib.hid hu6
              clear hu6
              simp only []
              go_wp2
              go_meet
              case rel => exact ⟨by rw [HD.out], HU6.out⟩
          case rest =>
            obtain ⟨rfl, huc⟩ := hcut
            have HUC := Lib.hid huc
            clear huc
            by_cases hcp : (i : Int) % (r + 1) = 0 ∨ X.h.area - X.used < (secsN m : Int)
            · rw [show decide ((i : Int) % (r + 1) = 0 ∨ X.h.area - X.used < (secsN m : Int)) = true by simpa using hcp]
              clear hcp
              go_wp2_with (go_at_call 19; fail)
              refine (clone_any wc (by rw [HBL.out]; omega) (HBI.out.kept (HU.out.trans HUC.out))).mono ?_
              rintro e w5 ⟨u, rfl, hou, _, hu5⟩
              have HU5 := Lib.hid (HU.out.trans (HUC.out.trans hu5))
              have HUO5 := Lib.hid (HUC.out.trans hu5)
              have HOU := Lib.hid hou
              clear hou hu5
              have hw5 := HWAL.out.kept HUO5.out (fun _ _ e => e) (fun _ _ e => e)
              have hwlt := hw5.wal.1.lt; have hflt := hw5.wal.2.1.lt; have hqm := hw5.wal.1.mem
              have hcp := cp_good (b := bs) w5 hw5 (by omega) HBB.out (by rw [HBL.out]; omega) (by rw [HBL.out, HAR.out]; omega) (by have := HNX.out; omega) (by have := HTN.out; omega) HOU.out.bytesIn (fun hne a n c e => by
                have hk := (World.ownsRow.lt HOU.out a.block (by rw [e]; rfl)).1
                have hs := HUC.out.size
                have h1 : ∀ k, G k → k < wc.heap.size := (HWAL.out.kept HUC.out (fun _ _ e => e) (fun _ _ e => e)).wal.1.lt
                have h2 : ∀ k, F k → k < wc.heap.size := (HWAL.out.kept HUC.out (fun _ _ e => e) (fun _ _ e => e)).wal.2.1.lt
                exact ⟨fun e => by have := h2 _ e; omega, fun e => by have := h1 _ hqm; omega⟩)
              have HCP := Lib.hid hcp
              have HW5 := Lib.hid hw5
              clear hcp hwlt hflt hqm hw5
              simp only []
              go_wp2_with (go_at_call 18; fail)
              refine HCP.out.mono ?_
              rintro e w6 ⟨rfl, G2, F2, hwal6, hG2, hF2, hu6⟩
              have hbx6 := (hu6.block bc (lt_of_heap ((HUO5.out.block _ (lt_of_heap HBX.out) (fun e => e)).trans HBX.out)) (fun e => e.elim HGB.out HFB.out)).trans ((HUO5.out.block _ (lt_of_heap HBX.out) (fun e => e)).trans HBX.out)
              have c0 := (cells2_of hbx6).1; have c1 := (cells2_of hbx6).2
              have f0 : w6.frozen? ⟨bc, 0, none⟩ = false := frozen_of_heap hbx6
              have f1 : w6.frozen? ⟨bc, 1, none⟩ = false := frozen_of_heap hbx6
              have HWAL6 := Lib.hid hwal6; have HG2 := Lib.hid hG2; have HF2 := Lib.hid hF2; have HU6 := Lib.hid hu6; have HBX6 := Lib.hid hbx6
              clear hwal6 hG2 hF2 hu6 hbx6 HCP
              simp only []
              go_upto_region 20 with fail
              obtain ⟨w7, hw7⟩ : ∃ w7, w7 = (w6.setCell ⟨bc, 0, none⟩ (.slice sb m cb)).setCell ⟨bc, 1, none⟩ (.slice none 0 0) := ⟨_, rfl⟩
              rw [← hw7]
              have hu67 : Upd (fun k => k = bc) w6 w7 := by rw [hw7]; exact (upd_own w6 bc 0 _).trans (upd_own _ bc 1 _)
              have hbcl : bc < w5.heap.size := Nat.lt_of_lt_of_le (lt_of_heap HBX.out) HUO5.out.size
              have hg2b : ¬ G2 bc := fun e => (HG2.out _ e).elim HGB.out (fun e => by omega)
              have hf2b : ¬ F2 bc := fun e => (HF2.out _ e).elim HFB.out (fun e => by omega)
              have hnext : RdAt w q p bc (i + 1) w7 := by
                have hw := HWAL6.out.kept hu67 (fun k hk e => hg2b (by rw [← e]; exact hk)) (fun k hk e => hf2b (by rw [← e]; exact hk))
                have hs5 := HU5.out.size
                refine ⟨_, _, G2, F2, .slice sb m cb, .slice none 0 0, [], bs, [], by rw [show 20000 + 2000 * (i + 1) = 20000 + 2000 * i + 2000 by omega]; exact hw, law_cp HLAW.out HWAL.out.good HWAL.out.fits HBB.out (by rw [HBL.out]; omega) (by rw [HBL.out, HAR.out]; omega) (by have := HNX.out; omega) (by have := HTN.out; omega), fun k hk => (HG2.out k hk).elim (HGW.out k) (fun e => by omega), fun k hk => (HF2.out k hk).elim (HFW.out k) (fun e => by omega), HAR.out, ?_, ?_, rfl, ?_, hg2b, hf2b, HBI.out, World.ownsRow_nil _ _ _ _, fun j u' b hj => by simp at hj, fun k hk => by simp [Value.ownBlock] at hk, ?_⟩
                · show X.h.number + (X.parts.length : Int) + 1 ≤ 2 + ((i + 1 : Nat) : Int)
                  have := HNX.out; omega
                · show X.h.turn + 1 ≤ 1 + ((i + 1 : Nat) : Int)
                  have := HTN.out; omega
                · have h1 := blk_set (i := 0) (v := .slice sb m cb) HBX6.out
                  have h2 := blk_set (i := 1) (v := .slice none 0 0) h1
                  rw [hw7]
                  simpa using h2
                · refine (HU5.out.step HU6.out (fun k hk e => ?_)).step hu67 (fun k hk e => by have := HBC.out; omega)
                  rcases e with e | e
                  · have := HGW.out k e; omega
                  · have := HFW.out k e; omega
              have HNEXT := Lib.hid hnext
              clear hnext hu67 hw7 c0 c1 f0 f1
              go_wp2
              go_roundg (sn - (i + 1))
              case measure => omega
              case rel => exact ⟨i + 1, by omega, by omega, rfl, congrArg _ (by omega), HNEXT.out⟩
            · have hfit : X.used + (secsN m : Int) ≤ X.h.area := by
                have h1 : ¬ X.h.area - X.used < (secsN m : Int) := fun e => hcp (.inr e)
                omega
              rw [show decide ((i : Int) % (r + 1) = 0 ∨ X.h.area - X.used < (secsN m : Int)) = false by simpa using hcp]
              clear hcp
              go_wp2_with (go_at_call 19; fail)
              refine (clone_any wc (by rw [HBL.out]; omega) (HBI.out.kept (HU.out.trans HUC.out))).mono ?_
              rintro e w5 ⟨u, rfl, hou, _, hu5⟩
              have HU5 := Lib.hid (HU.out.trans (HUC.out.trans hu5))
              have HUO5 := Lib.hid (HUC.out.trans hu5)
              have HOU := Lib.hid hou
              clear hou hu5
              have hw5 := HWAL.out.kept HUO5.out (fun _ _ e => e) (fun _ _ e => e)
              have hqm := hw5.wal.1.mem
              have hplen : (X.parts.length : Int) ≤ 1000 := by have := HWAL.out.ok.len; omega
              have hpl2 : (X.parts.length : Int) ≤ X.used := by rw [HLAW.out.sum]; exact len_le_used _
              have hap := append_good (b := bs) w5 hw5 (by omega) (by omega) HBB.out (by rw [HBL.out]; omega) (by rw [HBL.out]; exact hfit) (by have := HNX.out; omega) HOU.out.bytesIn (fun hne a n c e => by
                have hk := (World.ownsRow.lt HOU.out a.block (by rw [e]; rfl)).1
                have hs := HUC.out.size
                have h1 : ∀ k, G k → k < wc.heap.size := (HWAL.out.kept HUC.out (fun _ _ e => e) (fun _ _ e => e)).wal.1.lt
                have h2 : ∀ k, F k → k < wc.heap.size := (HWAL.out.kept HUC.out (fun _ _ e => e) (fun _ _ e => e)).wal.2.1.lt
                exact ⟨fun e => by have := h2 _ e; omega, fun e => by have := h1 _ hqm; omega⟩)
              have HAP := Lib.hid hap
              have HW5 := Lib.hid hw5
              clear hap hqm hw5
              simp only []
              go_wp2_with (go_at_call 20; fail)
              refine HAP.out.mono ?_
              rintro e w6 ⟨rfl, G2, F2, hwal6, hG2, hF2, hu6⟩
              have hk56 : ∀ k, k < w5.heap.size → ¬ G k → ¬ F k → w6.heap[k]? = w5.heap[k]? := fun k hk h1 h2 => hu6.block k hk (fun e => e.elim h1 h2)
              have hbx5 := (HUO5.out.block _ (lt_of_heap HBX.out) (fun e => e)).trans HBX.out
              have hbx6 := (hk56 bc (lt_of_heap hbx5) HGB.out HFB.out).trans hbx5
              have hrow5 := ownsRow_any HROW.out HUO5.out (fun _ _ e => e)
              have hrow6 := ownsRow_heap hrow5 (fun k hk => hk56 k (World.ownsRow.lt hrow5 k hk).2 (HTV.out k hk).1 (HTV.out k hk).2.1)
              have hbcl : bc < w5.heap.size := lt_of_heap hbx5
              have hg2b : ¬ G2 bc := fun e => (hG2 _ e).elim HGB.out (fun e => by omega)
              have hf2b : ¬ F2 bc := fun e => (hF2 _ e).elim HFB.out (fun e => by omega)
              have htv2 : ∀ k, tv.ownBlock = some k → ¬ G2 k ∧ ¬ F2 k ∧ k ≠ bc := fun k hk => by
                obtain ⟨g1, g2, g3⟩ := HTV.out k hk
                have := (World.ownsRow.lt hrow5 k hk).2
                exact ⟨fun e => (hG2 k e).elim g1 (fun e => by omega), fun e => (hF2 k e).elim g2 (fun e => by omega), g3⟩
              obtain ⟨ta, tc, htvd⟩ := rowV hrow6
              subst htvd
              have c1 := (cells2_of hbx6).2
              have htl : txs.length ≤ 999 := by
                have h1 : X.parts.length = txs.length + 1 := by rw [HPA.out]; simp
                omega
              have HWAL6 := Lib.hid hwal6; have HG2 := Lib.hid hG2; have HF2 := Lib.hid hF2; have HU6 := Lib.hid hu6; have HBX6 := Lib.hid hbx6; have HROW6 := Lib.hid hrow6; have HTV2 := Lib.hid htv2
              clear hwal6 hG2 hF2 hu6 hbx6 hbx5 hrow5 hrow6 htv2 hk56 HAP
              simp only []
              go_upto_region 19 with fail
              iterate 13 go_step
              obtain ⟨i0, hi0, hz0, hz1, hz2⟩ := info_parts Try.info28p
              refine wpList_append_own_at _ rfl (.tmp 67) (.tmp 69) 22 rfl w.heap.size 28 i0 (.slice none 0 0) 1 24 Try.underlying22 hi0 hz0 hz1 hz2 rfl (by omega) _ _ _ rfl (HROW6.out.alloc _) ⟨w6.heap.size, 0, none⟩ 1 1 [.slice sb m cb] rfl rfl (cell_one_new _ _ _) (by simp [Value.oneCell']) (by unfold maxLen; omega) (by omega) (by have := HU5.out.size; have := HU6.out.size; simp; omega) ?_
              intro v' w8 hown8 hgrow _ hat8
              obtain ⟨g8, cap8, rfl⟩ := ownsRow_succ hown8
              have hua : Upd (fun _ => False) w6 (w6.alloc (.cells #[.slice sb m cb] 28)) := (Upd.refl _ w6).alloc _
              have hu68 : Upd (fun k => (Value.slice ta txs.length tc).ownBlock = some k) w6 w8 := (hua.mono (fun _ _ e => e.elim)).trans (Upd.of_grown hgrow (fun k hk => hk))
              have hbx8 := (hu68.block bc (lt_of_heap HBX6.out) (fun e => (HTV2.out bc e).2.2 rfl)).trans HBX6.out
              have c18 := (cells2_of hbx8).2
              have f18 : w8.frozen? ⟨bc, 1, none⟩ = false := frozen_of_heap hbx8
              have hloc : (Value.slice ta txs.length tc).ownBlock = some g8 ∨ g8 = w6.heap.size + 1 := by
                rcases hat8 with e | e
                · exact .inl (show (Value.slice ta txs.length tc).ownBlock = some g8 from e.symm)
                · simp [Value.ownBlock] at e; exact .inr e
              have hg8 : ¬ G2 g8 ∧ ¬ F2 g8 ∧ g8 ≠ bc := by
                rcases hloc with e | e
                · exact HTV2.out g8 e
                · have h1 := HWAL6.out.wal.1.lt; have h2 := HWAL6.out.wal.2.1.lt; have h3 := lt_of_heap HBX6.out
                  exact ⟨fun q => by have := h1 _ q; omega, fun q => by have := h2 _ q; omega, by omega⟩
              obtain ⟨w9, hw9⟩ : ∃ w9, w9 = w8.setCell ⟨bc, 1, none⟩ (.slice (some ⟨g8, 0, none⟩) (txs.length + 1) cap8) := ⟨_, rfl⟩
              have hu89 : Upd (fun k => k = bc) w8 w9 := by rw [hw9]; exact upd_own w8 bc 1 _
              have hnext : RdAt w q p bc (i + 1) w9 := by
                have hw := (HWAL6.out.kept hu68 (fun k hk e => (HTV2.out k e).1 hk) (fun k hk e => (HTV2.out k e).2.1 hk)).kept hu89 (fun k hk e => hg2b (by rw [← e]; exact hk)) (fun k hk e => hf2b (by rw [← e]; exact hk))
                have hs5 := HU5.out.size
                refine ⟨_, _, G2, F2, sv, .slice (some ⟨g8, 0, none⟩) (txs.length + 1) cap8, vs ++ [.slice sb m cb], snap, txs ++ [bs], by rw [show 20000 + 2000 * (i + 1) = 20000 + 2000 * i + 2000 by omega]; exact hw, law_app HLAW.out HWAL.out.good HWAL.out.fits HBB.out (by rw [HBL.out]; omega) (by rw [HBL.out]; exact hfit) (by have := HNX.out; omega), fun k hk => (HG2.out k hk).elim (HGW.out k) (fun e => by omega), fun k hk => (HF2.out k hk).elim (HFW.out k) (fun e => by omega), HAR.out, ?_, ?_, ?_, ?_, hg2b, hf2b, HSV.out, ?_, ?_, ?_, ?_⟩
                · show X.h.number + ((X.parts ++ [bs]).length : Int) ≤ 2 + ((i + 1 : Nat) : Int)
                  have := HNX.out; simp; omega
                · show X.h.turn ≤ 1 + ((i + 1 : Nat) : Int)
                  have := HTN.out; omega
                · show X.parts ++ [bs] = snap :: (txs ++ [bs])
                  rw [HPA.out]; rfl
                · have h1 := blk_set (i := 1) (v := .slice (some ⟨g8, 0, none⟩) (txs.length + 1) cap8) hbx8
                  rw [hw9]
                  simpa using h1
                · rw [List.length_append]
                  exact ownsRow_heap hown8 (fun k hk => hu89.block k (World.ownsRow.lt hown8 k hk).2 (fun e => hg8.2.2 (by simp [Value.ownBlock] at hk; omega)))
                · intro j u' b hj hb
                  have hvl : vs.length = txs.length := by have := HROW.out.1; omega
                  by_cases hjt : j < txs.length
                  · rw [List.getElem?_append_left (by omega)] at hj hb
                    exact HEA.out j u' b hj hb
                  · rw [List.getElem?_append_right (by omega)] at hj hb
                    have hj0 : j - vs.length = 0 := by
                      have := (List.getElem?_eq_some_iff.1 hj).1
                      simp at this; omega
                    rw [hj0] at hj
                    rw [show j - txs.length = 0 by omega] at hb
                    simp at hj hb
                    rw [← hj, ← hb]
                    exact HBI.out
                · intro k hk
                  simp [Value.ownBlock] at hk
                  rw [← hk]; exact hg8
                · refine (((HU5.out.step HU6.out (fun k hk e => ?_)).step hu68 (fun k hk e => ?_))).step hu89 (fun k hk e => by have := HBC.out; omega)
                  · rcases e with e | e
                    · have := HGW.out k e; omega
                    · have := HFW.out k e; omega
                  · have := (World.ownsRow.lt HROW.out k e).1
                    omega
              have HNEXT := Lib.hid hnext
              clear hnext hu89 hg8 hloc hat8 hu68 hua hown8 hgrow hbx8 hi0 hz0 hz1 hz2 c1
              go_upto_region 20 with fail
              rw [← hw9]
              clear hw9 c18 f18
              go_wp2
              go_roundg (sn - (i + 1))
              case measure => omega
              case rel => exact ⟨i + 1, by omega, by omega, rfl, congrArg _ (by omega), HNEXT.out⟩
      · obtain rfl : i = sn := by omega
        have hin2 : ¬ (i : Int) < i := by omega
        go_wp2
        go_meet
        case rel => exact ⟨i, hi60, HS.out⟩
  case rest =>
    obtain ⟨i, hi60, X, D, G, F, sv, tv, vs, snap, txs, hwal, hlaw, hGw, hFw, har, hnx, htn, hparts, hbx, hGb, hFb, hsvi, hrow, heach, htv, hup⟩ := hcut
    have hbyt := hwal.ok.bytes
    have hlen := hwal.ok.len
    rw [hparts] at hbyt hlen
    have hopen := open_good wc hwal.wal.2.1 hlaw hwal.good hwal.dok (by omega) hwal.fits (by omega) (by have := hlaw.says.turn; omega)
    have HOP := Lib.hid hopen
    have HIN : RowKit.Hid (∀ W Y q' G', Upd F wc W → Log W q' p Y G' → Y.Ok → Y.parts = X.parts → Y.h.area = 16 → Y.used = X.used → Calls Try.prog 22 #[.agg #[sv, tv], .pointer (some ⟨q', 0, none⟩)] W fun e w' => e = .returned (.bool true) ∧ Upd (fun _ => False) W w') := Lib.hid (fun W Y q' G' hu hlg hok hp ha hus => by
      have huw : Upd (fun _ => False) w W := hup.step hu (fun k hk e => by have := hFw k e; omega)
      have := in_any (snap := snap) (txs := txs) W hlg hok (by rw [hp, hparts]; simp) ha (by rw [hus, hlaw.sum, hp]) (hsvi.kept huw) (hbyt snap (List.mem_cons_self ..)).1 (hbyt snap (List.mem_cons_self ..)).2
        ⟨vs, ownsRow_base (ownsRow_heap hrow (fun k hk => hu.block k (World.ownsRow.lt hrow k hk).2 (htv k hk).2.1)) (by omega), fun j u b hj hb => (heach j u b hj hb).kept huw⟩ (fun b hb => hbyt b (List.mem_cons_of_mem _ hb)) (by simp at hlen; omega)
      rw [show decide (Y.parts = snap :: txs) = true by rw [hp, hparts]; simp] at this
      exact this)
    have HW := Lib.hid hwal; have HUP := Lib.hid hup; have HBX := Lib.hid hbx; have HFB := Lib.hid hFb; have HAR := Lib.hid har; have HFW := Lib.hid hFw
    clear hwal hlaw hGw hFw har hnx htn hparts hbx hGb hFb hsvi hrow heach htv hup hbyt hlen hopen HST HRW
    go_wp2_with (go_at_call 21; fail)
    refine HOP.out.mono ?_
    rintro e w4 ⟨q2, D2, G2, F2, rfl, hw4, _, hG2, hF2, hu4⟩
    have hbx4 := (hu4.block bc (lt_of_heap HBX.out) HFB.out).trans HBX.out
    have c0 := (cells2_of hbx4).1; have c1 := (cells2_of hbx4).2
    have hlg1 : Log w4 q p X G := HW.out.wal.1.kept hu4 (fun k hk => HW.out.wal.2.2 k hk)
    have HI1 := Lib.hid (HIN.out w4 X q G hu4 hlg1 HW.out.ok rfl HAR.out rfl)
    have HI2 : RowKit.Hid (∀ W, Upd (fun _ => False) w4 W → Calls Try.prog 22 #[.agg #[sv, tv], .pointer (some ⟨q2, 0, none⟩)] W fun e w' => e = .returned (.bool true) ∧ Upd (fun _ => False) W w') := Lib.hid (fun W hu => HIN.out W X.on q2 G2 (hu4.trans (hu.mono (fun _ _ e => e.elim))) (hw4.wal.1.kept hu (fun _ _ e => e)) hw4.ok rfl HAR.out rfl)
    have HU4 : RowKit.Hid (Upd (fun _ => False) w w4) := Lib.hid (HUP.out.step hu4 (fun k hk e => by have := HFW.out k e; omega))
    have HBX4 := Lib.hid hbx4
    clear hw4 hG2 hF2 hu4 hbx4 hlg1 HOP HIN HW HUP HBX HFB HAR HFW
    simp only []
    go_wp2_with (go_at_call 22; fail)
    refine HI1.out.mono ?_
    rintro e w5 ⟨rfl, hu5⟩
    have hbx5 := (hu5.block bc (lt_of_heap HBX4.out) (fun e => e)).trans HBX4.out
    have d0 := (cells2_of hbx5).1; have d1 := (cells2_of hbx5).2
    have HU5 := Lib.hid hu5
    clear hu5 hbx5 c0 c1 HI1
    simp only []
    go_wp2_with (go_at_call 22; fail)
    refine (HI2.out _ HU5.out).mono ?_
    rintro e w6 ⟨rfl, hu6⟩
    have HU6 := Lib.hid (HU4.out.trans (HU5.out.trans hu6))
    clear hu6 d0 d1
    simp only []
    go_wp2
    go_ret
    exact ⟨rfl, HU6.out⟩

end Go.Proofs.Ytbimkhdiplnbfaa
end

section
namespace Go.Proofs.Ytbimkhdiplnbfaa
open Go.RowKit

theorem Dk.Good.alive {D : Dk} {N : Nat} (h : D.Good N) {l : List (Int × List Int)} (hN : 0 < N) (hl : ∀ x ∈ l, 0 ≤ x.1 ∧ x.1 < N) : (D.lays l).row = [] := (lays_done l D (h.lays l hN hl).1).2.1

/-- The power goes behind so many Writes: at the Sync. -/
theorem lays_armed : ∀ (l : List (Int × List Int)) (D : Dk), D.dead = false → D.fail = -1 → D.arm = l.length → 0 < D.arr.length → (∀ x ∈ l, 0 ≤ x.1 ∧ x.1 < (D.arr.length : Int)) → D.laysE l = 9
  | [], D, h1, _, h3, h4, _ => by
    show D.callE 0 true = 9
    simp at h3
    unfold Dk.callE
    rw [if_neg (by rw [h1]; simp), if_neg (by omega), if_pos ⟨rfl, h3⟩]
  | (i, b) :: l, D, h1, h2, h3, h4, hl => by
    have hi := hl (i, b) (List.mem_cons_self ..)
    simp only at hi
    have n1 : ¬ (i < 0 ∨ (D.arr.length : Int) ≤ i) := by omega
    have n2 : ¬ D.arm = 0 := by simp at h3; omega
    have he : D.callE i true = 0 := by unfold Dk.callE; simp [h1, h2, n1, n2]
    have hr : D.callR i true = true := (callE_zero he).1
    have hd : D.callD i true = { D with fail := max (D.fail - 1) (-1), ops := D.ops + 1, arm := max (D.arm - 1) (-1) } := by
      unfold Dk.callD; simp [h1, h2, n1, n2]
    unfold Dk.laysE
    rw [if_pos he]
    refine lays_armed l _ ?_ ?_ ?_ (by rw [write_len]; exact h4) (fun x hx => by rw [write_len]; exact hl x (List.mem_cons_of_mem _ hx))
    · unfold Dk.write; rw [if_pos hr, hd]; exact h1
    · unfold Dk.write; rw [if_pos hr, hd]; show max (D.fail - 1) (-1) = -1; omega
    · unfold Dk.write; rw [if_pos hr, hd]; show max (D.arm - 1) (-1) = l.length; simp at h3; omega

/-- A log, the law of its disk, and nothing on its way. -/
structure WalS (w : World) (q p : Nat) (X : Lg) (D : Dk) (G F : Nat → Prop) (K : Nat) : Prop where
  g : WalG w q p X D G F 34 K
  law : LawD X X.h.turn D.S
  row : D.row = []

theorem WalS.kept {w w' : World} {q p : Nat} {X : Lg} {D : Dk} {G F H : Nat → Prop} {K : Nat} (h : WalS w q p X D G F K) (hu : Upd H w w') (h1 : ∀ k, G k → ¬ H k) (h2 : ∀ k, F k → ¬ H k) : WalS w' q p X D G F K :=
  ⟨h.g.kept hu h1 h2, h.law, h.row⟩

theorem append_live {q p : Nat} {X : Lg} {D : Dk} {G F : Nat → Prop} {K : Nat} {v : Value} {b : List Int} (w : World) (h : WalS w q p X D G F K) (hK : K ≤ 1000000000) (hb : Bytes b) (hl : b.length ≤ 40000) (hn : X.h.number + X.parts.length ≤ 1073741824) (hbi : BytesIn w v b)
    (hsv : b ≠ [] → ∀ a n c, v = .slice (some a) n c → ¬ F a.block ∧ a.block ≠ q) (har : X.h.area ≤ 900) :
    Calls Try.prog 20 #[.pointer (some ⟨q, 0, none⟩), v] w fun e w' =>
      (X.h.area < X.used + secsN b.length ∧ e = .returned (.int .i64 6) ∧ Upd (fun _ => False) w w') ∨
      (X.used + secsN b.length ≤ X.h.area ∧ e = .returned (.int .i64 0) ∧ ∃ D' G' F', WalS w' q p (X.add b) D' G' F' (K + 2000) ∧ (∀ k, G' k → G k ∨ w.heap.size ≤ k) ∧ (∀ k, F' k → F k ∨ w.heap.size ≤ k) ∧ Upd (fun k => G k ∨ F k) w w') := by
  have hpl : (X.parts.length : Int) ≤ X.used := by rw [h.law.sum]; exact len_le_used _
  have hfit := h.law.fits
  by_cases hr : X.used + secsN b.length ≤ X.h.area
  · refine (append_good w h.g (by omega) hK hb hl hr hn hbi hsv).mono ?_
    rintro e w' ⟨rfl, G', F', h1, h2, h3, h4⟩
    exact .inr ⟨hr, rfl, _, G', F', ⟨h1, (law_app h.law h.g.good h.g.fits hb hl hr (by omega)).live (by have := h.law.says.turn; show 1 ≤ X.h.turn; omega), h.g.good.alive (by omega) (partSc_bound hb (by have := h.law.says.area; omega) h.g.fits)⟩, h2, h3, h4⟩
  · refine (append_full w h.g (by omega) hK hb hl (by omega) hbi hsv).mono ?_
    rintro e w' ⟨rfl, h1⟩
    exact .inl ⟨by omega, rfl, h1⟩

theorem open_live {p K : Nat} {X : Lg} {τ : Int} {D : Dk} {F : Nat → Prop} (w : World) (hD : Dsk w p D F) (h : LawD X τ D.S) (hg : D.Good 34) (hok : D.Ok K) (hK : K ≤ 1000000000) (hN : 2 + 2 * X.h.area ≤ 34) (ht : X.h.turn < 1073741824) (hτ : τ ≤ X.h.turn + 1) :
    Calls Try.prog 21 #[.pointer (some ⟨p, 0, none⟩)] w fun e w' => ∃ q D' G' F', e = .returned (.tuple #[.pointer (some ⟨q, 0, none⟩), .int .i64 0]) ∧ WalS w' q p X.on D' G' F' (K + 1002000) ∧ (∀ k, G' k → w.heap.size ≤ k) ∧ (∀ k, F' k → F k ∨ w.heap.size ≤ k) ∧ Upd F w w' := by
  obtain ⟨D', e1, e2, e3⟩ := openD_law h hg hok (by omega) ht hτ
  have hrow : D'.row = [] := by
    have ha := h.says.area
    obtain ⟨e0, g0, r0, s0⟩ := hg.callR (i := 0) (by omega)
    obtain ⟨e1', g1, r1, s1⟩ := g0.callR (i := 1) (by omega)
    obtain ⟨D2, f1, f2, f3, f4⟩ := foundD_good (h := X.h) (N := 34) (by omega) (by omega) 1001 [] 0 ((D.callD 0 false).callD 1 false) (by omega) g1
    have hlen : (X.parts.length : Int) ≤ X.used := by rw [h.sum]; exact len_le_used _
    have hfit := h.fits
    rw [s1, s0, h.found (startN_nonneg hok) (by omega)] at f1
    have hb := headSc_bound (h := X.on.h) (N := 34) (by omega)
    obtain ⟨l1, l2⟩ := f2.lays (raw [headSc X.on.h]) (by omega) hb
    have e4 : openD D = (some X.on, 0, D2.lays (raw [headSc X.on.h])) := by
      unfold openD
      rw [if_pos e0, if_pos e1', r0, r1, s0, h.counts]
      unfold openH
      rw [if_neg (by have := g1.len; simp; omega)]
      show openP X.h (foundD X.h 1001 [] 0 _) = _
      rw [f1]
      unfold openP
      rw [if_pos rfl, if_neg (by have := h.one; simp; exact ⟨this, by omega⟩)]
      unfold openL
      rw [if_pos (by exact l1)]
      unfold Lg.on
      rw [h.sum]
      rfl
    rw [e4] at e1
    have : D2.lays (raw [headSc X.on.h]) = D' := by injection e1 with _ e1; injection e1
    rw [← this]
    exact f2.alive (by omega) hb
  refine (open_any w hD hok (by omega)).mono ?_
  rintro e w' hx
  rw [e1] at hx
  obtain ⟨F', h1, h2, h3, h4, q, G', rfl, h5, h6, h7, h8⟩ := hx
  exact ⟨q, D', G', F', rfl, ⟨⟨⟨h5, h1, h7⟩, h8, rfl, e2, h4, by show 2 + 2 * X.h.area ≤ 34; omega⟩, e3, hrow⟩, h6, h2, h3⟩

set_option maxRecDepth 100000 in
set_option maxHeartbeats 4000000 in
theorem begun_live (w : World) : Calls Try.prog 15 #[] w fun e w' => ∃ q D G F, e = .returned (.tuple #[.pointer (some ⟨q, 0, none⟩), .pointer (some ⟨w.heap.size + 1, 0, none⟩), .bool true]) ∧ WalS w' q (w.heap.size + 1) (fmtX 16) D G F 20000 ∧ (∀ k, G k → w.heap.size ≤ k) ∧ (∀ k, F k → w.heap.size ≤ k) ∧ Upd (fun _ => False) w w' := by
  go_enter Try.func15, Try.ntmps15
  go_wp2_with (go_at_call 32; fail)
  refine (new_good_disk 34 w (by omega)).mono ?_
  rintro e w1 ⟨F1, rfl, d1, hF1, hu1, hg, hok⟩
  have D1 := Lib.hid d1; have HF1 := Lib.hid hF1; have HU1 := Lib.hid hu1; have HG := Lib.hid hg; have HOK := Lib.hid hok
  clear d1 hF1 hu1 hg hok
  simp only []
  go_wp2_with (go_at_call 23; fail)
  refine (format_good (area := 16) (N := 34) (K := 0) w1 D1.out HG.out HOK.out (by omega) (by omega) (by omega)).mono ?_
  rintro e w2 ⟨q, G2, F2, rfl, hw2, hG2, hF2, hu2⟩
  have hu : Upd (fun _ => False) w w2 := HU1.out.step hu2 (fun k hk e => by have := HF1.out k e; omega)
  have hs1 := HU1.out.size
  have hrow : (fmtD (Dk.new 34) 16 3).row = [] := by
    have b1 := zl_bound (area := 16) (N := 34) (by omega)
    have b2 : ∀ x ∈ raw (partSc (fmtH 16) 1 0 true [] bytes_nil), 0 ≤ x.1 ∧ x.1 < ((34 : Nat) : Int) := partSc_bound bytes_nil (by show (1 : Int) ≤ 16; omega) (by show (2 : Int) + 2 * 16 ≤ 34; omega)
    have b3 : ∀ x ∈ raw [headSc (fmtH 16)], 0 ≤ x.1 ∧ x.1 < ((34 : Nat) : Int) := headSc_bound (by omega)
    exact (((HG.out.lays _ (by omega) b1).2.lays _ (by omega) b2).2).alive (by omega) b3
  have HW : RowKit.Hid (WalS w2 q (w.heap.size + 1) (fmtX 16) (fmtD (Dk.new 34) 16 3) G2 F2 20000) := Lib.hid ⟨hw2, law_fmt (area := 16) HG.out (by omega) (by omega), hrow⟩
  have HU := Lib.hid hu
  have HG2 : RowKit.Hid (∀ k, G2 k → w.heap.size ≤ k) := Lib.hid (fun k hk => by have := hG2 k hk; omega)
  have HF2 : RowKit.Hid (∀ k, F2 k → w.heap.size ≤ k) := Lib.hid (fun k hk => (hF2 k hk).elim (HF1.out k) (fun e => by omega))
  clear hw2 hG2 hF2 hu2 hu hs1 hrow D1 HF1 HU1 HG HOK
  simp only []
  go_wp2
  go_returns
  exact ⟨_, _, _, _, rfl, HW.out, HG2.out, HF2.out, HU.out⟩

end Go.Proofs.Ytbimkhdiplnbfaa
end

section
namespace Go.Proofs.Ytbimkhdiplnbfaa
open Go.RowKit

/-- A log that goes on; its disk may be set to fail. -/
structure LiveP (X : Lg) (D : Dk) : Prop where
  ok : X.Ok
  unbroken : X.broken = false
  law : LawD X X.h.turn D.S
  row : D.row = []
  dead : D.dead = false
  len : D.arr.length = 34
  area : X.h.area = 16

/-- Behind a loss of power there is the one or the other. -/
def Shaky (D : Dk) (P1 P2 : List (List Int)) (T M : Int) : Prop := D.arr.length = 34 ∧ ∀ keep, ∃ Y τ, LawD Y τ (D.crash keep).S ∧ τ ≤ Y.h.turn + 1 ∧ Y.h.area = 16 ∧ (Y.parts = P1 ∨ Y.parts = P2) ∧ Y.h.turn ≤ T ∧ Y.h.number + Y.parts.length ≤ M

theorem callE_cases (D : Dk) (i : Int) (wr : Bool) : D.callE i wr = 0 ∨ D.callE i wr = 2 ∨ D.callE i wr = 8 ∨ D.callE i wr = 9 := by
  unfold Dk.callE
  split
  · omega
  · split
    · omega
    · split
      · omega
      · split <;> omega

theorem laysE_cases : ∀ (l : List (Int × List Int)) (D : Dk), D.laysE l = 0 ∨ D.laysE l = 2 ∨ D.laysE l = 8 ∨ D.laysE l = 9
  | [], D => callE_cases D 0 true
  | (i, b) :: l, D => by
    unfold Dk.laysE
    split
    · exact laysE_cases l _
    · exact callE_cases D i true

theorem cpE_cases (X : Lg) (D : Dk) (b : List Int) (hb : Bytes b) : X.cpE D b hb = 0 ∨ X.cpE D b hb = 2 ∨ X.cpE D b hb = 8 ∨ X.cpE D b hb = 9 := by
  unfold Lg.cpE
  split
  · exact laysE_cases _ _
  · exact laysE_cases _ _

theorem mix_crash {D D' : Dk} {l : List (Int × List Int)} (h : D'.Vers D.S l) (hl : D'.arr.length = 34) (keep : List Bool) : Mix 16 D.S (D'.crash keep).S l :=
  fun i h1 h2 => h.crash keep h1 (by omega)

theorem LiveP.vers {X : Lg} {D : Dk} (h : LiveP X D) (l : List (Int × List Int)) (hl : ∀ x ∈ l, 0 ≤ x.1) : (D.lays l).Vers D.S l :=
  Dk.Vers.lays l (Dk.Vers.start h.row l) (fun x hx => ⟨hx, hl x hx⟩)

/-- Nothing was on its way. -/
theorem LiveP.shaky {X : Lg} {D : Dk} {P2 : List (List Int)} {T M : Int} (h : LiveP X D) (ht : X.h.turn ≤ T) (hm : X.h.number + X.parts.length ≤ M) : Shaky D X.parts P2 T M := by
  refine ⟨h.len, fun keep => ⟨X, X.h.turn, h.law.congr (fun i h1 h2 => ?_), by omega, h.area, .inl rfl, ht, hm⟩⟩
  have ha := h.area; have hl := h.len
  have hm := mix_crash (D := D) (l := []) (Dk.Vers.start h.row []) h.len keep i h1 (by omega)
  rcases hm with e | e
  · exact e
  · cases e

theorem secs16 {X : Lg} (h : X.Ok) (ha : X.h.area = 16) {n : Nat} (hr : X.used + secsN n ≤ X.h.area) : secsN n ≤ 16 := by
  have := h.used; omega

theorem LiveP.add {X : Lg} {D : Dk} (h : LiveP X D) {b : List Int} (hb : Bytes b) (hl : b.length ≤ 40000) (hr : X.used + secsN b.length ≤ X.h.area) (hn : X.h.number + X.parts.length ≤ 1073741824) (he : D.laysE (X.apS b hb) = 0) : LiveP (X.add b) (D.lays (X.apS b hb)) := by
  obtain ⟨h1, h2, h3⟩ := lays_done (X.apS b hb) D he
  have hlen := h.len; have ha := h.area
  have hpl : (X.parts.length : Int) ≤ X.used := by rw [h.law.sum]; exact len_le_used _
  have hf := h.law.fits
  have ht := h.law.says.turn
  refine ⟨h.ok.add hb hl hr (by omega), h.unbroken, ?_, h2, h3, by rw [lays_len]; exact hlen, h.area⟩
  refine ((h.law.add (τ' := 1) hl hr (by omega) (by omega)).congr (fun i g1 g2 => ?_)).live (by show 1 ≤ X.h.turn; omega)
  have g2' : i < 2 + 2 * X.h.area := g2
  rw [h1 i g1 (by omega)]
  unfold Lg.apS
  rw [partL_raw]

theorem LiveP.add_shaky {X : Lg} {D : Dk} (h : LiveP X D) {b : List Int} (hb : Bytes b) (hl : b.length ≤ 40000) (hr : X.used + secsN b.length ≤ X.h.area) (hn : X.h.number + X.parts.length ≤ 1073741824) {T M : Int} (hT : X.h.turn ≤ T) (hM : X.h.number + X.parts.length + 1 ≤ M) : Shaky (D.lays (X.apS b hb)) X.parts (X.parts ++ [b]) T M := by
  have hlen := h.len; have ha := h.area
  refine ⟨by rw [lays_len]; exact hlen, fun keep => ?_⟩
  have hbd : ∀ x ∈ X.apS b hb, 0 ≤ x.1 ∧ x.1 < (34 : Nat) := partSc_bound hb (by omega) (by omega)
  have hm := mix_crash (h.vers (X.apS b hb) (fun x hx => (hbd x hx).1)) (by rw [lays_len]; exact hlen) keep
  have hm' : Mix X.h.area D.S ((D.lays (X.apS b hb)).crash keep).S (partL X.h (X.h.number + X.parts.length) (X.h.place + X.used) false b) := by
    rw [ha]
    rw [show X.apS b hb = partL X.h (X.h.number + X.parts.length) (X.h.place + X.used) false b from partL_raw hb] at hm ⊢
    exact hm
  rcases h.law.crash_add (Int.le_refl _) hl hr (by omega) hm' with q | q
  · exact ⟨X, _, q, Int.le_refl _, ha, .inl rfl, hT, by omega⟩
  · exact ⟨X.add b, 1, q, by have := h.law.says.turn; show 1 ≤ X.h.turn + 1; omega, ha, .inr rfl, hT, by show X.h.number + ((X.parts ++ [b]).length : Int) ≤ M; simp; omega⟩

theorem laid_raw (X : Lg) : raw [headSc X.cpH] = [X.cpH.laid] := rfl

theorem LiveP.cp {X : Lg} {D : Dk} (h : LiveP X D) {b : List Int} (hb : Bytes b) (hl : b.length ≤ 40000) (hr : (secsN b.length : Int) ≤ X.h.area) (hn : X.h.number + X.parts.length ≤ 1073741824) (ht : X.h.turn < 1073741824) (he : X.cpE D b hb = 0) : LiveP (X.cp b 0) (X.cpD D b hb) := by
  have hlen := h.len; have ha := h.area; have h1 := h.ok.turn; have h2 := h.ok.place; have h3 := h.ok.number; have h4 := h.ok.used
  have e1 : D.laysE (X.cpS b hb) = 0 := by
    unfold Lg.cpE at he
    split at he
    · assumption
    · exact he
  have e2 : (D.lays (X.cpS b hb)).laysE (raw [headSc X.cpH]) = 0 := by
    unfold Lg.cpE at he
    rwa [if_pos e1] at he
  obtain ⟨s1, r1, d1⟩ := lays_done _ _ e1
  obtain ⟨s2, r2, d2⟩ := lays_done _ _ e2
  have hnp0 := Int.emod_nonneg (X.h.place + X.used) (b := 2 * X.h.area) (by omega)
  have hnp1 := Int.emod_lt_of_pos (X.h.place + X.used) (b := 2 * X.h.area) (by omega)
  have hok2 : (⟨X.cpH, [], 0, false⟩ : Lg).Ok := ⟨(by show 0 ≤ X.h.turn + 1 ∧ X.h.turn + 1 ≤ 1073741824; omega), h.ok.area, (by show 0 ≤ (X.h.place + X.used) % (2 * X.h.area) ∧ (X.h.place + X.used) % (2 * X.h.area) ≤ 100000; omega), (by show 0 ≤ X.h.number + X.parts.length ∧ X.h.number + X.parts.length ≤ 1073741825; omega), (by show (0 : Int) ≤ 0 ∧ (0 : Int) ≤ 1000; omega), (by simp), (by simp)⟩
  unfold Lg.cpD Lg.cp
  rw [if_pos e1, if_pos rfl]
  refine ⟨hok2.add hb hl (by show (0 : Int) + secsN b.length ≤ X.h.area; omega) (by simp), rfl, ?_, r2, d2, by rw [lays_len, lays_len]; exact hlen, ha⟩
  refine ((h.law.cp (τ' := 1) hl hr hn ht (by omega)).congr (fun i g1 g2 => ?_)).live (by have := h.law.says.turn; show 1 ≤ X.h.turn + 1; omega)
  have g2' : i < 2 + 2 * X.h.area := g2
  rw [s2 i g1 (by rw [lays_len]; omega), laid_raw]
  refine layS_congr (N := 34) _ _ _ (fun j g3 g4 => ?_) i g1 (by omega)
  rw [s1 j g3 (by omega)]
  unfold Lg.cpS
  rw [partL_raw]

theorem LiveP.cp_shaky {X : Lg} {D : Dk} (h : LiveP X D) {b : List Int} (hb : Bytes b) (hl : b.length ≤ 40000) (hr : (secsN b.length : Int) ≤ X.h.area) (hn : X.h.number + X.parts.length ≤ 1073741824) (ht : X.h.turn < 1073741824) {T M : Int} (hT : X.h.turn + 1 ≤ T) (hM : X.h.number + X.parts.length + 1 ≤ M) : Shaky (X.cpD D b hb) X.parts [b] T M := by
  have hlen := h.len; have ha := h.area
  have hbd : ∀ x ∈ X.cpS b hb, 0 ≤ x.1 ∧ x.1 < (34 : Nat) := partSc_bound hb (by omega) (by omega)
  have hcs : X.cpS b hb = partL X.h X.cpH.number X.cpH.place true b := partL_raw hb
  by_cases e1 : D.laysE (X.cpS b hb) = 0
  · obtain ⟨s1, r1, d1⟩ := lays_done _ _ e1
    unfold Lg.cpD
    rw [if_pos e1]
    refine ⟨by rw [lays_len, lays_len]; exact hlen, fun keep => ?_⟩
    have hb2 : ∀ x ∈ raw [headSc X.cpH], 0 ≤ x.1 ∧ x.1 < (34 : Nat) := headSc_bound (by omega)
    have hv : ((D.lays (X.cpS b hb)).lays (raw [headSc X.cpH])).Vers (D.lays (X.cpS b hb)).S (raw [headSc X.cpH]) := Dk.Vers.lays _ (Dk.Vers.start r1 _) (fun x hx => ⟨hx, (hb2 x hx).1⟩)
    have hm := mix_crash hv (by rw [lays_len, lays_len]; exact hlen) keep
    have hm' : Mix X.h.area (layS D.S (partL X.h X.cpH.number X.cpH.place true b)) (((D.lays (X.cpS b hb)).lays (raw [headSc X.cpH])).crash keep).S [X.cpH.laid] := by
      intro i g1 g2
      have := hm i g1 (by omega)
      rw [s1 i g1 (by omega), hcs] at this
      rw [← laid_raw, hcs]
      exact this
    rcases h.law.crash_head hl hr hn ht hm' with q | q
    · exact ⟨X, _, q, by omega, ha, .inl rfl, by omega, by omega⟩
    · exact ⟨_, 1, q, by have := h.law.says.turn; show 1 ≤ X.h.turn + 1 + 1; omega, ha, .inr rfl, hT, by show X.h.number + (X.parts.length : Int) + ((1 : Nat) : Int) ≤ M; omega⟩
  · unfold Lg.cpD
    rw [if_neg e1]
    refine ⟨by rw [lays_len]; exact hlen, fun keep => ?_⟩
    have hm := mix_crash (h.vers (X.cpS b hb) (fun x hx => (hbd x hx).1)) (by rw [lays_len]; exact hlen) keep
    have hm' : Mix X.h.area D.S ((D.lays (X.cpS b hb)).crash keep).S (partL X.h X.cpH.number X.cpH.place true b) := by
      rw [ha]
      rw [hcs] at hm ⊢
      exact hm
    exact ⟨X, _, h.law.crash_snap hl hr hm', by omega, ha, .inl rfl, by omega, by omega⟩

end Go.Proofs.Ytbimkhdiplnbfaa
end

