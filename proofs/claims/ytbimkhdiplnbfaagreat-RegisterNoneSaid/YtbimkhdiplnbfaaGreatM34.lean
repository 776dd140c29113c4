/- Walks: what is played to a register that is opened (found's closure). -/
import Derived.Test.YtbimkhdiplnbfaaGreatM20
import Derived.Test.YtbimkhdiplnbfaaGreatM26
import Derived.Test.YtbimkhdiplnbfaaGreatM29
import Derived.Test.YtbimkhdiplnbfaaGreatM33
import Derived.Test.YtbimkhdiplnbfaaGreatM36
set_option linter.unusedVariables false
set_option linter.unusedSimpArgs false

section
namespace Go.Proofs.YtbimkhdiplnbfaaGreat
set_option maxRecDepth 100000
open Go.RowKit Go.Shelf

def playS (s : Int × KV) (x : List Int) : Int × KV := if (decF x).2 = 0 ∧ doE s.1 s.2 (decF x).1 = 0 then ((decF x).1.epoch, s.2.withs (decF x).1.sets) else s
def playK (s : Int × KV) (x : List Int) : Bool := decide ((decF x).2 = 0 ∧ doE s.1 s.2 (decF x).1 = 0)

structure PlayAt (w : World) (ab sb kb : Nat) (area ev : Int) (b n : Nat) (C : Nat → Prop) (l : KV) (ok : Bool) : Prop where
  a : w.heap[ab]? = some (.cells #[.int .i64 area] 3 (0, 0))
  s : w.heap[sb]? = some (.cells #[.int .u64 ev, .map (some b)] 167 (0, 0))
  k : w.heap[kb]? = some (.cells #[.bool ok] 4 (0, 0))
  m : MapKV w b n C l
  fine : l.Fine
  ev : 0 ≤ ev ∧ ev ≤ 4611686018427387904

theorem PlayAt.kept0 {w w' : World} {ab sb kb : Nat} {area ev : Int} {b n : Nat} {C : Nat → Prop} {l : KV} {ok : Bool} (h : PlayAt w ab sb kb area ev b n C l ok) (hu : Upd (fun _ => False) w w') : PlayAt w' ab sb kb area ev b n C l ok :=
  ⟨(hu.block _ (lt_of_heap h.a) (fun e => e)).trans h.a, (hu.block _ (lt_of_heap h.s) (fun e => e)).trans h.s, (hu.block _ (lt_of_heap h.k) (fun e => e)).trans h.k, h.m.kept0 hu, h.fine, h.ev⟩

theorem cells_ne {w : World} {i j : Nat} {cs ds : Array Value} {t u : TypeId} (h1 : w.heap[i]? = some (.cells cs t (0, 0))) (h2 : w.heap[j]? = some (.cells ds u (0, 0))) (h : t ≠ u) : i ≠ j := by
  rintro rfl
  rw [h1] at h2
  injection h2 with h2
  injection h2 with _ h2
  exact h h2
theorem map_ne {w : World} {b n i : Nat} {C : Nat → Prop} {l : KV} {cs : Array Value} {t : TypeId} (hm : MapKV w b n C l) (h : w.heap[i]? = some (.cells cs t (0, 0))) : b ≠ i := by
  rintro rfl
  obtain ⟨es, c, q⟩ := hm.1.isMapBlock
  rw [h] at q
  cases q
theorem C_ne {w : World} {b n i : Nat} {C : Nat → Prop} {l : KV} {cs : Array Value} {t : TypeId} (hm : MapKV w b n C l) (h : w.heap[i]? = some (.cells cs t (0, 0))) (ht : t ≠ 5) : ∀ k, C k → k ≠ i := by
  rintro k hk rfl
  obtain ⟨ds, q⟩ := hm.1.rowC k hk
  rw [h] at q
  injection q with q
  injection q with _ q
  exact ht q

theorem PlayAt.setA {w : World} {ab sb kb : Nat} {area ev : Int} {b n : Nat} {C : Nat → Prop} {l : KV} {ok : Bool} (h : PlayAt w ab sb kb area ev b n C l ok) (x : Int) : PlayAt (w.setCell ⟨ab, 0, none⟩ (.int .i64 x)) ab sb kb x ev b n C l ok := by
  have hu := upd_own w ab 0 (.int .i64 x)
  refine ⟨?_, (hu.block _ (lt_of_heap h.s) (cells_ne h.s h.a (by decide))).trans h.s, (hu.block _ (lt_of_heap h.k) (cells_ne h.k h.a (by decide))).trans h.k, h.m.kept hu (map_ne h.m h.a) (C_ne h.m h.a (by decide)), h.fine, h.ev⟩
  have := blk_set (i := 0) (v := .int .i64 x) h.a
  simpa using this
theorem PlayAt.setK {w : World} {ab sb kb : Nat} {area ev : Int} {b n : Nat} {C : Nat → Prop} {l : KV} {ok : Bool} (h : PlayAt w ab sb kb area ev b n C l ok) (x : Bool) : PlayAt (w.setCell ⟨kb, 0, none⟩ (.bool x)) ab sb kb area ev b n C l x := by
  have hu := upd_own w kb 0 (.bool x)
  refine ⟨(hu.block _ (lt_of_heap h.a) (cells_ne h.a h.k (by decide))).trans h.a, (hu.block _ (lt_of_heap h.s) (cells_ne h.s h.k (by decide))).trans h.s, ?_, h.m.kept hu (map_ne h.m h.k) (C_ne h.m h.k (by decide)), h.fine, h.ev⟩
  have := blk_set (i := 0) (v := .bool x) h.k
  simpa using this
theorem PlayAt.setS {w : World} {ab sb kb : Nat} {area ev ev' : Int} {b n b' n' : Nat} {C C' : Nat → Prop} {l l' : KV} {ok : Bool} (h : PlayAt w ab sb kb area ev b n C l ok) (hm : MapKV w b' n' C' l') (hf : l'.Fine) (he : 0 ≤ ev' ∧ ev' ≤ 4611686018427387904) :
    PlayAt ((w.setCell ⟨sb, 0, none⟩ (.int .u64 ev')).setCell ⟨sb, 1, none⟩ (.map (some b'))) ab sb kb area ev' b' n' C' l' ok ∧ Upd (fun k => k = sb) w ((w.setCell ⟨sb, 0, none⟩ (.int .u64 ev')).setCell ⟨sb, 1, none⟩ (.map (some b'))) := by
  obtain ⟨p1, p2⟩ := put2 (u := .int .u64 ev') (v := .map (some b')) h.s
  exact ⟨⟨(p2.block _ (lt_of_heap h.a) (cells_ne h.a h.s (by decide))).trans h.a, p1, (p2.block _ (lt_of_heap h.k) (cells_ne h.k h.s (by decide))).trans h.k, hm.kept p2 (map_ne hm h.s) (C_ne hm h.s (by decide)), hf, he⟩, p2⟩

theorem do_any3 {b n c : Nat} {C : Nat → Prop} {ev : Int} {a : Option Addr} {l : KV} {B : BatchV} (w0 w : World) (h0 : w0.heap.size ≤ w.heap.size) (hm : MapKV w b n C l) (hn : n ≤ 1000000) (hl : l.Fine) (hs : SetsIn w a B.sets) (hr : B.right = true) :
    Calls Tryz.prog 96 #[.agg #[.int .u64 ev, .map (some b)], .agg #[.int .u64 B.epoch, .bool B.large, .slice a B.sets.length c]] w fun e w' => ∃ ev' b', e = .returned (.tuple #[.agg #[.int .u64 ev', .map (some b')], .int .i64 (doE ev l B)]) ∧ DidIn w0 n C ev l B ev' b' w' ∧ (doE ev l B ≠ 0 → ev' = ev ∧ b' = b) ∧ Upd (fun _ => False) w w' := by
  refine (do_any (c := c) w hm hn hl hs hr).mono ?_
  rintro e w' ⟨hu, ⟨hE, rfl⟩ | ⟨hE, b', n', C', rfl, h1, h2, h3, h4⟩⟩
  · exact ⟨ev, b, rfl, fun e => absurd e hE, fun _ => ⟨rfl, rfl⟩, hu⟩
  · refine ⟨B.epoch, b', by rw [hE]; rfl, fun _ => ⟨rfl, by omega, n', C', h1, ?_, fun k hk => (h4 k hk).imp_right (by omega)⟩, fun e => absurd hE e, hu⟩
    have := (BatchV.right_sets hr).2.1
    omega

def PlayAns (w : World) (ab sb kb : Nat) (area ev : Int) (b n : Nat) (C : Nat → Prop) (l : KV) (ok : Bool) (xs : List Int) (w' : World) : Prop :=
  ∃ b' n' C', PlayAt w' ab sb kb (area + secsI xs.length) (playS (ev, l) xs).1 b' n' C' (playS (ev, l) xs).2 (ok && playK (ev, l) xs) ∧ n' ≤ n + 48 ∧ (b' = b ∨ w.heap.size ≤ b') ∧ (∀ k, C' k → C k ∨ w.heap.size ≤ k) ∧ Upd (fun k => k = ab ∨ k = sb ∨ k = kb) w w'

set_option maxHeartbeats 8000000 in
theorem play_any {ab sb kb : Nat} {area ev : Int} {b n xc : Nat} {C : Nat → Prop} {l : KV} {ok : Bool} {xa : Option Addr} {xs : List Int} (w : World) (h : PlayAt w ab sb kb area ev b n C l ok) (hx : BytesIn w (.slice xa xs.length xc) xs) (hB : Bytes xs) (hl : xs.length ≤ 1099511627776) (hab : ∀ a, xa = some a → xs ≠ [] → a.block ≠ ab) (har : -1000000000 ≤ area ∧ area ≤ 1000000000) (hn : n ≤ 900000) :
    Calls Tryz.prog 154 #[.slice xa xs.length xc, .pointer (some ⟨ab, 0, none⟩), .pointer (some ⟨sb, 0, none⟩), .pointer (some ⟨kb, 0, none⟩)] w fun e w' => (∃ v, e = .returned v) ∧ PlayAns w ab sb kb area ev b n C l ok xs w' := by
  have hs0 : 0 ≤ secsI xs.length ∧ secsI xs.length ≤ 1000 := by unfold secsI; split <;> omega
  have hws : IntKind.i64.wrap (area + secsI xs.length) = area + secsI xs.length := by rw [IntKind.wrap_i64]; omega
  have HPA := Lib.hid h; have HX := Lib.hid hx; have HB := Lib.hid hB; have HAB := Lib.hid hab
  clear h hx hB hab
  go_enter Tryz.func154, Tryz.ntmps154
  go_upto_region 0 with fail
  have hA : w.drew.cell? ⟨ab, 0, none⟩ = some (.int .i64 area) := cells1_of HPA.out.a
  have HPA2 := Lib.hid (HPA.out.kept0 ((Upd.refl (fun _ => False) w).drew))
  have HX2 := Lib.hid (HX.out.kept ((Upd.refl (fun _ => False) w).drew))
  have HU0 := Lib.hid ((Upd.refl (fun _ => False) w).drew)
  refine wp_region_G 5 (fun W => W.cell? ⟨ab, 0, none⟩ = some (.int .i64 area)) [false, false, false, false, false, false] rfl (by kernel_rfl) ?_
  generalize w.drew = wd at hA HPA2 HX2 HU0 ⊢
  refine wpG_takeT (i := 0) (v := .int .i64 area) rfl (fun L hc h => (hc.waits (n := 5) (i := 0) (by kernel_rfl) h)) (by kernel_rfl) (fun _ _ _ h => h) hA (.inl ⟨rfl, fun w5 q1 => ?_⟩) ?_
  · go_simp
  simp only [Act.put, List.setIfInBounds_toArray, List.set]
  refine wpG_takeT (i := 1) (v := .slice xa xs.length xc) rfl (fun L hc h => (hc.waits (n := 5) (i := 1) (by kernel_rfl) h)) (by kernel_rfl) (fun _ _ _ h => h) hA (.inl ⟨rfl, fun w5 q1 => ?_⟩) ?_
  · go_simp
  simp only [Act.put, List.setIfInBounds_toArray, List.set]
  refine wpG_takeT (i := 2) (v := .int .i64 xs.length) rfl (fun L hc h => (hc.waits (n := 5) (i := 2) (by kernel_rfl) h)) (by kernel_rfl) (fun _ _ _ h => h) hA (.inl ⟨rfl, fun w5 q1 => ?_⟩) ?_
  · go_simp
  simp only [Act.put, List.setIfInBounds_toArray, List.set]
  refine wpG_do (i := 3) rfl (by kernel_rfl) rfl (fun K hK => ?_)
  have HKK := Lib.hid hK
  clear hK
  go_step
  refine (sectors_any xs.length wd).mono ?_
  rintro e wd2 ⟨rfl, rfl⟩
  refine HKK.out _ _ hA ?_
  clear HKK
  simp only [Act.put, List.setIfInBounds_toArray, List.set]
  refine wpG_takeT (i := 4) (v := .int .i64 (area + secsI xs.length)) rfl (fun L hc h => (hc.waits (n := 5) (i := 4) (by kernel_rfl) h)) (by kernel_rfl) (fun _ _ _ h => h) hA (.inl ⟨rfl, fun w5 q1 => ?_⟩) ?_
  · go_simp
  simp only [Act.put, List.setIfInBounds_toArray, List.set]
  refine wpG_tail_lit (k := 5) rfl rfl (by kernel_rfl) ?_
  simp only [List.drop]
  have f0 : wd.frozen? ⟨ab, 0, none⟩ = false := frozen_of_heap HPA2.out.a
  have c0 := cells1_of HPA2.out.a
  clear hA
  go_upto_region 1 with fail
  obtain ⟨w2, hw2⟩ : ∃ w2, w2 = wd.setCell ⟨ab, 0, none⟩ (.int .i64 (area + secsI xs.length)) := ⟨_, rfl⟩
  rw [← hw2]
  have hu2 : Upd (fun k => k = ab) wd w2 := by rw [hw2]; exact upd_own wd ab 0 _
  have HP2 := Lib.hid (show PlayAt w2 ab sb kb (area + secsI xs.length) ev b n C l ok by rw [hw2]; exact HPA2.out.setA _)
  have HXX := Lib.hid (show BytesIn w2 (.slice xa xs.length xc) xs from HX2.out.keptF hu2 (fun hne a' n' c' e => by injection e with e; exact HAB.out a' e hne))
  have HU2 := Lib.hid (show Upd (fun k => k = ab ∨ k = sb ∨ k = kb) w w2 from (HU0.out.mono (F := fun _ => False) (fun _ _ e => e.elim)).trans (hu2.mono (F := fun k => k = ab) (fun _ _ e => .inl e)))
  clear hw2 hu2 f0 c0 hws
  go_wp2_with (go_at_call 27; fail)
  refine (decode_any w2 HXX.out HB.out hl).mono ?_
  rintro e w3 ⟨ba, bc, rfl, ⟨CB, hsa, hrc, hlb⟩, hfin, _, hu3⟩
  obtain ⟨B, hBB⟩ : ∃ B, B = (decF xs).1 := ⟨_, rfl⟩
  obtain ⟨E, hE⟩ : ∃ E, E = (decF xs).2 := ⟨_, rfl⟩
  rw [← hBB] at hsa hfin
  rw [← hBB, ← hE]
  have HBE := Lib.hid hBB; have HEE := Lib.hid hE; have HSA := Lib.hid hsa.setsIn; have HFI := Lib.hid hfin
  have HP3 := Lib.hid (HP2.out.kept0 hu3)
  have HU3 := Lib.hid (show Upd (fun k => k = ab ∨ k = sb ∨ k = kb) w w3 from HU2.out.trans (hu3.mono (F := fun _ => False) (fun _ _ e => e.elim)))
  clear hBB hE hsa hrc hlb hfin hu3 HP2 HPA2 HX2 HXX HU0
  unfold batchV
  simp only []
  go_upto_region 2 with fail
  obtain ⟨w4, hw4⟩ : ∃ w4, w4 = w3.alloc (.cells #[.int .u64 B.epoch, .bool B.large, .slice ba B.sets.length bc] 56) := ⟨_, rfl⟩
  rw [← hw4]
  have hu4 : Upd (fun _ => False) w3 w4 := by rw [hw4]; exact (Upd.refl _ w3).alloc _
  have hx4 : w4.heap[w3.heap.size]? = some (.cells #[.int .u64 B.epoch, .bool B.large, .slice ba B.sets.length bc] 56 (0, 0)) := by rw [hw4]; exact alloc_at rfl
  have HP4 := Lib.hid (HP3.out.kept0 hu4)
  have HSA := Lib.hid (HSA.out.kept hu4)
  have HU4 := Lib.hid (show Upd (fun k => k = ab ∨ k = sb ∨ k = kb) w w4 from HU3.out.trans (hu4.mono (F := fun _ => False) (fun _ _ e => e.elim)))
  have HX4 := Lib.hid hx4
  generalize w3.heap.size = t5 at hx4 HX4 ⊢
  clear hw4 hu4 hx4 HP3 HU3
  have c3 := cells1_of HP4.out.k
  have f3 : w4.frozen? ⟨kb, 0, none⟩ = false := frozen_of_heap HP4.out.k
  by_cases hE0 : E = 0
  rotate_left
  · have hE1 : (E == 0) = false := by simpa using hE0
    have HK0 := Lib.hid (show playK (ev, l) xs = false by unfold playK; rw [decide_eq_false (fun e => hE0 (HEE.out.trans e.1))])
    have HS0 := Lib.hid (show playS (ev, l) xs = (ev, l) by unfold playS; rw [if_neg (fun e => hE0 (HEE.out.trans e.1))])
    clear hE0
    cases ok
    all_goals
      go_wp2
      go_end0
      refine ⟨⟨_, rfl⟩, b, n, C, ?_, by omega, .inl rfl, fun k hk => .inl hk, HU4.out.trans ((upd_own w4 kb 0 _).mono (F := fun k => k = kb) (fun _ _ e => .inr (.inr e)))⟩
      rw [HS0.out, HK0.out, Bool.and_false]
      exact HP4.out.setK _
  · subst hE0
    have hed := enc_dec HB.out HEE.out.symm
    rw [← HBE.out] at hed
    have HR := Lib.hid hed.2
    have HN := Lib.hid hn
    obtain ⟨x0, x1⟩ := cells2_of HP4.out.s
    obtain ⟨y0, y1, y2⟩ := cells3_of HX4.out
    clear hed
    go_wp2_with (go_at_call 96; fail)
    refine (do_any3 (c := bc) w w4 HU4.out.size HP4.out.m (by omega) HP4.out.fine HSA.out HR.out).mono ?_
    rintro e w5 ⟨ev1, b1, rfl, hdi, hdn, hu5⟩
    obtain ⟨E, hE⟩ : ∃ E, E = doE ev l B := ⟨_, rfl⟩
    rw [← hE]
    have HE := Lib.hid hE; have HDI := Lib.hid hdi; have HDN := Lib.hid hdn
    have HP5 := Lib.hid (HP4.out.kept0 hu5)
    have HU5 := Lib.hid (show Upd (fun k => k = ab ∨ k = sb ∨ k = kb) w w5 from HU4.out.trans (hu5.mono (F := fun _ => False) (fun _ _ e => e.elim)))
    have HPK := Lib.hid (show playK (ev, l) xs = decide (E = 0) by
      unfold playK
      rw [← HEE.out, ← HBE.out, ← HE.out]
      simp)
    have HPS := Lib.hid (show playS (ev, l) xs = if E = 0 then (B.epoch, l.withs B.sets) else (ev, l) by
      unfold playS
      rw [← HEE.out, ← HBE.out, ← HE.out]
      simp)
    have c3 := cells1_of HP5.out.k
    have f3 : w5.frozen? ⟨kb, 0, none⟩ = false := frozen_of_heap HP5.out.k
    obtain ⟨x0, x1⟩ := cells2_of HP5.out.s
    have f0 : w5.frozen? ⟨sb, 0, none⟩ = false := frozen_of_heap HP5.out.s
    have f1 : w5.frozen? ⟨sb, 1, none⟩ = false := frozen_of_heap HP5.out.s
    clear hE hdi hdn hu5 y0 y1 y2
    simp only []
    by_cases hE0 : E = 0
    rotate_left
    · obtain ⟨h1, h2⟩ := HDN.out (by rw [← HE.out]; exact hE0)
      subst h1
      subst h2
      have hE1 : (E == 0) = false := by simpa using hE0
      have HK0 := Lib.hid (show playK (ev1, l) xs = false by rw [HPK.out, decide_eq_false hE0])
      have HS0 := Lib.hid (show playS (ev1, l) xs = (ev1, l) by rw [HPS.out, if_neg hE0])
      clear hE0
      go_upto_region 4 with fail
      obtain ⟨p1, p2⟩ := HP5.out.setS (ev' := ev1) HP5.out.m HP5.out.fine HP5.out.ev
      obtain ⟨w6, hw6⟩ : ∃ w6, w6 = (w5.setCell ⟨sb, 0, none⟩ (.int .u64 ev1)).setCell ⟨sb, 1, none⟩ (.map (some b1)) := ⟨_, rfl⟩
      rw [← hw6] at p1 p2 ⊢
      have P1 := Lib.hid p1; have P2 := Lib.hid p2
      have c3 := cells1_of p1.k
      have f3 : w6.frozen? ⟨kb, 0, none⟩ = false := frozen_of_heap p1.k
      clear p1 p2 hw6 x0 x1 f0 f1
      cases ok
      all_goals
        go_wp2
        go_end0
        refine ⟨⟨_, rfl⟩, b1, n, C, ?_, by omega, .inl rfl, fun k hk => .inl hk, (HU5.out.trans (P2.out.mono (F := fun k => k = sb) (fun _ _ e => .inr (.inl e)))).trans ((upd_own _ kb 0 _).mono (F := fun k => k = kb) (fun _ _ e => .inr (.inr e)))⟩
        rw [HS0.out, HK0.out, Bool.and_false]
        exact P1.out.setK _
    · have hE1 : (E == 0) = true := by simpa using hE0
      obtain ⟨h1, h2, n1, C1, h3, h4, h5⟩ := HDI.out (by rw [← HE.out]; exact hE0)
      subst h1
      have hok : B.Ok := ⟨⟨by
        have : ¬ B.epoch < ev := fun hlt => by
          have := HE.out
          unfold doE at this
          rw [if_pos hlt, hE0] at this
          omega
        have := HP5.out.ev
        omega, by have := (BatchV.right_sets HR.out).1; omega⟩, fun x hx => ⟨(HFI.out x hx).2.2.2.1, (HFI.out x hx).2.2.2.2⟩⟩
      have hfn := doE_fine HP5.out.fine HR.out hok (by rw [← HE.out]; exact hE0)
      have HFN := Lib.hid hfn.1; have HM1 := Lib.hid h3; have HN1 := Lib.hid h4; have HC1 := Lib.hid h5; have HB1 := Lib.hid h2
      have HEV := Lib.hid (show 0 ≤ B.epoch ∧ B.epoch ≤ 4611686018427387904 from ⟨hok.epoch.1, (BatchV.right_sets HR.out).1⟩)
      have HK0 := Lib.hid (show playK (ev, l) xs = true by rw [HPK.out, decide_eq_true hE0])
      have HS0 := Lib.hid (show playS (ev, l) xs = (B.epoch, l.withs B.sets) by rw [HPS.out, if_pos hE0])
      clear hE0 hok hfn h2 h3 h4 h5
      go_upto_region 4 with fail
      obtain ⟨p1, p2⟩ := HP5.out.setS (ev' := B.epoch) HM1.out HFN.out HEV.out
      obtain ⟨w6, hw6⟩ : ∃ w6, w6 = (w5.setCell ⟨sb, 0, none⟩ (.int .u64 B.epoch)).setCell ⟨sb, 1, none⟩ (.map (some b1)) := ⟨_, rfl⟩
      rw [← hw6] at p1 p2 ⊢
      have P1 := Lib.hid p1; have P2 := Lib.hid p2
      have c3 := cells1_of p1.k
      have f3 : w6.frozen? ⟨kb, 0, none⟩ = false := frozen_of_heap p1.k
      clear p1 p2 hw6 x0 x1 f0 f1
      cases ok
      all_goals
        go_wp2
        go_end0
        refine ⟨⟨_, rfl⟩, b1, n1, C1, ?_, HN1.out, .inr HB1.out, HC1.out, (HU5.out.trans (P2.out.mono (F := fun k => k = sb) (fun _ _ e => .inr (.inl e)))).trans ((upd_own _ kb 0 _).mono (F := fun k => k = kb) (fun _ _ e => .inr (.inr e)))⟩
        rw [HS0.out, HK0.out, Bool.and_true]
        exact P1.out.setK _
end Go.Proofs.YtbimkhdiplnbfaaGreat
end

section
namespace Go.Proofs.YtbimkhdiplnbfaaGreat
set_option maxRecDepth 100000
open Go.RowKit Go.Shelf

theorem run_store_func {P : Program} {w : World} {a : Addr} {fn : Fn} {f c : Array Value} : (store a (.func fn f c)).run P w = stored P w a (.func fn f c) .plain := run_store P w a _ _ rfl

attribute [local go_sem] Oper.semAt_some run_store_func

def snapS (p0 : List Int) : (Int × KV) × Bool := if p0 = [] then ((0, []), true) else (playS (0, []) p0, playK (0, []) p0 && (wholeF (playS (0, []) p0).1 (playS (0, []) p0).2 == p0))
def playN (s : (Int × KV) × Bool) (x : List Int) : (Int × KV) × Bool := (playS s.1 x, s.2 && playK s.1 x)
def areaN (a : Int) (l : List (List Int)) : Int := l.foldl (fun a x => a + secsI x.length) a
def foundN (p0 : List Int) (l : List (List Int)) : (Int × KV) × Bool := l.foldl playN (snapS p0)

theorem PlayAt.keptU {F : Nat → Prop} {w w' : World} {ab sb kb : Nat} {area ev : Int} {b n : Nat} {C : Nat → Prop} {l : KV} {ok : Bool} (h : PlayAt w ab sb kb area ev b n C l ok) (hu : Upd F w w') (hF : ∀ k o, w.heap[k]? = some o → (o.isCells = true ∨ ∃ es c, o = .map es c) → ¬ F k) : PlayAt w' ab sb kb area ev b n C l ok := by
  have hb : ¬ F b := by
    obtain ⟨es, c, q⟩ := h.m.1.isMapBlock
    exact hF _ _ q (.inr ⟨_, _, rfl⟩)
  refine ⟨(hu.block _ (lt_of_heap h.a) (hF _ _ h.a (.inl rfl))).trans h.a, (hu.block _ (lt_of_heap h.s) (hF _ _ h.s (.inl rfl))).trans h.s, (hu.block _ (lt_of_heap h.k) (hF _ _ h.k (.inl rfl))).trans h.k, h.m.kept hu hb (fun k hk => ?_), h.fine, h.ev⟩
  obtain ⟨cs, q⟩ := h.m.1.rowC k hk
  exact hF _ _ q (.inl rfl)

structure FnAt (w w1 : World) (ab sb kb fb : Nat) (X : Lg) (s0 : (Int × KV) × Bool) (a0 : Int) (pre : List (Nat × Value)) (W : World) : Prop where
  play : ∃ b n C, PlayAt W ab sb kb (areaN a0 (X.parts.tail.take pre.length)) ((X.parts.tail.take pre.length).foldl playN s0).1.1 b n C ((X.parts.tail.take pre.length).foldl playN s0).1.2 ((X.parts.tail.take pre.length).foldl playN s0).2 ∧ n ≤ 48 + 48 * pre.length ∧ w.heap.size ≤ b ∧ ∀ k, C k → w.heap.size ≤ k
  fn : W.heap[fb]? = some (.cells #[.func (.func 154) #[] #[.pointer (some ⟨ab, 0, none⟩), .pointer (some ⟨sb, 0, none⟩), .pointer (some ⟨kb, 0, none⟩)]] 195 (0, 0))
  upd : Upd (fun k => k = ab ∨ k = sb ∨ k = kb) w1 W
  len : pre.length + 1 ≤ X.parts.length

theorem FnAt.upd0 {w w1 W W' : World} {ab sb kb fb : Nat} {X : Lg} {s0 : (Int × KV) × Bool} {a0 : Int} {pre : List (Nat × Value)} (h : FnAt w w1 ab sb kb fb X s0 a0 pre W) (hu : Upd (fun _ => False) W W') : FnAt w w1 ab sb kb fb X s0 a0 pre W' := by
  obtain ⟨⟨b, n, C, h1, h2⟩, h3, h4, h5⟩ := h
  exact ⟨⟨b, n, C, h1.kept0 hu, h2⟩, (hu.block _ (lt_of_heap h3) (fun e => e)).trans h3, h4.trans (hu.mono (F := fun _ => False) (fun _ _ e => e.elim)), h5⟩
theorem FnAt.put {w w1 W : World} {ab sb kb fb lr : Nat} {X : Lg} {s0 : (Int × KV) × Bool} {a0 : Int} {pre : List (Nat × Value)} {o : Loop} (o' : Obj) (h : FnAt w w1 ab sb kb fb X s0 a0 pre W) (hl : w1.heap.size ≤ lr) (ho : W.heap[lr]? = some (.loop o)) : FnAt w w1 ab sb kb fb X s0 a0 pre (W.putObj lr o') := by
  obtain ⟨⟨b, n, C, h1, h2⟩, h3, h4, h5⟩ := h
  have hF : ∀ k p, W.heap[k]? = some p → (p.isCells = true ∨ ∃ es c, p = .map es c) → ¬ k = lr := by
    rintro k p hp hc rfl
    rw [ho] at hp
    injection hp with hp
    subst hp
    rcases hc with hc | ⟨es, c, hc⟩
    · cases hc
    · cases hc
  have hu := upd_put (W := W) (l := lr) o'
  exact ⟨⟨b, n, C, h1.keptU hu hF, h2⟩, (hu.block _ (lt_of_heap h3) (hF _ _ h3 (.inl rfl))).trans h3, h4.step (hu.mono (F := fun k => k = lr) (G := fun k => k = lr) (fun _ _ e => e)) (fun k hk e => by omega), h5⟩

theorem Log.kept' {w w' : World} {q p : Nat} {X : Lg} {G : Nat → Prop} (h : Log w q p X G) (hu : Upd (fun _ => False) w w') : Log w' q p X G := h.kept hu (fun _ _ e => e)

theorem areaN_snoc (a : Int) (l : List (List Int)) (x : List Int) : areaN a (l ++ [x]) = areaN a l + secsI x.length := by simp [areaN]
theorem secsI_bound (n : Nat) : 0 ≤ secsI n ∧ secsI n ≤ 1000 := by unfold secsI; split <;> omega
theorem areaN_bound : ∀ (l : List (List Int)) (a : Int), a ≤ areaN a l ∧ areaN a l ≤ a + 1000 * l.length
  | [], a => by simp [areaN]
  | x :: l, a => by
    have h1 := secsI_bound x.length
    have h2 := areaN_bound l (a + secsI x.length)
    have e : areaN a (x :: l) = areaN (a + secsI x.length) l := rfl
    rw [e, List.length_cons]
    omega
theorem run_load167 {w : World} {b : Nat} {u v : Value} (h : w.heap[b]? = some (.cells #[u, v] 167 (0, 0))) : (loadVar 167 ⟨b, 0, none⟩).run Tryz.prog w = .ok (.agg #[u, v]) w := res_at h
theorem run_load3 {w : World} {b : Nat} {v : Int} (h : w.heap[b]? = some (.cells #[.int .i64 v] 3 (0, 0))) : (loadVar 3 ⟨b, 0, none⟩).run Tryz.prog w = .ok (.int .i64 v) w := by
  have c := cells1_of h
  simp [loadVar, isAgg, run_underlying Tryz.underlying3, Sem.run_bind, c]
theorem results_cell3 {P : Program} {fn : Func} {ts : Array Value} {w : World} {a b c : Nat} {t s r : TypeId} {p q o : Addr} {v x y : Value} (hr : fn.results = #[.cell a t, .cell b s, .cell c r]) (ha : ts.getD a undef = .pointer (some p)) (hb : ts.getD b undef = .pointer (some q)) (hc : ts.getD c undef = .pointer (some o)) (hl : (loadVar t p).run P w = .ok v w) (hm : (loadVar s q).run P w = .ok x w) (hn : (loadVar r o).run P w = .ok y w) :
    (Go.results fn ts).run P w = .ok (.tuple #[v, x, y]) w := by
  unfold Go.results
  rw [hr]
  have ha' : ts[a]?.getD undef = .pointer (some p) := by simpa using ha
  have hb' : ts[b]?.getD undef = .pointer (some q) := by simpa using hb
  have hc' : ts[c]?.getD undef = .pointer (some o) := by simpa using hc
  simp [asAddr, ha', hb', hc', hl, hm, hn]

def noPanic (Q : Exit → Act → World → Prop) : Exit → Act → World → Prop
  | .panic _, _, _ => False
  | e, a, w => Q e a w
theorem noPanic_of {Q : Exit → Act → World → Prop} : ∀ (e : Exit) (a : Act) (w : World), noPanic Q e a w → Q e a w := fun e a w h => by
  cases e <;> first | exact h | exact h.elim

set_option maxHeartbeats 8000000 in
theorem rfound_any {q p : Nat} {X : Lg} {G : Nat → Prop} {p0 : List Int} {txs : List (List Int)} (w : World) (hlog : Log w q p X G) (hok : X.Ok) (hX : X.parts = p0 :: txs) :
    Calls Tryz.prog 100 #[.agg #[.pointer (some ⟨q, 0, none⟩)]] w fun e w' => ∃ b n C, e = .returned (.tuple #[.agg #[.int .u64 (foundN p0 txs).1.1, .map (some b)], .int .i64 (areaN (X.h.area - X.used) X.parts), .bool (foundN p0 txs).2]) ∧ MapKV w' b n C (foundN p0 txs).1.2 ∧ (foundN p0 txs).1.2.Fine ∧ (0 ≤ (foundN p0 txs).1.1 ∧ (foundN p0 txs).1.1 ≤ 4611686018427387904) ∧ n ≤ 48 + 48 * X.parts.length ∧ w.heap.size ≤ b ∧ (∀ k, C k → w.heap.size ≤ k) ∧ Upd (fun _ => False) w w' := by
  have HLG := Lib.hid hlog; have HOK := Lib.hid hok; have HXP := Lib.hid hX
  have HGL := Lib.hid hlog.lt
  have hp0 := hok.bytes p0 (by rw [hX]; simp)
  have HP0 := Lib.hid hp0
  obtain ⟨w1, hw1⟩ : ∃ w1, w1 = (((w.alloc (.cells #[.pointer (some ⟨q, 0, none⟩)] 170)).alloc (.cells #[.int .u64 0, .map none] 167)).alloc (.cells #[.int .i64 0] 3)).alloc (.cells #[.bool false] 4) := ⟨_, rfl⟩
  have hx1 : w1.heap[w.heap.size]? = some (.cells #[.pointer (some ⟨q, 0, none⟩)] 170 (0, 0)) := by rw [hw1]; exact (alloc_lt (by simp <;> omega)).trans ((alloc_lt (by simp <;> omega)).trans ((alloc_lt (by simp)).trans (alloc_at rfl)))
  have hx2 : w1.heap[w.heap.size + 1]? = some (.cells #[.int .u64 0, .map none] 167 (0, 0)) := by rw [hw1]; exact (alloc_lt (by simp <;> omega)).trans ((alloc_lt (by simp <;> omega)).trans (alloc_at (by simp <;> omega)))
  have hx3 : w1.heap[w.heap.size + 2]? = some (.cells #[.int .i64 0] 3 (0, 0)) := by rw [hw1]; exact (alloc_lt (by simp <;> omega)).trans (alloc_at (by simp <;> omega))
  have hx4 : w1.heap[w.heap.size + 3]? = some (.cells #[.bool false] 4 (0, 0)) := by rw [hw1]; exact alloc_at (by simp)
  have hz1 : w1.heap.size = w.heap.size + 4 := by rw [hw1]; simp
  have hu1 : Upd (fun _ => False) w w1 := by rw [hw1]; exact ((((Upd.refl _ w).alloc _).alloc _).alloc _).alloc _
  have HW1 := Lib.hid hw1; have HX1 := Lib.hid hx1; have HX2 := Lib.hid hx2; have HX3 := Lib.hid hx3; have HX4 := Lib.hid hx4; have HZ1 := Lib.hid hz1; have HU1 := Lib.hid hu1
  obtain ⟨lb, hlb⟩ : ∃ lb, lb = w.heap.size := ⟨_, rfl⟩
  clear hlog hok hX hp0 hw1 hx1 hx2 hx3 hx4 hz1 hu1
  refine (callsIn_wide (n := 5)).1 ?_
  refine callsIn_of_wp_marks Tryz.func100 rfl trivial ?_ rfl
  simp only [Tryz.ntmps100, List.size_toArray, List.length_cons, List.length_nil, Nat.reduceAdd, Nat.reduceSub, Array.replicate_succ, Array.replicate_zero, List.push_toArray, List.append_toArray, List.nil_append, List.cons_append]
  refine wpIn_mono ?_ noPanic_of
  refine wpIn_wide.2 ?_
  go_upto_region 1 with fail
  rw [← HW1.out]
  obtain ⟨kb, hkb⟩ : ∃ kb, kb = w.heap.size + 1 + 1 + 1 := ⟨_, rfl⟩
  obtain ⟨ab, hab⟩ : ∃ ab, ab = w.heap.size + 1 + 1 := ⟨_, rfl⟩
  obtain ⟨sb, hsb⟩ : ∃ sb, sb = w.heap.size + 1 := ⟨_, rfl⟩
  rw [← hkb, ← hab, ← hsb, ← hlb]
  have HX1 : RowKit.Hid (w1.heap[lb]? = some (.cells #[.pointer (some ⟨q, 0, none⟩)] 170 (0, 0))) := Lib.hid (by rw [hlb]; exact HX1.out)
  have HX2 : RowKit.Hid (w1.heap[sb]? = some (.cells #[.int .u64 0, .map none] 167 (0, 0))) := Lib.hid (by rw [hsb]; exact HX2.out)
  have HX3 : RowKit.Hid (w1.heap[ab]? = some (.cells #[.int .i64 0] 3 (0, 0))) := Lib.hid (by rw [hab]; exact HX3.out)
  have HX4 : RowKit.Hid (w1.heap[kb]? = some (.cells #[.bool false] 4 (0, 0))) := Lib.hid (by rw [hkb]; exact HX4.out)
  have HLO := Lib.hid (show w.heap.size ≤ lb ∧ w.heap.size ≤ sb ∧ w.heap.size ≤ ab ∧ w.heap.size ≤ kb by omega)
  clear hkb hab hsb hlb HW1
  have hmk : ∀ W : World, (Instr.makeMap 165 none).run Tryz.prog W = .ok (.map (some W.heap.size)) (W.alloc (.map #[] 0)) := fun W => run_makeMap 165 W
  have hum : Upd (fun _ => False) w1 (w1.alloc (.map #[] 0)) := (Upd.refl _ w1).alloc _
  have hx2 := (hum.block _ (lt_of_heap HX2.out) (fun e => e)).trans HX2.out
  have hx4 := (hum.block _ (lt_of_heap HX4.out) (fun e => e)).trans HX4.out
  have hp2 : PlayAt ((((w1.alloc (.map #[] 0)).setCell ⟨sb, 1, none⟩ (.map (some w1.heap.size)))).setCell ⟨kb, 0, none⟩ (.bool true)) ab sb kb 0 0 w1.heap.size 0 (fun _ => False) [] true := by
    have h1 : ((w1.alloc (.map #[] 0)).setCell ⟨sb, 1, none⟩ (.map (some w1.heap.size))).heap[sb]? = some (.cells #[.int .u64 0, .map (some w1.heap.size)] 167 (0, 0)) := by
      have := blk_set (i := 1) (v := .map (some w1.heap.size)) hx2
      simpa using this
    have hu := upd_own (w1.alloc (.map #[] 0)) sb 1 (.map (some w1.heap.size))
    have h3 := (hum.block _ (lt_of_heap HX3.out) (fun e => e)).trans HX3.out
    have h0 : PlayAt ((w1.alloc (.map #[] 0)).setCell ⟨sb, 1, none⟩ (.map (some w1.heap.size))) ab sb kb 0 0 w1.heap.size 0 (fun _ => False) [] false :=
      ⟨(hu.block _ (lt_of_heap h3) (cells_ne h3 hx2 (by decide))).trans h3, h1, (hu.block _ (lt_of_heap hx4) (cells_ne hx4 hx2 (by decide))).trans hx4, (MapKV.made w1).kept hu (map_ne (MapKV.made w1) hx2) (fun _ e => e.elim), KV.Fine.nil, by omega⟩
    exact h0.setK true
  have hup : Upd (fun k => k = ab ∨ k = sb ∨ k = kb) w1 ((((w1.alloc (.map #[] 0)).setCell ⟨sb, 1, none⟩ (.map (some w1.heap.size)))).setCell ⟨kb, 0, none⟩ (.bool true)) :=
    ((hum.mono (F := fun _ => False) (fun _ _ e => e.elim)).trans ((upd_own _ sb 1 _).mono (F := fun k => k = sb) (fun _ _ e => .inr (.inl e)))).trans ((upd_own _ kb 0 _).mono (F := fun k => k = kb) (fun _ _ e => .inr (.inr e)))
  have hne : sb ≠ kb := cells_ne hx2 hx4 (by decide)
  obtain ⟨y0, y1⟩ := cells2_of hx2
  have y2 := cells1_of hx4
  have g1 : (w1.alloc (.map #[] 0)).frozen? ⟨sb, 1, none⟩ = false := frozen_of_heap hx2
  have g2 : (w1.alloc (.map #[] 0)).frozen? ⟨kb, 0, none⟩ = false := frozen_of_heap hx4
  obtain ⟨w2, hw2⟩ : ∃ w2, w2 = (((w1.alloc (.map #[] 0)).setCell ⟨sb, 1, none⟩ (.map (some w1.heap.size)))).setCell ⟨kb, 0, none⟩ (.bool true) := ⟨_, rfl⟩
  rw [← hw2] at hp2 hup
  have HP2 := Lib.hid hp2; have HUP := Lib.hid hup; have HW2 := Lib.hid hw2; have HMB := Lib.hid (show w.heap.size ≤ w1.heap.size from HU1.out.size)
  clear hum hx2 hx4 hp2 hup hw2
  go_upto_region 2 with fail
  rw [← HW2.out]
  have hne1 : lb ≠ ab ∧ lb ≠ sb ∧ lb ≠ kb := ⟨cells_ne HX1.out HX3.out (by decide), cells_ne HX1.out HX2.out (by decide), cells_ne HX1.out HX4.out (by decide)⟩
  have hw02 : Upd (fun _ => False) w w2 := HU1.out.step HUP.out (fun k hk e => by have := HLO.out; omega)
  have hx1 := (HUP.out.block _ (lt_of_heap HX1.out) (fun e => by omega)).trans HX1.out
  have c1 := cells1_of hx1
  have HX12 := Lib.hid hx1
  have HW02 := Lib.hid hw02
  clear y0 y1 y2 g1 g2 hne hmk hx1 hw02 HW2 HX1 HX2 HX3 HX4
  go_wp2_with (go_at_call 54; fail)
  refine (left_any w2 (HLG.out.kept' HW02.out) HOK.out).mono ?_
  rintro e w3 ⟨rfl, hu3⟩
  have hp3 := HP2.out.kept0 hu3
  have y3 := cells1_of hp3.a
  have g3 : w3.frozen? ⟨ab, 0, none⟩ = false := frozen_of_heap hp3.a
  have hp4 := hp3.setA (X.h.area - X.used)
  have hu4 := upd_own w3 ab 0 (.int .i64 (X.h.area - X.used))
  have hx14 := (hu4.block _ (Nat.lt_of_lt_of_le (lt_of_heap HX12.out) hu3.size) hne1.1).trans ((hu3.block _ (lt_of_heap HX12.out) (fun e => e)).trans HX12.out)
  obtain ⟨w4, hw4⟩ : ∃ w4, w4 = w3.setCell ⟨ab, 0, none⟩ (.int .i64 (X.h.area - X.used)) := ⟨_, rfl⟩
  rw [← hw4] at hp4 hu4 hx14
  have HW4 := Lib.hid hw4; have HP4 := Lib.hid hp4; have HX14 := Lib.hid hx14
  have HU24 := Lib.hid (show Upd (fun k => k = ab ∨ k = sb ∨ k = kb) w1 w4 from HUP.out.trans ((hu3.mono (F := fun _ => False) (fun _ _ e => e.elim)).trans (hu4.mono (F := fun k => k = ab) (fun _ _ e => .inl e))))
  clear hw4 hp4 hu3 hp3 hu4 hx14 c1 HP2 HX12
  simp only []
  go_upto_region 3 with fail
  rw [← HW4.out]
  clear y3 g3 HW4
  go_upto_region 4 with fail
  obtain ⟨fb, hfb⟩ : ∃ fb, fb = w4.heap.size := ⟨_, rfl⟩
  obtain ⟨w5, hw5⟩ : ∃ w5, w5 = w4.alloc (.cells #[.func (.func 154) #[] #[.pointer (some ⟨ab, 0, none⟩), .pointer (some ⟨sb, 0, none⟩), .pointer (some ⟨kb, 0, none⟩)]] 195) := ⟨_, rfl⟩
  rw [← hw5, ← hfb]
  have hu5 : Upd (fun _ => False) w4 w5 := by rw [hw5]; exact (Upd.refl _ w4).alloc _
  have hxf : w5.heap[fb]? = some (.cells #[.func (.func 154) #[] #[.pointer (some ⟨ab, 0, none⟩), .pointer (some ⟨sb, 0, none⟩), .pointer (some ⟨kb, 0, none⟩)]] 195 (0, 0)) := by rw [hw5]; exact alloc_at hfb
  have hx15 := (hu5.block _ (lt_of_heap HX14.out) (fun e => e)).trans HX14.out
  have hu15 := HU24.out.trans (hu5.mono (F := fun _ => False) (G := fun k => k = ab ∨ k = sb ∨ k = kb) (fun _ _ e => e.elim))
  have hw05 : Upd (fun _ => False) w w5 := HU1.out.step hu15 (fun k hk e => by have := HLO.out; omega)
  have c1 := cells1_of hx15
  have HXF := Lib.hid hxf; have HX15 := Lib.hid hx15; have HU15 := Lib.hid hu15; have HW05 := Lib.hid hw05; have HP5 := Lib.hid (HP4.out.kept0 hu5)
  have HFB := Lib.hid (show w.heap.size ≤ fb by rw [hfb]; exact Nat.le_trans HU1.out.size HU24.out.size)
  clear hu5 hxf hx15 hu15 hw05 hw5 hfb HP4 HX14 HU24
  go_wp2_with (go_at_call 71; fail)
  refine (snap_any w5 (HLG.out.kept' HW05.out) HOK.out (b := p0) (by rw [HXP.out]; rfl)).mono ?_
  rintro e w6 ⟨u, rfl, hown, hu6⟩
  obtain ⟨ua, uc, rfl, _⟩ := hown.bytesAt.1.slice
  have HOWN := Lib.hid hown
  have HP6 := Lib.hid (HP5.out.kept0 hu6)
  have HXF := Lib.hid ((hu6.block _ (lt_of_heap HXF.out) (fun e => e)).trans HXF.out)
  have HX15 := Lib.hid ((hu6.block _ (lt_of_heap HX15.out) (fun e => e)).trans HX15.out)
  have HU15 := Lib.hid (HU15.out.trans (hu6.mono (F := fun _ => False) (G := fun k => k = ab ∨ k = sb ∨ k = kb) (fun _ _ e => e.elim)))
  have HS6 := Lib.hid (Nat.le_trans HW05.out.size hu6.size)
  have HS5 := Lib.hid (show w.heap.size ≤ w5.heap.size from HW05.out.size)
  have HAB5 := Lib.hid (show ab < w5.heap.size ∧ sb < w5.heap.size ∧ kb < w5.heap.size from ⟨lt_of_heap HP5.out.a, lt_of_heap HP5.out.s, lt_of_heap HP5.out.k⟩)
  clear hown hu6 HP5 c1 HW05
  simp only []
  go_upto_if 20 with fail
  obtain ⟨a1, ha1⟩ : ∃ a1, a1 = X.h.area - X.used + secsI p0.length := ⟨_, rfl⟩
  have HA1 := Lib.hid ha1
  have hs0 : 0 ≤ secsI p0.length ∧ secsI p0.length ≤ 1000 := by unfold secsI; split <;> omega
  have HAR := Lib.hid (show -1000000000 ≤ X.h.area - X.used ∧ X.h.area - X.used ≤ 1000000 by have := HOK.out.area; have := HOK.out.used; omega)
  have HAR1 := Lib.hid (show -1000000 ≤ a1 ∧ a1 ≤ 1000000 by rw [ha1]; have := HOK.out.area; have := HOK.out.used; omega)
  clear ha1 hs0
  go_cut [20] from 21 to 34 (fun v wx => ∃ b n C, PlayAt wx ab sb kb a1 (snapS p0).1.1 b n C (snapS p0).1.2 (snapS p0).2 ∧ n ≤ 48 ∧ w.heap.size ≤ b ∧ (∀ k, C k → w.heap.size ≤ k) ∧ Upd (fun k => k = ab ∨ k = sb ∨ k = kb) w6 wx)
  case first =>
    by_cases hp0 : p0 = []
    · have HE0 := Lib.hid hp0
      have hnp : ¬ 0 < p0.length := by rw [hp0]; simp
      clear hp0
      go_upto_region 8 with fail
      clear hnp
      have hA : w6.drew.cell? ⟨ab, 0, none⟩ = some (.int .i64 (X.h.area - X.used)) := cells1_of HP6.out.a
      have hws : IntKind.i64.wrap (X.h.area - X.used + secsI 0) = a1 := by
        have h1 := HA1.out
        rw [HE0.out] at h1
        have h2 := HAR1.out
        rw [IntKind.wrap_i64]
        simp only [List.length_nil, Int.ofNat_zero, Int.cast_ofNat_Int] at h1
        omega
      have HPD := Lib.hid (HP6.out.kept0 ((Upd.refl (fun _ => False) w6).drew))
      have HUD := Lib.hid ((Upd.refl (fun _ => False) w6).drew)
      refine wp_region_G 3 (fun W => W.cell? ⟨ab, 0, none⟩ = some (.int .i64 (X.h.area - X.used))) [false, false, false, false] rfl (by kernel_rfl) ?_
      generalize w6.drew = wd at hA HPD HUD ⊢
      refine wpG_takeT (i := 0) (v := .int .i64 (X.h.area - X.used)) rfl (fun L hc h => (hc.waits (n := 3) (i := 0) (by kernel_rfl) h)) (by kernel_rfl) (fun _ _ _ h => h) hA (.inl ⟨rfl, fun w5 q1 => ?_⟩) ?_
      · go_simp
      simp only [Act.put, List.setIfInBounds_toArray, List.set]
      refine wpG_do (i := 1) rfl (by kernel_rfl) rfl (fun K hK => ?_)
      have HKK := Lib.hid hK
      clear hK
      go_step
      refine (sectors_any 0 wd).mono ?_
      rintro e wd2 ⟨rfl, rfl⟩
      refine HKK.out _ _ hA ?_
      clear HKK
      simp only [Act.put, List.setIfInBounds_toArray, List.set]
      refine wpG_takeT (i := 2) (v := .int .i64 a1) rfl (fun L hc h => (hc.waits (n := 3) (i := 2) (by kernel_rfl) h)) (by kernel_rfl) (fun _ _ _ h => h) hA (.inl ⟨rfl, fun w5 q1 => ?_⟩) ?_
      · go_simp
      simp only [Act.put, List.setIfInBounds_toArray, List.set]
      refine wpG_tail_lit (k := 3) rfl rfl (by kernel_rfl) ?_
      simp only [List.drop]
      have f0 : wd.frozen? ⟨ab, 0, none⟩ = false := frozen_of_heap HPD.out.a
      have c0 := cells1_of HPD.out.a
      go_wp2
      go_meet
      case rel =>
        refine ⟨w1.heap.size, 0, fun _ => False, ?_, by omega, HMB.out, fun k hk => hk.elim, (HUD.out.mono (F := fun _ => False) (fun _ _ e => e.elim)).trans ((upd_own wd ab 0 _).mono (F := fun k => k = ab) (fun _ _ e => .inl e))⟩
        rw [show snapS p0 = ((0, []), true) by unfold snapS; rw [if_pos HE0.out]]
        exact HPD.out.setA _
    · have HE0 := Lib.hid hp0
      have hnp : 0 < p0.length := List.length_pos_iff.2 hp0
      have cf := cells1_of HXF.out
      clear hp0
      go_wp2_with (go_at_call 154; fail)
      refine (play_any w6 HP6.out HOWN.out.bytesAt.1.bytesIn HP0.out.1 (by have := HP0.out.2; omega) (fun a e _ => by have h1 := HOWN.out.lt a.block (by rw [e]; rfl); have := HAB5.out; omega) (by have := HAR.out; omega) (by omega)).mono ?_
      rintro e w7 ⟨⟨v7, rfl⟩, b7, n7, C7, hp7, hn7, hb7, hc7, hu7⟩
      rw [Bool.true_and] at hp7
      obtain ⟨s7, hs7⟩ : ∃ s, s = playS (0, []) p0 := ⟨_, rfl⟩
      obtain ⟨k7, hk7⟩ : ∃ k, k = playK (0, []) p0 := ⟨_, rfl⟩
      rw [← hs7, ← hk7, ← HA1.out] at hp7
      have HSN := Lib.hid (show snapS p0 = (s7, k7 && (wholeF s7.1 s7.2 == p0)) by unfold snapS; rw [if_neg HE0.out, hs7, hk7])
      have HP7 := Lib.hid hp7; have HB7 := Lib.hid (show w.heap.size ≤ b7 by
        have h1 := HMB.out
        have h2 := HS6.out
        rcases hb7 with e | e
        · omega
        · omega)
      have HC7 := Lib.hid hc7; have HU7 := Lib.hid hu7; have HN7 := Lib.hid hn7
      have HOWN7 := Lib.hid (OwnB.keptF HOWN.out hu7 (fun k hk e => by have h1 := HOWN.out.lt k hk; have h2 := HAB5.out; omega))
      obtain ⟨ev7, l7⟩ := s7
      have c7 := cells1_of hp7.k
      have f7 : w7.frozen? ⟨kb, 0, none⟩ = false := frozen_of_heap hp7.k
      obtain ⟨x0, x1⟩ := cells2_of hp7.s
      clear hp7 hu7 hb7 hc7 hn7 hs7 hk7 cf
      simp only [] at x0 x1
      simp only []
      cases k7 with
      | false =>
        go_wp2
        go_meet
        case rel =>
          refine ⟨b7, n7, C7, ?_, by have := HN7.out; omega, HB7.out, fun k hk => (HC7.out k hk).elim (fun e => e.elim) (fun e => Nat.le_trans HS6.out e), HU7.out.trans ((upd_own w7 kb 0 _).mono (F := fun k => k = kb) (fun _ _ e => .inr (.inr e)))⟩
          rw [HSN.out, Bool.false_and]
          exact HP7.out.setK _
      | true =>
        go_wp2_with (go_at_call 98; fail)
        refine (rwhole_any2 w7 HP7.out.m HP7.out.fine HP7.out.ev.1 HP7.out.ev.2).mono ?_
        rintro e w8 ⟨ua2, uc2, rfl, hown2, hu8⟩
        have HO2 := Lib.hid hown2
        have HP8 := Lib.hid (HP7.out.kept0 hu8)
        have HO8 := Lib.hid (OwnB.keptF HOWN7.out hu8 (fun _ _ e => e))
        have HU8 := Lib.hid (HU7.out.trans (hu8.mono (F := fun _ => False) (G := fun k => k = ab ∨ k = sb ∨ k = kb) (fun _ _ e => e.elim)))
        have c7 := cells1_of HP8.out.k
        have f7 : w8.frozen? ⟨kb, 0, none⟩ = false := frozen_of_heap HP8.out.k
        clear hown2 hu8 x0 x1
        simp only []
        go_wp2_with (go_at_call 24; fail)
        refine (equal_any w8 HO2.out.bytesAt.1.bytesIn HO8.out.bytesAt.1.bytesIn (encF_by (whole_ok HP8.out.fine HP8.out.ev.1 HP8.out.ev.2)) HP0.out.1).mono ?_
        rintro e w9 ⟨rfl, rfl⟩
        obtain ⟨eq, heq⟩ : ∃ x, x = (wholeF ev7 l7 == p0) := ⟨_, rfl⟩
        rw [← heq]
        have HSN2 := Lib.hid (show snapS p0 = ((ev7, l7), eq) by rw [HSN.out, heq]; rfl)
        clear heq
        simp only []
        go_wp2
        go_meet
        case rel =>
          refine ⟨b7, n7, C7, ?_, by have := HN7.out; omega, HB7.out, fun k hk => (HC7.out k hk).elim (fun e => e.elim) (fun e => Nat.le_trans HS6.out e), HU8.out.trans ((upd_own w8 kb 0 _).mono (F := fun k => k = kb) (fun _ _ e => .inr (.inr e)))⟩
          rw [HSN2.out]
          exact HP8.out.setK _
  case rest =>
    obtain ⟨b8, n8, C8, hp8, hn8, hb8, hc8, hu8⟩ := hcut
    have hx18 := (hu8.block _ (lt_of_heap HX15.out) (fun e => by omega)).trans HX15.out
    have hfbne : fb ≠ ab ∧ fb ≠ sb ∧ fb ≠ kb := ⟨cells_ne HXF.out HP6.out.a (by decide), cells_ne HXF.out HP6.out.s (by decide), cells_ne HXF.out HP6.out.k (by decide)⟩
    have hxf8 := (hu8.block _ (lt_of_heap HXF.out) (fun e => by omega)).trans HXF.out
    have hu18 := HU15.out.trans hu8
    have hw08 : Upd (fun _ => False) w wc := HU1.out.step hu18 (fun k hk e => by have := HLO.out; omega)
    have c1 := cells1_of hx18
    have HP8 := Lib.hid hp8; have HN8 := Lib.hid hn8; have HB8 := Lib.hid hb8; have HC8 := Lib.hid hc8; have HXF8 := Lib.hid hxf8; have HW08 := Lib.hid hw08
    clear hp8 hn8 hb8 hc8 hu8 hx18 hfbne hxf8 hu18 hw08 HP6 HXF HX15 HU15 HOWN hne1
    go_wp2_with (go_at_call 120; fail)
    refine (walAll_any q wc).mono ?_
    rintro e w9 ⟨rfl, hw9⟩
    have hu9 : Upd (fun _ => False) wc w9 := by rw [hw9]; exact (Upd.refl _ wc).alloc _
    have hbx : w9.heap[wc.heap.size]? = some (.cells #[.pointer (some ⟨q, 0, none⟩)] 38 (0, 0)) := by rw [hw9]; exact alloc_at rfl
    have HP9 := Lib.hid (HP8.out.kept0 hu9); have HXF9 := Lib.hid ((hu9.block _ (lt_of_heap HXF8.out) (fun e => e)).trans HXF8.out); have HW09 := Lib.hid (HW08.out.trans hu9); have HBX := Lib.hid hbx
    obtain ⟨bp, hbp⟩ : ∃ bp, bp = wc.heap.size := ⟨_, rfl⟩
    rw [← hbp] at HBX ⊢
    have HBP := Lib.hid (show bp < w9.heap.size ∧ w.heap.size ≤ bp from ⟨lt_of_heap HBX.out, by rw [hbp]; exact HW08.out.size⟩)
    clear hu9 hbx hw9 c1 hbp HP8 HXF8
    simp only []
    go_wp2
    have hat : FnAt w w9 ab sb kb fb X (snapS p0) a1 [] w9 := ⟨⟨b8, n8, C8, HP9.out, by have := HN8.out; simp; omega, HB8.out, HC8.out⟩, HXF9.out, Upd.refl _ _, by rw [HXP.out]; simp⟩
    have HAT := Lib.hid hat
    clear hat
    have HNE9 := Lib.hid (show bp ≠ ab ∧ bp ≠ sb ∧ bp ≠ kb from ⟨cells_ne HBX.out HP9.out.a (by decide), cells_ne HBX.out HP9.out.s (by decide), cells_ne HBX.out HP9.out.k (by decide)⟩)
    have HFN9 := Lib.hid (show fb ≠ ab ∧ fb ≠ sb ∧ fb ≠ kb from ⟨cells_ne HXF9.out HP9.out.a (by decide), cells_ne HXF9.out HP9.out.s (by decide), cells_ne HXF9.out HP9.out.k (by decide)⟩)
    have HPL := Lib.hid (show X.parts.length ≤ 1000 from HOK.out.len)
    refine (wpIn_wide (n := 5)).1 ?_
    refine wpIn_rangeFunc_toldL (α := Nat × Value) (encs := fun x => #[.int .i64 x.1, x.2]) rfl (by omega) (gf := 165) (lb := #[.pointer (some ⟨bp, 0, none⟩)]) rfl trivial (enters_of Tryz.func165 (by kernel_rfl) rfl) (fun _ => rfl)
      (fun pre x W0 W1 => x.1 = pre.length ∧ ∃ b, X.parts[pre.length + 1]? = some b ∧ OwnB W1 W0.heap.size x.2 b) (fun xs => xs.length + 1 = X.parts.length) (FnAt w w9 ab sb kb fb X (snapS p0) a1) (fun k => G k ∨ k = bp) ?hKp (fun _ _ _ h hu => h.upd0 hu) (fun pre W l o o' h hl ho => h.put o' hl ho) HAT.out ?hseq
      (fun x => { tmps := #[.agg #[.pointer (some ⟨q, 0, none⟩)], .pointer (some ⟨lb, 0, none⟩), .pointer (some ⟨sb, 0, none⟩), .pointer (some ⟨ab, 0, none⟩), .pointer (some ⟨kb, 0, none⟩), .pointer (some ⟨fb, 0, none⟩), .slice ua p0.length uc, undef, x.2, .map (some w1.heap.size), .pointer (some ⟨sb, 1, none⟩), .pointer (some ⟨lb, 0, none⟩), .pointer (some ⟨q, 0, none⟩), .int .i64 (X.h.area - X.used), .func (.func 154) #[] #[.pointer (some ⟨ab, 0, none⟩), .pointer (some ⟨sb, 0, none⟩), .pointer (some ⟨kb, 0, none⟩)], .pointer (some ⟨lb, 0, none⟩), .pointer (some ⟨q, 0, none⟩), .slice ua p0.length uc, .slice ua p0.length uc, .int .i64 p0.length, u20, u21, u22, u23, u24, u25, u26, u27, u28, u29, u30, u31, u32, u33, .pointer (some ⟨lb, 0, none⟩), .pointer (some ⟨q, 0, none⟩), .func (.func 165) #[] #[.pointer (some ⟨bp, 0, none⟩)], .int .i64 x.1, x.2, undef, undef, undef, undef, undef, undef], defers := [] }) ?hassign ?hbody ?hdone
    case hKp =>
      rintro k (hk | hk)
      · have := HGL.out k hk; have := HW09.out.size; omega
      · have := HBP.out; omega
    case hseq =>
      intro l J W h0 hW hJA hY
      refine walk_any 4 (by omega) l HOK.out (by rw [HXP.out]; simp) J W ((HLG.out.kept' HW09.out).keep (fun k hk => hW k (by have := HGL.out k hk; have := HW09.out.size; omega))) ((hW _ HBP.out.1).trans HBX.out) (fun pre x W0 W1 b hj hu hx hb ho => hY pre x W0 W1 hj hu ⟨hx, b, hb, ho⟩) h0 hJA
    case hassign =>
      intro l x W K hK
      have HKK := Lib.hid hK
      clear hK
      gi_wp2
      exact HKK.out
    case hbody =>
      rintro l pre x W0 W1 W r r' hl hi0 hu ⟨hx1, b, hb, hown⟩ hl1 rfl
      obtain ⟨W, hW⟩ : ∃ W, W = W1.putObj l (.loop r') := ⟨_, rfl⟩
      rw [← hW]
      have hat : FnAt w w9 ab sb kb fb X (snapS p0) a1 pre W := by rw [hW]; exact (hi0.upd0 hu).put _ hl hl1
      have hownW : OwnB W W0.heap.size x.2 b := by
        rw [hW]
        refine ownsRow_heap hown (fun k hk => ?_)
        refine World.putObj_heap_other (fun e => ?_)
        subst e
        rcases hown.2 with ⟨h, _⟩ | ⟨g, cap, cur, h, _, hg, _⟩
        · rw [h] at hk; simp [Value.ownBlock] at hk
        · rw [h] at hk
          simp only [Value.ownBlock, Option.some.injEq] at hk
          subst hk
          rw [hl1] at hg
          injection hg with hg
          cases hg
      obtain ⟨xk, u⟩ := x
      simp only at hx1 hownW
      subst hx1
      obtain ⟨ua3, uc3, rfl, _⟩ := hownW.bytesAt.1.slice
      obtain ⟨⟨b9, n9, C9, hp9, hn9, hb9, hc9⟩, hfn, hup, hln⟩ := hat
      have cf := cells1_of hfn
      have hplb : pre.length + 1 < X.parts.length := (List.getElem?_eq_some_iff.1 hb).1
      have hbm := HOK.out.bytes b (List.mem_of_getElem? hb)
      have habW : ab < W0.heap.size := by
        obtain ⟨⟨_, _, _, q1, _⟩, _⟩ := hi0
        exact lt_of_heap q1.a
      have har := areaN_bound (X.parts.tail.take pre.length) a1
      have htl : (X.parts.tail.take pre.length).length ≤ 1000 := by
        have := HPL.out
        simp only [List.length_take, List.length_tail]
        omega
      have hsnoc : X.parts.tail.take (pre.length + 1) = X.parts.tail.take pre.length ++ [b] := by
        have hb' : X.parts.tail[pre.length]? = some b := by rw [List.getElem?_tail]; exact hb
        obtain ⟨h1, h2⟩ := List.getElem?_eq_some_iff.1 hb'
        rw [List.take_succ_eq_append_getElem h1, h2]
      have HSN := Lib.hid hsnoc
      have HP := Lib.hid hp9; have HFN := Lib.hid hfn; have HUP := Lib.hid hup; have HOW := Lib.hid hownW; have HBM := Lib.hid hbm; have HABW := Lib.hid habW; have HAN := Lib.hid har; have HTL := Lib.hid htl; have HN9 := Lib.hid hn9; have HB9 := Lib.hid hb9; have HC9 := Lib.hid hc9; have HPLB := Lib.hid hplb
      have HWS := Lib.hid (show w.heap.size ≤ W.heap.size from Nat.le_trans HW09.out.size hup.size)
      clear hp9 hfn hup hown hownW hbm habW har htl hn9 hb9 hc9 hplb hsnoc hi0 hu hl1 hW hb hln
      gi_wp2_with (refine ⟨trivial, ?_⟩; gi_at_call 154; fail)
      refine ⟨trivial, ?_⟩
      refine (CallsIn.inRound l (callsIn_wide.2 (play_any W HP.out HOW.out.bytesAt.1.bytesIn HBM.out.1 (by have := HBM.out.2; omega) (fun a e _ => by have h1 := HOW.out.lt a.block (by rw [e]; rfl); have := HABW.out; omega) (by have := HAN.out; have := HTL.out; have := HAR1.out; omega) (by have := HN9.out; have := HPLB.out; have := HPL.out; omega)))).mono ?_
      rintro e W3 ⟨⟨v7, rfl⟩, b10, n10, C10, hp10, hn10, hb10, hc10, hu10⟩
      have HU10 := Lib.hid hu10
      have hfin : FnAt w w9 ab sb kb fb X (snapS p0) a1 (pre ++ [(pre.length, .slice ua3 b.length uc3)]) W3 := by
        refine ⟨⟨b10, n10, C10, ?_, ?_, ?_, fun k hk => ?_⟩, (hu10.block _ (lt_of_heap HFN.out) (fun e => by have := HFN9.out; omega)).trans HFN.out, HUP.out.trans hu10, by have := HPLB.out; simp; omega⟩
        · rw [List.length_append, List.length_cons, List.length_nil, Nat.zero_add, HSN.out, areaN_snoc, List.foldl_append]
          exact hp10
        · have := HN9.out
          simp only [List.length_append, List.length_cons, List.length_nil]
          omega
        · have := HB9.out
          have := HWS.out
          rcases hb10 with e | e <;> omega
        · have := HWS.out
          rcases hc10 k hk with e | e
          · exact HC9.out k e
          · omega
      have HFIN := Lib.hid hfin
      have HP10 := Lib.hid hp10
      clear hfin hp10 hn10 hb10 hc10 hu10
      gi_wp2
      refine ⟨HFIN.out, ⟨HU10.out.size, fun k o hk ho hc => ?_⟩, fun k hk => ?_⟩
      · refine (HU10.out.block k (lt_of_heap ho) (fun e => ?_)).trans ho
        rcases e with e | e | e
        · subst e; have := HP.out.a; rw [ho] at this; injection this with this; subst this; cases hc
        · subst e; have := HP.out.s; rw [ho] at this; injection this with this; subst this; cases hc
        · subst e; have := HP.out.k; rw [ho] at this; injection this with this; subst this; cases hc
      · refine HU10.out.block k ?_ (fun e => ?_)
        · rcases hk with hk | hk
          · have := HGL.out k hk; have := HWS.out; omega
          · have := HBP.out.1; have := HUP.out.size; omega
        · rcases hk with hk | hk
          · have := HGL.out k hk; have := HLO.out; omega
          · have := HNE9.out; omega
    case hdone =>
      rintro xs W hS hs hK
      have hxl : X.parts.tail.take xs.length = txs := by rw [HXP.out, List.tail_cons, List.take_of_length_le (by have := HXP.out; rw [this] at hS; simp at hS; omega)]
      obtain ⟨⟨b9, n9, C9, hp9, hn9, hb9, hc9⟩, hfn, hup, hln⟩ := hs
      rw [hxl] at hp9
      have hfo : txs.foldl playN (snapS p0) = foundN p0 txs := rfl
      rw [hfo] at hp9
      have hareq : areaN a1 txs = areaN (X.h.area - X.used) X.parts := by rw [HXP.out, HA1.out]; rfl
      rw [hareq] at hp9
      have HP := Lib.hid hp9; have HN9 := Lib.hid hn9; have HB9 := Lib.hid hb9; have HC9 := Lib.hid hc9; have HUP := Lib.hid hup; have HK := Lib.hid hK; have HLN := Lib.hid hln
      clear hxl hfn hln hfo hareq hn9 hb9 hc9 hup hK hS
      go_wp2_with (fail)
      obtain ⟨ev9, hev9⟩ : ∃ x, x = (foundN p0 txs).1.1 := ⟨_, rfl⟩
      obtain ⟨l9, hl9⟩ : ∃ x, x = (foundN p0 txs).1.2 := ⟨_, rfl⟩
      obtain ⟨ok9, hok9⟩ : ∃ x, x = (foundN p0 txs).2 := ⟨_, rfl⟩
      obtain ⟨ar9, har9⟩ : ∃ x, x = areaN (X.h.area - X.used) X.parts := ⟨_, rfl⟩
      have HPD : RowKit.Hid (PlayAt W ab sb kb ar9 ev9 b9 n9 C9 l9 ok9) := Lib.hid (by rw [hev9, hl9, hok9, har9]; exact HP.out)
      have HEQ := Lib.hid (show ev9 = (foundN p0 txs).1.1 ∧ l9 = (foundN p0 txs).1.2 ∧ ok9 = (foundN p0 txs).2 ∧ ar9 = areaN (X.h.area - X.used) X.parts from ⟨hev9, hl9, hok9, har9⟩)
      clear hev9 hl9 hok9 har9 hp9 HP
      have hne1 : sb ≠ ab := cells_ne HPD.out.s HPD.out.a (by decide)
      have hne2 : sb ≠ kb := cells_ne HPD.out.s HPD.out.k (by decide)
      have hne3 : ab ≠ kb := cells_ne HPD.out.a HPD.out.k (by decide)
      obtain ⟨d0, d1⟩ := cells2_of HPD.out.s
      have d2 := cells1_of HPD.out.a
      have d3 := cells1_of HPD.out.k
      have f0 : W.frozen? ⟨sb, 0, none⟩ = false := frozen_of_heap HPD.out.s
      have f1 : W.frozen? ⟨sb, 1, none⟩ = false := frozen_of_heap HPD.out.s
      have f2 : W.frozen? ⟨ab, 0, none⟩ = false := frozen_of_heap HPD.out.a
      have f3 : W.frozen? ⟨kb, 0, none⟩ = false := frozen_of_heap HPD.out.k
      go_region
      go_wp2
      obtain ⟨q1, q2⟩ := HPD.out.setS (ev' := ev9) HPD.out.m HPD.out.fine HPD.out.ev
      have q3 := ((q1.setA ar9).setK ok9).kept0 ((Upd.refl (fun _ => False) _).drew)
      obtain ⟨W2, hW2⟩ : ∃ W2, W2 = ((((W.setCell ⟨sb, 0, none⟩ (.int .u64 ev9)).setCell ⟨sb, 1, none⟩ (.map (some b9))).setCell ⟨ab, 0, none⟩ (.int .i64 ar9)).setCell ⟨kb, 0, none⟩ (.bool ok9)).drew := ⟨_, rfl⟩
      rw [← hW2] at q3 ⊢
      have hu2 : Upd (fun k => k = ab ∨ k = sb ∨ k = kb) W W2 := by
        rw [hW2]
        exact (((q2.mono (F := fun k => k = sb) (fun _ _ e => .inr (.inl e))).trans ((upd_own _ ab 0 _).mono (F := fun k => k = ab) (fun _ _ e => .inl e))).trans ((upd_own _ kb 0 _).mono (F := fun k => k = kb) (fun _ _ e => .inr (.inr e)))).drew
      have hk2 : W2.heap[w9.heap.size]? = some (.deferred (some [])) := (hu2.block _ (lt_of_heap HK.out) (fun e => by have h1 := lt_of_heap HPD.out.a; have := lt_of_heap HP9.out.a; have := lt_of_heap HP9.out.s; have := lt_of_heap HP9.out.k; omega)).trans HK.out
      refine ⟨by simp, .inl ⟨_, _, rfl, run_takeDeferred hk2, ?_⟩⟩
      have hF : ∀ k o, W2.heap[k]? = some o → (o.isCells = true ∨ ∃ es c, o = .map es c) → ¬ k = w9.heap.size := by
        rintro k o ho hc rfl
        rw [hk2] at ho
        injection ho with ho
        subst ho
        rcases hc with hc | ⟨es, c, hc⟩ <;> cases hc
      have hu3 : Upd (fun k => k = w9.heap.size) W2 (W2.putObj w9.heap.size (.deferred none)) := (upd_put (.deferred none)).mono (F := fun k => k = w9.heap.size) (fun _ _ e => e)
      have q4 := q3.keptU hu3 hF
      refine ⟨_, results_cell3 (fn := Tryz.f100) rfl rfl rfl rfl (run_load167 q4.s) (run_load3 q4.a) (run_load4 q4.k), ?_⟩
      obtain ⟨e1, e2, e3, e4⟩ := HEQ.out
      rw [← e1, ← e2, ← e3, ← e4]
      refine ⟨b9, n9, C9, rfl, q4.m, q4.fine, q4.ev, by have := HN9.out; have := HLN.out; omega, HB9.out, HC9.out, ?_⟩
      exact ((HW09.out.step HUP.out (fun k hk e => by have := HLO.out; omega)).step hu2 (fun k hk e => by have := HLO.out; omega)).step hu3 (fun k hk e => by have := HW09.out.size; omega)
end Go.Proofs.YtbimkhdiplnbfaaGreat
end

section
namespace Go.Proofs.YtbimkhdiplnbfaaGreat
set_option maxRecDepth 100000
open Go.RowKit Go.Shelf

def OpenedAns (w : World) (p N K : Nat) (X : Lg) (F : Nat → Prop) (p0 : List Int) (txs : List (List Int)) (e : Ending) (w' : World) : Prop :=
  ∃ r q b n C D' G' F', e = .returned (.tuple #[.pointer (some ⟨r, 0, none⟩), .int .i64 0]) ∧
    RegMem w' r q p (foundN p0 txs).1.1 b n C (foundN p0 txs).1.2 (areaN (X.h.area - X.used) X.parts) X.on D' G' F' ∧ WalG w' q p X.on D' G' F' N (K + 1002000) ∧ LawD X.on (X.h.turn + 1) D'.S ∧ (foundN p0 txs).1.2.Fine ∧
    (0 ≤ (foundN p0 txs).1.1 ∧ (foundN p0 txs).1.1 ≤ 4611686018427387904) ∧ n ≤ 48 + 48 * X.parts.length ∧ (∀ k, G' k → w.heap.size ≤ k) ∧ (∀ k, F' k → F k ∨ w.heap.size ≤ k) ∧ w.heap.size ≤ r ∧ w.heap.size ≤ b ∧ (∀ k, C k → w.heap.size ≤ k) ∧ Upd F w w'

set_option maxHeartbeats 8000000 in
theorem ropen_good {p N K : Nat} {X : Lg} {τ : Int} {D : Dk} {F : Nat → Prop} {p0 : List Int} {txs : List (List Int)} (w : World) (hD : Dsk w p D F) (h : LawD X τ D.S) (hg : D.Good N) (hok : D.Ok K) (hK : K ≤ 1000000000) (hN : 2 + 2 * X.h.area ≤ N) (ht : X.h.turn < 1073741824) (hτ : τ ≤ X.h.turn + 1)
    (hX : X.parts = p0 :: txs) (hfo : (foundN p0 txs).2 = true) :
    Calls Tryz.prog 35 #[.pointer (some ⟨p, 0, none⟩)] w (OpenedAns w p N K X F p0 txs) := by
  have HC := Lib.hid (open_good w hD h hg hok hK hN ht hτ)
  have HXX := Lib.hid hX; have HFO := Lib.hid hfo
  clear hD h hg hok hK hN ht hτ hX hfo
  go_enter Tryz.func35, Tryz.ntmps35
  go_wp2_with (go_at_call 61; fail)
  refine HC.out.mono ?_
  rintro e w1 ⟨q, D', G', F', rfl, h1, h2, h3, h4, h5⟩
  have H1 := Lib.hid h1; have H2 := Lib.hid h2; have H3 := Lib.hid h3; have H4 := Lib.hid h4; have H5 := Lib.hid h5
  clear h1 h2 h3 h4 h5 HC
  simp only []
  go_wp2_with (go_at_call 100; fail)
  refine (rfound_any w1 H1.out.wal.1 H1.out.ok (p0 := p0) (txs := txs) (by rw [← HXX.out]; rfl)).mono ?_
  rintro e w2 ⟨b, n, C, rfl, hm, hf, hev, hn, hb, hc, hu⟩
  obtain ⟨s9, hs9⟩ : ∃ s, s = foundN p0 txs := ⟨_, rfl⟩
  have hk9 : s9.2 = true := by rw [hs9]; exact HFO.out
  obtain ⟨ar9, har9⟩ : ∃ x, x = areaN (X.on.h.area - X.on.used) X.on.parts := ⟨_, rfl⟩
  rw [← hs9] at hm hf hev
  rw [← hs9, ← har9]
  have HS9 := Lib.hid hs9; have HAR := Lib.hid (show ar9 = areaN (X.h.area - X.used) X.parts from har9)
  obtain ⟨⟨ev9, l9⟩, ok9⟩ := s9
  simp only at hm hf hev hk9
  subst hk9
  have HM := Lib.hid hm; have HF := Lib.hid hf; have HEV := Lib.hid hev; have HN := Lib.hid hn; have HB := Lib.hid hb; have HC := Lib.hid hc; have HU := Lib.hid hu
  have HD := Lib.hid (show Dsk w1 p D' F' from H1.out.wal.2.1)
  clear hm hf hev hn hb hc hu hs9 har9
  simp only []
  obtain ⟨w3, hw3⟩ : ∃ w3, w3 = (w2.alloc (.cells #[.int .u64 ev9, .map (some b)] 167)).alloc (.cells #[.pointer (some ⟨q, 0, none⟩), .int .u64 ev9, .map (some b), .int .i64 ar9] 172) := ⟨_, rfl⟩
  have hu3 : Upd (fun _ => False) w2 w3 := by rw [hw3]; exact ((Upd.refl _ w2).alloc _).alloc _
  have hr3 : RegAt w3 (w2.heap.size + 1) (.pointer (some ⟨q, 0, none⟩)) ev9 (.map (some b)) ar9 := by
    unfold RegAt
    rw [hw3]
    exact alloc_at (by simp)
  have HW3 := Lib.hid hw3; have HU3 := Lib.hid hu3; have HR3 := Lib.hid hr3
  clear hw3 hu3 hr3
  go_wp2
  go_returns
  rw [← HW3.out]
  unfold OpenedAns
  rw [← HS9.out]
  rw [← HAR.out]
  have hsz := HU.out.size
  have hu13 := HU.out.trans HU3.out
  have hGl := H1.out.wal.1.lt
  have hFl := HD.out.lt
  have hws := H5.out.size
  refine ⟨w2.heap.size + 1, q, b, n, C, D', G', F', rfl, ⟨HR3.out, HM.out.kept0 HU3.out, ⟨H1.out.wal.1.kept' hu13, HD.out.kept hu13 (fun _ _ e => e), H1.out.wal.2.2⟩, ⟨fun e => by have := hGl _ e; omega, fun e => by have := hFl _ e; omega⟩, ⟨fun e => by have := hGl _ e; have := HB.out; omega, fun e => by have := hFl _ e; have := HB.out; omega⟩, fun k hk => ⟨fun e => by have := hGl _ e; have := HC.out k hk; omega, fun e => by have := hFl _ e; have := HC.out k hk; omega⟩⟩,
    H1.out.kept hu13 (fun _ _ e => e) (fun _ _ e => e), H2.out, HF.out, HEV.out, HN.out, H3.out, H4.out, by omega, by have := HB.out; omega, fun k hk => by have := HC.out k hk; omega, H5.out.trans (hu13.mono (F := fun _ => False) (fun _ _ e => e.elim))⟩
end Go.Proofs.YtbimkhdiplnbfaaGreat
end

section
namespace Go.Proofs.YtbimkhdiplnbfaaGreat
set_option maxRecDepth 100000
open Go.RowKit Go.Shelf

theorem walG_app {w : World} {q p : Nat} {X : Lg} {D : Dk} {G F : Nat → Prop} {N K : Nat} {b : List Int} (h : WalG w q p X D G F N K) (hp : X.parts.length < 1000) (hb : Bytes b) (hl : b.length ≤ 40000) (hr : X.used + secsN b.length ≤ X.h.area) :
    D.laysE (X.apS b hb) = 0 ∧ ∀ {w' : World} {G' F' : Nat → Prop}, Wal w' q p (X.add b) (D.lays (X.apS b hb)) G' F' → WalG w' q p (X.add b) (D.lays (X.apS b hb)) G' F' N (K + 2000) := by
  have ha := h.ok.area
  have hN : 0 < N := by have := h.fits; omega
  obtain ⟨g1, g2⟩ := h.good.lays (X.apS b hb) hN (partSc_bound hb (by omega) h.fits)
  have hsb := secsN_bound hl
  have hdk := Dk.lays_ok (partSc X.h (X.h.number + X.parts.length) (X.h.place + X.used) false b hb) h.dok
  rw [partSc_length] at hdk
  exact ⟨g1, fun h1 => ⟨h1, h.ok.add hb hl hr hp, h.unbroken, g2, Dk.Ok.mono hdk (by omega), h.fits⟩⟩

def wqX : SetV := ⟨{ data := #[107] }, false, true, [], [7]⟩
def wqB : BatchV := ⟨3, false, [wqX]⟩
def wqL : KV := [({ data := #[107] }, [7])]
theorem wq_right : wqB.right = true := by decide
theorem wq_ok : wqB.Ok := ⟨by show (0 : Int) ≤ 3 ∧ (3 : Int) ≤ 18446744073709551615; omega, fun x hx => by
  simp only [wqB, List.mem_singleton] at hx
  subst hx
  exact ⟨fun y hy => by simp [wqX] at hy, fun y hy => by simp [wqX] at hy; omega⟩⟩
theorem wq_len : (encF wqB).length = 19 := by decide
theorem wq_do : doE 0 [] wqB = 0 := by decide
theorem wq_withs : KV.withs [] wqB.sets = wqL := by rfl
theorem wq_plan : planF 0 20 [] ⟨fmtH 20, [[]], 1, false⟩ wqB = .app := by
  unfold planF
  rw [if_neg (by decide), if_neg (by rw [wq_right]; decide), if_neg (by rw [wq_do]; decide), if_neg (by decide), if_neg (by decide), if_pos (by rw [wq_len]; decide)]
theorem wq_found : foundN [] [encF wqB] = ((3, wqL), true) := by
  have h1 : decF (encF wqB) = (wqB, 0) := dec_enc wq_right wq_ok
  have h2 : snapS [] = ((0, []), true) := by unfold snapS; rw [if_pos rfl]
  show playN (snapS []) (encF wqB) = _
  rw [h2]
  unfold playN playS playK
  rw [h1]
  have hc : ((wqB, (0 : Int)).2 = 0 ∧ doE ((((0 : Int), ([] : KV)), true) : (Int × KV) × Bool).1.1 ((((0 : Int), ([] : KV)), true) : (Int × KV) × Bool).1.2 (wqB, (0 : Int)).1 = 0) := ⟨rfl, wq_do⟩
  rw [if_pos hc, decide_eq_true hc]
  show ((wqB.epoch, KV.withs [] wqB.sets), true && true) = _
  rw [wq_withs]
  rfl
theorem wq_fine : KV.Fine wqL := ⟨by simp [wqL, KV.Rising], by simp [wqL], fun p hp => by
  simp only [wqL, List.mem_singleton] at hp
  subst hp
  exact ⟨by decide, by decide, by simp, fun y hy => by simp at hy; omega⟩⟩
theorem wq_get : KV.get wqL { data := #[107] } = some [7] := by rfl
def wqB2 : BatchV := ⟨2, false, []⟩
theorem wq_plan2 {X : Lg} {area : Int} (hb : X.broken = false) : planF 3 area wqL X wqB2 = .no 300 := by
  unfold planF
  rw [if_neg (by rw [hb]; decide), if_neg (by decide), if_pos (by decide)]
  rfl
end Go.Proofs.YtbimkhdiplnbfaaGreat
end

section
namespace Go.Proofs.YtbimkhdiplnbfaaGreat
set_option maxRecDepth 100000
open Go.RowKit Go.Shelf

theorem wk_new (w : World) : Calls Tryz.prog 13 #[.int .i64 42] w fun e w' => ∃ F, e = .returned (.tuple #[.pointer (some ⟨w.heap.size + 1, 0, none⟩), .int .i64 0]) ∧ Dsk w' (w.heap.size + 1) (Dk.new 42) F ∧ (∀ k, F k → w.heap.size ≤ k) ∧ Upd (fun _ => False) w w' ∧ (Dk.new 42).Good 42 ∧ (Dk.new 42).Ok 0 := new_good_disk 42 w (by omega)

theorem wk_format {p : Nat} {D : Dk} {F : Nat → Prop} (w : World) (hD : Dsk w p D F) (hg : D.Good 42) (hok : D.Ok 0) :
    Calls Tryz.prog 47 #[.pointer (some ⟨p, 0, none⟩), .int .i64 20] w fun e w' => ∃ r b q G' F', e = .returned (.tuple #[.pointer (some ⟨r, 0, none⟩), .int .i64 0]) ∧ RegMem w' r q p 0 b 0 (fun _ => False) [] 20 ⟨fmtH 20, [[]], 1, false⟩ (fmtD D 20 3) G' F' ∧
      WalG w' q p ⟨fmtH 20, [[]], 1, false⟩ (fmtD D 20 3) G' F' 42 20000 ∧ (∀ k, G' k → w.heap.size ≤ k) ∧ (∀ k, F' k → F k ∨ w.heap.size ≤ k) ∧ w.heap.size ≤ r ∧ Upd F w w' := by
  refine (rformat_good (area := 20) (N := 42) (K := 0) w hD hg hok (by omega) (by omega) (by omega)).mono ?_
  rintro e w' ⟨r, b, q, G', F', rfl, h1, h2, h3, h4, h5, h6, h7, h8, h9, h10⟩
  refine ⟨r, b, q, G', F', rfl, ⟨h1, ⟨h2, List.Pairwise.nil, fun x hx => by cases hx⟩, h3.wal, ⟨fun e => by have := h9 _ e; omega, fun e => by have := h10 _ e; omega⟩, ⟨fun e => by have := h9 _ e; omega, fun e => by have := h10 _ e; omega⟩, fun k hk => hk.elim⟩, ?_, h4, h5, by omega, h6⟩
  exact h3

def WkAns (w : World) (r q p : Nat) (D : Dk) (G F : Nat → Prop) (e : Ending) (w' : World) : Prop :=
  e = .returned (.int .i64 0) ∧ ∃ D' F' X', Dsk w' p D' F' ∧ D'.Good 42 ∧ D'.Ok 22000 ∧ LawD X' 1 D'.S ∧ X' = (⟨fmtH 20, [[]], 1, false⟩ : Lg).add (encF wqB) ∧ (∀ k, F' k → F k ∨ w.heap.size ≤ k) ∧ Upd (fun k => G k ∨ F k ∨ k = r) w w'

theorem wk_commit {r q p b n : Nat} {C G F : Nat → Prop} {D : Dk} {a : Option Addr} {c : Nat} (w : World) (hm : RegMem w r q p 0 b n C [] 20 ⟨fmtH 20, [[]], 1, false⟩ D G F) (hw : WalG w q p ⟨fmtH 20, [[]], 1, false⟩ D G F 42 20000) (hl : LawD (fmtX 20) 1 D.S) (hn : n ≤ 1000000) (hs : SetsIn w a wqB.sets) (hal : ∀ b o, a = some ⟨b, o, none⟩ → b < w.heap.size) :
    Calls Tryz.prog 31 #[.pointer (some ⟨r, 0, none⟩), .agg #[.int .u64 3, .bool false, .slice a 1 c]] w (WkAns w r q p D G F) := by
  have hc := commit_any (c := c) (B := wqB) w hm hw.ok (by simp) hw.dok (by omega) hn KV.Fine.nil (by omega) (by omega) hs (by simp [wqB]) wq_ok hal
  refine hc.mono ?_
  intro e w' h
  unfold CommitAns at h
  rw [wq_plan] at h
  obtain ⟨hb, h⟩ := h
  have hlen := wq_len
  have hr : (⟨fmtH 20, [[]], 1, false⟩ : Lg).refuses (encF wqB).length (⟨fmtH 20, [[]], 1, false⟩ : Lg).used = 0 := by rw [hlen]; decide
  have hfit : (⟨fmtH 20, [[]], 1, false⟩ : Lg).used + secsN (encF wqB).length ≤ (⟨fmtH 20, [[]], 1, false⟩ : Lg).h.area := by rw [hlen]; decide
  obtain ⟨g1, g2⟩ := walG_app hw (by simp) hb (by rw [hlen]; omega) hfit
  rcases h with ⟨h, _⟩ | ⟨_, rfl, ev', b', n', C', l', G', F', h1, _, _, _, _, _, _, h8, h9⟩
  · exact absurd hr h
  · rw [g1] at h1
    rw [Lg.after, if_pos rfl] at h1
    have hw2 := g2 h1.wal
    refine ⟨by rw [g1], _, F', _, h1.wal.2.1, hw2.good, hw2.dok, ?_, rfl, h8, h9⟩
    exact law_app hl hw.good (by show (2 : Int) + 2 * 20 ≤ (42 : Nat); decide) hb (by rw [hlen]; omega) hfit (by show (1 : Int) + (1 : Nat) + 1 ≤ 2000000000; decide)

theorem wk_open {p : Nat} {D : Dk} {F : Nat → Prop} (w : World) (hD : Dsk w p D F) (hg : D.Good 42) (hok : D.Ok 22000) (hl : LawD ((⟨fmtH 20, [[]], 1, false⟩ : Lg).add (encF wqB)) 1 D.S) :
    Calls Tryz.prog 35 #[.pointer (some ⟨p, 0, none⟩)] w fun e w' => ∃ r q b n C X D' G' F', e = .returned (.tuple #[.pointer (some ⟨r, 0, none⟩), .int .i64 0]) ∧ RegMem w' r q p 3 b n C wqL 20 X D' G' F' ∧ WalG w' q p X D' G' F' 42 1024000 ∧ n ≤ 1000 ∧ X.parts.length < 1000 ∧ Upd F w w' := by
  have hp : ((⟨fmtH 20, [[]], 1, false⟩ : Lg).add (encF wqB)).parts = [] :: [encF wqB] := rfl
  refine (ropen_good (N := 42) w hD hl hg hok (by omega) (by show (2 : Int) + 2 * 20 ≤ (42 : Nat); decide) (by show (1 : Int) < 1073741824; decide) (by show (1 : Int) ≤ 1 + 1; decide) hp (by rw [wq_found])).mono ?_
  rintro e w' ⟨r, q, b, n, C, D', G', F', rfl, h1, h2, h3, h4, h5, h6, h7, h8, h9, h10, h11, h12⟩
  rw [wq_found] at h1
  have har : areaN (((⟨fmtH 20, [[]], 1, false⟩ : Lg).add (encF wqB)).h.area - ((⟨fmtH 20, [[]], 1, false⟩ : Lg).add (encF wqB)).used) ((⟨fmtH 20, [[]], 1, false⟩ : Lg).add (encF wqB)).parts = 20 := by
    have hlen := wq_len
    rw [hp]
    show areaN (20 - (1 + (secsN (encF wqB).length : Int))) [[], encF wqB] = 20
    simp only [areaN, List.foldl]
    rw [hlen]
    decide
  rw [har] at h1
  have hpl : ((⟨fmtH 20, [[]], 1, false⟩ : Lg).add (encF wqB)).parts.length = 2 := rfl
  rw [hpl] at h6
  exact ⟨r, q, b, n, C, _, D', G', F', rfl, h1, h2, by omega, by show (2 : Nat) < 1000; omega, h12⟩

set_option maxHeartbeats 8000000 in
theorem wakes_any (w : World) : Calls Tryz.prog 18 #[] w fun e w' => e = .returned (.bool true) ∧ Upd (fun _ => False) w w' := by
  go_enter Tryz.func18, Tryz.ntmps18
  go_wp2_with (go_at_call 13; fail)
  refine (wk_new w).mono ?_
  rintro e w1 ⟨F, rfl, hD, hF, hu, hg, hok⟩
  have HD := Lib.hid hD; have HF := Lib.hid hF; have HU1 := Lib.hid hu; have HG := Lib.hid hg; have HOK := Lib.hid hok
  obtain ⟨p, hp⟩ : ∃ p, p = w.heap.size + 1 := ⟨_, rfl⟩
  have HP := Lib.hid hp
  rw [← hp] at HD ⊢
  clear hD hF hu hg hok hp
  simp only []
  go_wp2_with (go_at_call 47; fail)
  refine (wk_format w1 HD.out HG.out HOK.out).mono ?_
  rintro e w2 ⟨r, b, q, G2, F2, rfl, h1, h2, h3, h4, h5, h6⟩
  have HL := Lib.hid (law_fmt HG.out (area := 20) (by omega) (by omega))
  have HR2 := Lib.hid h1; have HW2 := Lib.hid h2; have HG2 := Lib.hid h3; have HF2 := Lib.hid h4; have HRL := Lib.hid h5
  have HU2 := Lib.hid (show Upd (fun _ => False) w w2 from HU1.out.step h6 (fun k hk e => by have := HF.out k e; omega))
  have HS1 := Lib.hid (show w.heap.size ≤ w1.heap.size from HU1.out.size)
  clear h1 h2 h3 h4 h5 h6 HD HOK
  simp only []
  go_wp2_with (go_at_call 31; fail)
  obtain ⟨w3, hw3⟩ : ∃ w3, w3 = (w2.alloc (.cells #[.int .u8 7] 5)).alloc (.cells #[.string { data := #[107] }, .bool false, .bool true, .slice none 0 0, .slice (some ⟨w2.heap.size, 0, none⟩) 1 1] 73) := ⟨_, rfl⟩
  rw [← hw3]
  have hu3 : Upd (fun _ => False) w2 w3 := by rw [hw3]; exact ((Upd.refl _ w2).alloc _).alloc _
  have hx3 : w3.heap[w2.heap.size + 1]? = some (.cells #[.string { data := #[107] }, .bool false, .bool true, .slice none 0 0, .slice (some ⟨w2.heap.size, 0, none⟩) 1 1] 73 (0, 0)) := by rw [hw3]; exact alloc_at (by simp)
  have hbi : BytesIn w3 (.slice (some ⟨w2.heap.size, 0, none⟩) 1 1) [7] := by rw [hw3]; exact (one_in w2 7).kept ((Upd.refl (fun _ => False) _).alloc _)
  have hsi : SetsIn w3 (some ⟨w2.heap.size + 1, 0, none⟩) wqB.sets := by
    intro i x hx
    have hi : i = 0 := by
      have := (List.getElem?_eq_some_iff.1 hx).1
      simp [wqB] at this
      exact this
    subst hi
    simp [wqB] at hx
    subst hx
    obtain ⟨c0, c1, c2, c3, c4⟩ := cells5_of hx3
    refine ⟨by decide, by decide, by decide, w2.heap.size + 1, 0, rfl, none, 0, some ⟨w2.heap.size, 0, none⟩, 1, c0, c1, c2, c3, c4, .inl ⟨rfl, rfl⟩, hbi, fun y hy => by simp [wqX] at hy, fun y hy => by simp [wqX] at hy; omega⟩
  have hal : ∀ b o, (some (⟨w2.heap.size + 1, 0, none⟩ : Addr)) = some ⟨b, o, none⟩ → b < w3.heap.size := fun b o e => by
    injection e with e
    injection e with e
    subst e
    exact lt_of_heap hx3
  have HCM := Lib.hid (wk_commit (c := 1) w3 (HR2.out.kept0 hu3) (HW2.out.kept hu3 (fun _ _ e => e) (fun _ _ e => e)) HL.out (by omega) hsi hal)
  have HU3 := Lib.hid hu3
  clear hw3 hu3 hx3 hbi hsi hal
  refine HCM.out.mono ?_
  rintro e w4 ⟨rfl, D4, F4, X4, hd4, hg4, hk4, hl4, rfl, hF4, hu4⟩
  have hu24 : Upd (fun _ => False) w w4 := (HU2.out.trans HU3.out).step hu4 (fun k hk e => by
    have h1 := HS1.out
    rcases e with e | e | e
    · have := HG2.out k e; omega
    · rcases HF2.out k e with e | e
      · have := HF.out k e; omega
      · omega
    · have := HRL.out; omega)
  have hF4' : ∀ k, F4 k → w.heap.size ≤ k := fun k hk => by
    have h1 := HS1.out
    rcases hF4 k hk with e | e
    · rcases HF2.out k e with e | e
      · have := HF.out k e; omega
      · omega
    · have := (HU2.out.trans HU3.out).size; omega
  have HD4 := Lib.hid hd4; have HG4 := Lib.hid hg4; have HK4 := Lib.hid hk4; have HL4 := Lib.hid hl4; have HF4 := Lib.hid hF4'; have HU4 := Lib.hid hu24
  clear hd4 hg4 hk4 hl4 hF4 hu4 hu24 hF4' HCM HR2 HW2 HL HG2 HF2
  simp only []
  go_wp2_with (go_at_call 35; fail)
  refine (wk_open w4 HD4.out HG4.out HK4.out HL4.out).mono ?_
  rintro e w5 ⟨r5, q5, b5, n5, C5, X5, D5, G5, F5, rfl, h1, h2, hn5, hp5, hu5⟩
  have HR5 := Lib.hid h1; have HW5 := Lib.hid h2
  have HU5 := Lib.hid (show Upd (fun _ => False) w w5 from HU4.out.step hu5 (fun k hk e => by have := HF4.out k e; omega))
  clear h1 h2 hu5 HD4 HG4 HK4 HL4
  simp only []
  go_wp2_with (go_at_call 34; fail)
  refine (value_any (s := { data := #[107] }) w5 HR5.out.reg HR5.out.map.1 (by decide) (by rw [wq_get]; decide)).mono ?_
  rintro e w6 ⟨u, rfl, hown, hu6⟩
  rw [wq_get] at hown
  have hown : OwnB w6 w5.heap.size u [7] := hown
  have hR6 := HR5.out.kept0 hu6
  obtain ⟨g, o, c, rfl, hcell⟩ : ∃ g o c, u = .slice (some ⟨g, o, none⟩) 1 c ∧ w6.cell? ⟨g, o, none⟩ = some (.int .u8 7) := by
    rcases hown.bytesAt.1 with ⟨_, h⟩ | ⟨g, o, c, _, h1, _, _, h4⟩
    · cases h
    · exact ⟨g, o, c, h1, h4 0 _ rfl⟩
  have HR6 := Lib.hid hR6
  have HW6 := Lib.hid (HW5.out.kept hu6 (fun _ _ e => e) (fun _ _ e => e))
  have HU6 := Lib.hid (HU5.out.trans hu6)
  have hsome : (KV.get wqL { data := #[107] }).isSome = true := by rw [wq_get]; rfl
  rw [hsome]
  clear hown hu6 hR6 hsome HR5 HW5
  simp only []
  go_wp2_with (go_at_call 36; fail)
  refine (epoch_any w6 HR6.out.reg).mono ?_
  rintro e w7 ⟨rfl, rfl⟩
  simp only []
  go_wp2_with (go_at_call 46; fail)
  refine (area_any w6 HR6.out.reg).mono ?_
  rintro e w7 ⟨rfl, rfl⟩
  simp only []
  go_wp2_with (go_at_call 31; fail)
  have hc2 : Calls Tryz.prog 31 #[.pointer (some ⟨r5, 0, none⟩), .agg #[.int .u64 2, .bool false, .slice none 0 0]] w6 _ := commit_any (c := 0) (a := none) (B := wqB2) w6 HR6.out HW6.out.ok hp5 HW6.out.dok (by omega) (by omega) wq_fine (by omega) (by omega) (fun i x hx => by simp [wqB2] at hx) (by simp [wqB2]) ⟨by show (0 : Int) ≤ 2 ∧ (2 : Int) ≤ 18446744073709551615; omega, fun x hx => by simp [wqB2] at hx⟩ (fun b o e => by cases e)
  refine hc2.mono ?_
  intro e w7 h
  unfold CommitAns at h
  rw [wq_plan2 HW6.out.unbroken] at h
  obtain ⟨rfl, hu7⟩ := h
  have HU7 := Lib.hid (HU6.out.trans hu7)
  clear hu7 hc2
  simp only []
  go_wp2
  go_ret
  exact ⟨rfl, HU7.out⟩
end Go.Proofs.YtbimkhdiplnbfaaGreat
end

section
namespace Go.Proofs.YtbimkhdiplnbfaaGreat
set_option maxRecDepth 100000
open Go.RowKit Go.Shelf

/-! ### The whole of a state, played, is the state -/
end Go.Proofs.YtbimkhdiplnbfaaGreat
end

section
namespace Go.Proofs.YtbimkhdiplnbfaaGreat
set_option maxRecDepth 100000
open Go.RowKit Go.Shelf

def ValsAt (w : World) (C : Nat → Prop) (a : Option Addr) (l : KV) : Prop := ∀ i p, l[i]? = some p → ∃ g v, a = some ⟨g, 0, none⟩ ∧ w.cell? ⟨g, i * 2, none⟩ = some (.string p.1) ∧ w.cell? ⟨g, i * 2 + 1, none⟩ = some v ∧ BytesAt w C v p.2
end Go.Proofs.YtbimkhdiplnbfaaGreat
end

section
namespace Go.Proofs.YtbimkhdiplnbfaaGreat
set_option maxRecDepth 100000
open Go.RowKit Go.Shelf

theorem ValsAt.kept {F C : Nat → Prop} {w w' : World} {a : Option Addr} {l : KV} (h : ValsAt w C a l) (hu : Upd F w w') (ha : ∀ g o, a = some ⟨g, o, none⟩ → ¬ F g) (hc : ∀ k, C k → ¬ F k) : ValsAt w' C a l := fun i p hp => by
  obtain ⟨g, v, e, h1, h2, h3⟩ := h i p hp
  exact ⟨g, v, e, cell_keptF hu (ha g 0 e) h1, cell_keptF hu (ha g 0 e) h2, h3.kept hu hc⟩
theorem ValsAt.kept0 {C : Nat → Prop} {w w' : World} {a : Option Addr} {l : KV} (h : ValsAt w C a l) (hu : Upd (fun _ => False) w w') : ValsAt w' C a l := h.kept hu (fun _ _ _ e => e) (fun _ _ e => e)

theorem KV.get_first {l : KV} {s : ByteArray} {k : Nat} {p : ByteArray × List Int} (hp : l[k]? = some p) (he : p.1 = s) (hn : ∀ i q, i < k → l[i]? = some q → q.1 ≠ s) : l.get s = some p.2 := by
  induction l generalizing k with
  | nil => simp at hp
  | cons q l ih =>
    unfold KV.get
    cases k with
    | zero =>
      simp at hp
      subst hp
      simp [he]
    | succ k =>
      have h1 := hn 0 q (by omega) rfl
      rw [List.find?_cons_of_neg (by simpa using h1)]
      exact ih (by simpa using hp) (fun i q hi hq => hn (i + 1) q (by omega) (by simpa using hq))
theorem KV.get_no {l : KV} {s : ByteArray} (hn : ∀ (i : Nat) (q : ByteArray × List Int), l[i]? = some q → q.1 ≠ s) : l.get s = none := by
  unfold KV.get
  rw [Option.map_eq_none_iff, List.find?_eq_none]
  intro q hq
  obtain ⟨i, hi⟩ := List.mem_iff_getElem?.1 hq
  simpa using hn i q hi

set_option maxHeartbeats 8000000 in
theorem get_val {C : Nat → Prop} {a : Option Addr} {c : Nat} {l : KV} {s : ByteArray} (w : World) (h : ValsAt w C a l) (hl : l.length ≤ 1000) :
    Calls Tryz.prog 32 #[.slice a l.length c, .string s] w fun e w' => ∃ v, e = .returned (.tuple #[v, .bool (l.get s).isSome]) ∧ BytesAt w' C v ((l.get s).getD []) ∧ Upd (fun _ => False) w w' := by
  have HV := Lib.hid h
  clear h
  go_enter Tryz.func32, Tryz.ntmps32
  go_upto_block 0 with fail
  go_upto_region 2 with fail
  go_loopg [10] l.length (fun gk i wr => ∃ k : Nat, k ≤ l.length ∧ gk = l.length - k ∧ i = .int .i64 k ∧ (∀ i q, i < k → l[i]? = some q → q.1 ≠ s) ∧ Upd (fun _ => False) w wr)
  case atStart => exact ⟨0, Nat.zero_le _, rfl, rfl, fun i q hi => by omega, Upd.refl _ _⟩
  case round =>
    obtain ⟨k, hk, rfl, rfl, hn, hu⟩ := hrel
    have HN := Lib.hid hn; have HU := Lib.hid hu
    have hv := HV.out.kept0 hu
    clear hn hu
    by_cases hkn : k < l.length
    · have hkni : (k : Int) < l.length := by omega
      obtain ⟨p, hp⟩ : ∃ p, l[k]? = some p := ⟨_, List.getElem?_eq_getElem hkn⟩
      obtain ⟨g, v, rfl, y0, y1, hb⟩ := hv k p hp
      obtain ⟨va, vc, rfl, _⟩ := hb.slice
      have HB := Lib.hid hb; have HP := Lib.hid hp
      clear hv hb hp
      go_upto_region 4 with fail
      obtain ⟨wa, hwa⟩ : ∃ wa, wa = wr.alloc (.cells #[.string p.1, .slice va p.2.length vc] 164) := ⟨_, rfl⟩
      rw [← hwa]
      have hua : Upd (fun _ => False) wr wa := by rw [hwa]; exact (Upd.refl _ wr).alloc _
      have hxa : wa.heap[wr.heap.size]? = some (.cells #[.string p.1, .slice va p.2.length vc] 164 (0, 0)) := by rw [hwa]; exact alloc_at rfl
      obtain ⟨z0, z1⟩ := cells2_of hxa
      have HBA := Lib.hid (HB.out.kept hua (fun _ _ e => e)); have HUA := Lib.hid (HU.out.trans hua)
      clear hwa hua hxa y0 y1
      have hcv2 : IntKind.i64.wrap ((k : Int) + 1) = (k : Int) + 1 := by rw [IntKind.wrap_i64]; omega
      by_cases he : p.1 = s
      · have hget := KV.get_first HP.out he HN.out
        have HG := Lib.hid hget
        clear hget
        subst he
        go_wp2
        go_returns
        rw [HG.out]
        exact ⟨_, rfl, HBA.out, HUA.out⟩
      · have HE := Lib.hid he
        have heb : (p.1.toList == s.toList) = false := by rw [toList_eq]; exact decide_eq_false he
        go_wp2
        go_roundg (l.length - (k + 1))
        case measure => omega
        case rel => exact ⟨k + 1, by omega, rfl, congrArg _ (by omega), fun i q hi hq => by
          by_cases e : i = k
          · subst e
            rw [HP.out] at hq
            injection hq with hq
            subst hq
            exact HE.out
          · exact HN.out i q (by omega) hq, HUA.out⟩
    · obtain rfl : k = l.length := by omega
      have hget : l.get s = none := KV.get_no fun i q hq => HN.out i q (List.getElem?_eq_some_iff.1 hq).1 hq
      have HG := Lib.hid hget
      clear hget
      go_wp2
      go_returns
      rw [HG.out]
      exact ⟨_, rfl, .inl ⟨rfl, rfl⟩, HU.out⟩
end Go.Proofs.YtbimkhdiplnbfaaGreat
end

section
namespace Go.Proofs.YtbimkhdiplnbfaaGreat
set_option maxRecDepth 100000
open Go.RowKit Go.Shelf

def rightV (l : KV) (R : List Bool) (k : Nat) (x : SetV) : SetV := if R[k]? = some true then ⟨(clipV x).name, (l.get (clipV x).name).isSome, x.is, (l.get (clipV x).name).getD [], (clipV x).new⟩ else clipV x
def batchR (l : KV) (R : List Bool) (B : BatchV) : BatchV := ⟨B.epoch, B.large, (B.sets.take 49).mapIdx (rightV l R)⟩

def BoolsR (w : World) (ka : Option Addr) (keep : List Bool) : Prop := ∀ i b, keep[i]? = some b → ∃ kb ko, ka = some ⟨kb, ko, none⟩ ∧ kb < w.heap.size ∧ w.cell? ⟨kb, ko + i, none⟩ = some (.bool b)

theorem take_drop_at {α : Type} {M l0 : List α} {k : Nat} (hM : M.length = l0.length) (hk : k < l0.length) : (M.take k ++ l0.drop k)[k]? = some l0[k] := by
  have e1 : (M.take k).length = k := by simp; omega
  rw [List.getElem?_append_right (by omega), e1, Nat.sub_self]
  simp [hk]
theorem take_drop_set {α : Type} {M l0 : List α} {k : Nat} {y : α} (hM : M.length = l0.length) (hy : M[k]? = some y) : (M.take k ++ l0.drop k).set k y = M.take (k + 1) ++ l0.drop (k + 1) := by
  obtain ⟨h1, h2⟩ := List.getElem?_eq_some_iff.1 hy
  have e1 : (M.take k).length = k := by simp; omega
  rw [List.set_append_right _ _ (by omega), e1, Nat.sub_self, List.take_succ_eq_append_getElem h1, List.drop_eq_getElem_cons (l := l0) (by omega), h2]
  simp only [List.set_cons_zero, List.append_assoc, List.cons_append, List.nil_append]

structure BrAt (w : World) (base : Nat) (ev : Int) (lg : Bool) (opc rgc : Array Value) (C : Nat → Prop) (la : Option Addr) (lc : Nat) (l : List SetV) (W : World) : Prop where
  out : W.heap[w.heap.size + 3]? = some (.cells #[.int .u64 ev, .bool lg, .slice la l.length lc] 56 (0, 0))
  res : W.heap[w.heap.size + 2]? = some (.cells #[.int .u64 0, .bool false, .slice none 0 0] 56 (0, 0))
  op : W.heap[w.heap.size]? = some (.cells opc 58 (0, 0))
  row : SetRow W base C (.slice la l.length lc) l
  rows : RowC W C
  upd : Upd (fun _ => False) w W
  reg : W.heap[w.heap.size + 1]? = some (.cells rgc 62 (0, 0))
  low : ∀ k, C k → base ≤ k

theorem BrAt.kept0 {w : World} {base : Nat} {ev : Int} {lg : Bool} {opc rgc : Array Value} {C : Nat → Prop} {la : Option Addr} {lc : Nat} {l : List SetV} {W W' : World} (h : BrAt w base ev lg opc rgc C la lc l W) (hu : Upd (fun _ => False) W W') : BrAt w base ev lg opc rgc C la lc l W' := by
  have kk : ∀ (b : Nat) o, W.heap[b]? = some o → W'.heap[b]? = some o := fun b o h => (hu.block _ (lt_of_heap h) (fun e => e)).trans h
  exact ⟨kk _ _ h.out, kk _ _ h.res, kk _ _ h.op, h.row.kept hu (fun _ _ e => e) (fun _ _ e => e), h.rows.kept hu (fun _ _ e => e), h.upd.trans hu, kk _ _ h.reg, h.low⟩

theorem flat_put2 (L : List (SetV × Value × Value)) (i : Nat) (x : SetV) (y : SetV × Value × Value) (v : Value) (hi : L[i]? = some y) (hn : x.name = y.1.name) (his : x.is = y.1.is) :
    ((L.flatMap elC).set (i * 5 + 1) (.bool x.was)).set (i * 5 + 3) v = (L.set i (x, v, y.2.2)).flatMap elC := by
  have hil := (List.getElem?_eq_some_iff.1 hi).1
  apply List.ext_getElem?
  intro p
  by_cases hp : p < 5 * L.length
  · obtain ⟨j, t, ht, hj, rfl⟩ : ∃ j t, t < 5 ∧ j < L.length ∧ p = j * 5 + t := ⟨p / 5, p % 5, by omega, by omega, by omega⟩
    by_cases hji : j = i
    · subst hji
      rw [flat_at (L.set j (x, v, y.2.2)) j t (x, v, y.2.2) (by simp [hil]) ht]
      have h2 := flat_at L j t y hi ht
      have hlen : j * 5 + 4 < (L.flatMap elC).length := by rw [flat_length]; omega
      match t, ht with
      | 0, _ => rw [List.getElem?_set_ne (by omega), List.getElem?_set_ne (by omega), h2]; simp [elC, hn]
      | 1, _ => rw [List.getElem?_set_ne (by omega), List.getElem?_set_self (by omega)]; rfl
      | 2, _ => rw [List.getElem?_set_ne (by omega), List.getElem?_set_ne (by omega), h2]; simp [elC, his]
      | 3, _ => rw [List.getElem?_set_self (by simp only [List.length_set]; omega)]; rfl
      | 4, _ => rw [List.getElem?_set_ne (by omega), List.getElem?_set_ne (by omega), h2]; simp [elC]
    · rw [List.getElem?_set_ne (by omega), List.getElem?_set_ne (by omega)]
      rw [flat_at L j t L[j] (List.getElem?_eq_getElem hj) ht, flat_at (L.set i (x, v, y.2.2)) j t L[j] (by rw [List.getElem?_set_ne (Ne.symm hji)]; exact List.getElem?_eq_getElem hj) ht]
  · rw [List.getElem?_eq_none (by simp only [List.length_set, flat_length]; omega), List.getElem?_eq_none (by rw [flat_length, List.length_set]; omega)]

theorem SetRow.more {C C' : Nat → Prop} {w : World} {B : Nat} {sv : Value} {l : List SetV} (h : SetRow w B C sv l) (hc : ∀ k, C k → C' k) : SetRow w B C' sv l := by
  obtain ⟨L, h0, h1, h2, h3⟩ := h
  exact ⟨L, h0, h1, fun y hy => ⟨(h2 y hy).1.mono hc, (h2 y hy).2.mono hc⟩, h3⟩
theorem SetRow.put2 {w : World} {g cap B : Nat} {C : Nat → Prop} {l : List SetV} {i : Nat} {x x' : SetV} {v : Value} (h : SetRow w B C (.slice (some ⟨g, 0, none⟩) l.length cap) l) (hr : RowC w C) (hi : l[i]? = some x) (hn : x'.name = x.name) (his : x'.is = x.is) (hnew : x'.new = x.new) (hv : BytesAt w C v x'.old) (hf : x'.fine) :
    SetRow ((w.setCell ⟨g, i * 5 + 1, none⟩ (.bool x'.was)).setCell ⟨g, i * 5 + 3, none⟩ v) B C (.slice (some ⟨g, 0, none⟩) l.length cap) (l.set i x') ∧ Upd (fun k => k = g) w ((w.setCell ⟨g, i * 5 + 1, none⟩ (.bool x'.was)).setCell ⟨g, i * 5 + 3, none⟩ v) := by
  have hap : ∀ k, C k → ¬ k = g := fun k hk e => h.apart hr k hk (by rw [e]; rfl)
  have hupd : Upd (fun k => k = g) w ((w.setCell ⟨g, i * 5 + 1, none⟩ (.bool x'.was)).setCell ⟨g, i * 5 + 3, none⟩ v) := (upd_own w g _ _).trans (upd_own _ g _ _)
  obtain ⟨L, rfl, h1, h2, h3⟩ := h
  simp only [List.getElem?_map, Option.map_eq_some_iff] at hi
  obtain ⟨y, hy, rfl⟩ := hi
  refine ⟨⟨L.set i (x', v, y.2.2), by rw [List.map_set], ?_, fun z hz => ?_, fun z hz => ?_⟩, hupd⟩
  · have := ((h1.stored (i * 5 + 1) (.bool x'.was)).1.stored (i * 5 + 3) v).1
    rw [flat_put2 L i x' y v hy hn his] at this
    rw [List.length_set]
    exact this
  · rcases List.mem_or_eq_of_mem_set hz with hz | rfl
    · exact ⟨(h2 z hz).1.kept hupd hap, (h2 z hz).2.kept hupd hap⟩
    · exact ⟨hv.kept hupd hap, by rw [hnew]; exact (h2 y (List.mem_of_getElem? hy)).2.kept hupd hap⟩
  · rcases List.mem_or_eq_of_mem_set hz with hz | rfl
    · exact h3 z hz
    · exact hf

set_option maxHeartbeats 8000000 in
theorem batch_right {c rn rc pn pc kn kc : Nat} {a ra pa ka : Option Addr} {B : BatchV} {R : List Bool} {l : KV} {CV : Nat → Prop} {e0 kd on : Int} (w : World) (hs : SetsIn w a B.sets) (hb : ∀ x ∈ B.sets, Bytes x.old ∧ Bytes x.new) (hl : B.sets.length ≤ c) (hc : c ≤ maxLen)
    (hR : BoolsR w ra R) (hrn : rn = R.length) (hV : ValsAt w CV pa l) (hpn : pn = l.length) (hF : l.Fine) :
    Calls Tryz.prog 19 #[.agg #[.int .i64 kd, .int .i64 on, .int .u64 B.epoch, .bool B.large, .slice a B.sets.length c, .slice ra rn rc, .slice ka kn kc], .agg #[.int .u64 e0, .slice pa pn pc]] w (CopyAns w (batchR l R B)) := by
  have HRB := Lib.hid hR; have HRN := Lib.hid hrn; have HV := Lib.hid hV; have HPN := Lib.hid hpn; have HF := Lib.hid hF
  clear hR hrn hV hpn hF
  have HS := Lib.hid hs; have HBB := Lib.hid hb
  clear hs hb
  obtain ⟨n, hn⟩ : ∃ n, n = B.sets.length := ⟨_, rfl⟩
  rw [← hn] at hl ⊢
  have HN := Lib.hid hn
  clear hn
  obtain ⟨w1, hw1⟩ : ∃ w1, w1 = ((w.alloc (.cells #[.int .i64 kd, .int .i64 on, .int .u64 B.epoch, .bool B.large, .slice a n c, .slice ra rn rc, .slice ka kn kc] 58)).alloc (.cells #[.int .u64 e0, .slice pa pn pc] 62)).alloc (.cells #[.int .u64 0, .bool false, .slice none 0 0] 56) := ⟨_, rfl⟩
  have hu1 : Upd (fun _ => False) w w1 := by rw [hw1]; exact (((Upd.refl _ w).alloc _).alloc _).alloc _
  have ho1 : w1.heap[w.heap.size]? = some (.cells #[.int .i64 kd, .int .i64 on, .int .u64 B.epoch, .bool B.large, .slice a n c, .slice ra rn rc, .slice ka kn kc] 58 (0, 0)) := by rw [hw1, alloc_lt (by simp; omega), alloc_lt (by simp)]; exact alloc_at rfl
  have hg1 : w1.heap[w.heap.size + 1]? = some (.cells #[.int .u64 e0, .slice pa pn pc] 62 (0, 0)) := by rw [hw1, alloc_lt (by simp)]; exact alloc_at (by simp)
  have hr1 : w1.heap[w.heap.size + 2]? = some (.cells #[.int .u64 0, .bool false, .slice none 0 0] 56 (0, 0)) := by rw [hw1]; exact alloc_at (by simp)
  have hz1 : w1.heap.size = w.heap.size + 3 := by rw [hw1]; simp
  have HW1 := Lib.hid hw1; have HU1 := Lib.hid hu1; have HO1 := Lib.hid ho1; have HR1 := Lib.hid hr1; have HG1 := Lib.hid hg1; have HZ1 := Lib.hid hz1
  clear hw1 hu1 ho1 hr1 hz1 hg1
  go_enter Tryz.func19, Tryz.ntmps19
  go_upto_region 1 with fail
  rw [← HW1.out, show w.heap.size + 1 + 1 = w.heap.size + 2 from rfl]
  have cc : ∀ j v, #[Value.int .i64 kd, .int .i64 on, .int .u64 B.epoch, .bool B.large, .slice a n c, .slice ra rn rc, .slice ka kn kc][j]? = some v → w1.cell? ⟨w.heap.size, j, none⟩ = some v := fun j v h => by
    rw [cell_of_heap HO1.out]; exact h
  have c2 := cc 2 _ rfl; have c3 := cc 3 _ rfl; have c4 := cc 4 _ rfl
  have CS := Lib.hid (cc 5 _ rfl)
  clear cc
  go_upto_region 2 with fail
  rw [HZ1.out]
  obtain ⟨w2, hw2⟩ : ∃ w2, w2 = w1.alloc (.cells #[.int .u64 B.epoch, .bool B.large, .slice a n c] 56) := ⟨_, rfl⟩
  rw [← hw2]
  have hu2 : Upd (fun _ => False) w1 w2 := by rw [hw2]; exact (Upd.refl _ w1).alloc _
  have hb2 : w2.heap[w.heap.size + 3]? = some (.cells #[.int .u64 B.epoch, .bool B.large, .slice a n c] 56 (0, 0)) := by rw [hw2]; exact alloc_at HZ1.out.symm
  have fr2 : w2.frozen? ⟨w.heap.size + 3, 2, none⟩ = false := frozen_of_heap hb2
  obtain ⟨y0, y1, y2⟩ := cells3_of hb2
  obtain ⟨m, hm⟩ : ∃ m, m = (B.sets.take 49).length := ⟨_, rfl⟩
  have hmm : m = min n 49 := by rw [hm, HN.out]; simp [Nat.min_comm]
  have hmn : min (n : Int) 49 = (m : Int) := by omega
  have hmle : m ≤ n := by omega
  have hslice : ∃ a', (∀ W, (Instr.slice 54 (.slice a n c) none (some (.int .i64 m)) none).run Tryz.prog W = .ok (.slice a' m c) W) ∧ SetsIn w a' (B.sets.take 49) := by
    have hr : ∀ W, (Instr.slice 54 (.slice a n c) none (some (.int .i64 m)) none).run Tryz.prog W = .ok (sliced a 0 m c 5) W := fun W => by
      rw [run_slice_h W 54 a n c elem54 .i64 m (by omega) (by omega), size54e]
      simp [Result.andThen]
    cases a with
    | none => exact ⟨none, fun W => by rw [hr W]; unfold sliced; simp, fun i x hx => by
        obtain ⟨_, _, _, b, o, e, _⟩ := HS.out i x (by rw [List.getElem?_take] at hx; split at hx; exact hx; cases hx)
        cases e⟩
    | some ad =>
      refine ⟨some (if c = 0 then ad else ad.add 0), fun W => by rw [hr W]; unfold sliced; simp; split <;> rfl, fun i x hx => ?_⟩
      have hx' : B.sets[i]? = some x := by rw [List.getElem?_take] at hx; split at hx; exact hx; cases hx
      obtain ⟨g1, g2, g3, b, o, e, r⟩ := HS.out i x hx'
      injection e with e
      subst e
      exact ⟨g1, g2, g3, b, o, by split <;> rfl, r⟩
  obtain ⟨a', hsl, hsin⟩ := hslice
  have HSIN := Lib.hid hsin; have HMM := Lib.hid hmm; have HM := Lib.hid hm
  have HU2 := Lib.hid (HU1.out.trans hu2); have HB2 := Lib.hid hb2
  have HG2 := Lib.hid ((hu2.block _ (lt_of_heap HG1.out) (fun e => e)).trans HG1.out)
  have HR2 := Lib.hid ((hu2.block _ (lt_of_heap HR1.out) (fun e => e)).trans HR1.out)
  have HO2 := Lib.hid ((hu2.block _ (lt_of_heap HO1.out) (fun e => e)).trans HO1.out)
  clear hw2 hu2 hb2 hm hmm hsin c2 c3 c4 HW1 HU1 HO1 HR1 HZ1 CS
  go_upto_region 3 with fail
  obtain ⟨w3, hw3⟩ : ∃ w3, w3 = w2.setCell ⟨w.heap.size + 3, 2, none⟩ (.slice a' m c) := ⟨_, rfl⟩
  rw [← hw3]
  have hu3 : Upd (fun k => k = w.heap.size + 3) w2 w3 := by rw [hw3]; exact upd_own w2 _ 2 _
  have hb3 : w3.heap[w.heap.size + 3]? = some (.cells #[.int .u64 B.epoch, .bool B.large, .slice a' m c] 56 (0, 0)) := by
    rw [hw3]
    have := blk_set (i := 2) (v := .slice a' m c) HB2.out
    simpa using this
  obtain ⟨y0, y1, y2⟩ := cells3_of hb3
  obtain ⟨l0, hl0⟩ : ∃ l0, l0 = B.sets.take 49 := ⟨_, rfl⟩
  have HU3 := Lib.hid (HU2.out.step hu3 (fun k hk e => by omega)); have HB3 := Lib.hid hb3
  have HG3 := Lib.hid ((hu3.block _ (lt_of_heap HG2.out) (by omega)).trans HG2.out)
  have HR3 := Lib.hid ((hu3.block _ (lt_of_heap HR2.out) (by omega)).trans HR2.out)
  have HO3 := Lib.hid ((hu3.block _ (lt_of_heap HO2.out) (by omega)).trans HO2.out)
  have HCP : RowKit.Hid (Calls Tryz.prog 20 #[.agg #[.int .u64 B.epoch, .bool B.large, .slice a' m c]] w3 (CopyAns w3 ⟨B.epoch, B.large, l0⟩)) := Lib.hid (by
    rw [HM.out, hl0]
    exact copied_any (B := ⟨B.epoch, B.large, B.sets.take 49⟩) w3 (HSIN.out.kept HU3.out) (fun x hx => HBB.out x (List.mem_of_mem_take hx)) (by simp; omega))
  have HL0 := Lib.hid hl0
  have HM0 : RowKit.Hid (m = l0.length) := Lib.hid (by rw [hl0]; exact HM.out)
  clear hw3 hu3 hb3 hl0 HU2 HB2 HR2 HO2 HSIN hsl HM
  go_wp2_with (go_at_call 20; fail)
  refine HCP.out.mono ?_
  rintro e w4 ⟨la, lc, rfl, ⟨C, hrow, hrc, hc4⟩, hcap, hu4⟩
  obtain ⟨n4, hn4⟩ : ∃ n4, n4 = l0.length := ⟨_, rfl⟩
  unfold batchV
  simp only []
  simp only [] at hrow hcap
  rw [← hn4] at hrow hcap ⊢
  have HN4 := Lib.hid hn4
  have HB4 := Lib.hid ((hu4.block _ (lt_of_heap HB3.out) (fun e => e)).trans HB3.out)
  have HG4 := Lib.hid ((hu4.block _ (lt_of_heap HG3.out) (fun e => e)).trans HG3.out)
  have HR4 := Lib.hid ((hu4.block _ (lt_of_heap HR3.out) (fun e => e)).trans HR3.out)
  have HO4 := Lib.hid ((hu4.block _ (lt_of_heap HO3.out) (fun e => e)).trans HO3.out)
  have HU4 := Lib.hid (HU3.out.trans hu4)
  have HSZ := Lib.hid (lt_of_heap HB3.out)
  have HROW := Lib.hid hrow; have HRC := Lib.hid hrc; have HC4 := Lib.hid hc4; have HCAP := Lib.hid hcap
  clear hn4 hrow hrc hc4 hcap hu4 HCP HB3 HR3 HO3 HU3 y0 y1 y2
  go_step
  refine wpList_store_mid rfl 56 (.tmp 5) (.tmp 21) rfl (w.heap.size + 3) 0 #[.int .u64 B.epoch, .bool B.large, .slice la n4 lc] rfl rfl (by have q := there_block HB4.out; exact q) size56 (by simp [Value.oneCell']) ?_
  have hb5 := heap_setCells_whole (vs := [.int .u64 B.epoch, .bool B.large, .slice la n4 lc]) HB4.out rfl
  have hu5 := Upd.setCells (F := fun k => k = w.heap.size + 3) (b := w.heap.size + 3) rfl [.int .u64 B.epoch, .bool B.large, .slice la n4 lc] 0 (Upd.refl _ w4)
  obtain ⟨w5, hw5⟩ : ∃ w5, w5 = w4.setCells (w.heap.size + 3) 0 [.int .u64 B.epoch, .bool B.large, .slice la n4 lc] := ⟨_, rfl⟩
  rw [← hw5] at hb5 hu5
  rw [show #[Value.int .u64 B.epoch, .bool B.large, .slice la n4 lc].toList = [.int .u64 B.epoch, .bool B.large, .slice la n4 lc] from rfl, ← hw5]
  obtain ⟨opc, hopc⟩ : ∃ opc, opc = #[Value.int .i64 kd, .int .i64 on, .int .u64 B.epoch, .bool B.large, .slice a n c, .slice ra rn rc, .slice ka kn kc] := ⟨_, rfl⟩
  obtain ⟨base, hbase⟩ : ∃ base, base = w3.heap.size := ⟨_, rfl⟩
  obtain ⟨M, hM⟩ : ∃ M, M = l0.mapIdx (rightV l R) := ⟨_, rfl⟩
  have HMM2 := Lib.hid hM
  have hd : BrAt w base B.epoch B.large opc #[.int .u64 e0, .slice pa pn pc] C la lc l0 w5 := by
    have e5 : #[Value.int .u64 B.epoch, .bool B.large, .slice la n4 lc] = #[Value.int .u64 B.epoch, .bool B.large, .slice la l0.length lc] := by rw [HN4.out]
    refine ⟨by rw [← HN4.out]; exact hb5, (hu5.block _ (lt_of_heap HR4.out) (by omega)).trans HR4.out, by rw [hopc]; exact (hu5.block _ (lt_of_heap HO4.out) (by omega)).trans HO4.out, ?_, HRC.out.kept hu5 (fun k hk e => by have := HC4.out k hk; have := HSZ.out; omega), HU4.out.step hu5 (fun k hk e => by omega), (hu5.block _ (lt_of_heap HG4.out) (by omega)).trans HG4.out, fun k hk => by rw [hbase]; exact HC4.out k hk⟩
    rw [← HN4.out, hbase]
    refine HROW.out.kept hu5 (fun k hk e => ?_) (fun k hk e => by have := HC4.out k hk; have := HSZ.out; omega)
    obtain ⟨L, _, q, _⟩ := HROW.out
    have := (q.lt k hk).1
    have := HSZ.out
    omega
  have HD := Lib.hid hd
  have HBS : RowKit.Hid (w.heap.size + 3 < base) := Lib.hid (by rw [hbase]; exact HSZ.out)
  have HOPC := Lib.hid hopc
  have HBB0 : RowKit.Hid (∀ x ∈ l0, x.name.size ≤ 140737488351232) := Lib.hid (fun x hx => by
    obtain ⟨L, _, _, _, q⟩ := HROW.out
    exact (q x hx).1)
  obtain ⟨y0, y1, y2⟩ := cells3_of hb5
  clear hM hb5 hu5 hw5 hopc hbase hd HB4 HR4 HO4 HU4 HSZ HROW HRC HC4 HBB
  go_upto_region 5 with fail
  have hnle : n4 ≤ 49 := by rw [HN4.out, HL0.out]; simp; omega
  go_loopg [25] n4 (fun gk i wr => ∃ (k : Nat) (la : Option Addr) (C : Nat → Prop), k ≤ n4 ∧ gk = n4 - k ∧ i = .int .i64 k ∧ BrAt w base B.epoch B.large opc #[.int .u64 e0, .slice pa pn pc] C la lc (M.take k ++ l0.drop k) wr)
  case atStart => exact ⟨0, la, C, Nat.zero_le _, rfl, rfl, by simpa using HD.out⟩
  case round =>
    clear HD
    obtain ⟨k, la, C, hk, rfl, rfl, hd⟩ := hrel
    have HD := Lib.hid hd
    clear hd
    have hMl : M.length = l0.length := by rw [HMM2.out]; simp
    have hlen : (M.take k ++ l0.drop k).length = n4 := by simp only [List.length_append, List.length_take, List.length_drop, hMl]; have := HN4.out; omega
    by_cases hkn : k < n4
    · have hkni : (k : Int) < n4 := by omega
      have hkl : k < l0.length := by have := HN4.out; omega
      have hx : (M.take k ++ l0.drop k)[k]? = some l0[k] := take_drop_at hMl hkl
      obtain ⟨x, hxx⟩ : ∃ x, x = l0[k] := ⟨_, rfl⟩
      rw [← hxx] at hx
      have hMk : M[k]? = some (rightV l R k x) := by rw [HMM2.out, List.getElem?_mapIdx, List.getElem?_eq_getElem hkl, hxx]; rfl
      have hset : (M.take k ++ l0.drop k).set k (rightV l R k x) = M.take (k + 1) ++ l0.drop (k + 1) := take_drop_set hMl hMk
      have HSET := Lib.hid hset; have HX := Lib.hid hx
      obtain ⟨lk, hlk⟩ : ∃ lk, lk = M.take k ++ l0.drop k := ⟨_, rfl⟩
      rw [← hlk] at HD hlen HSET HX
      have hxin := List.mem_of_getElem? HX.out
      obtain ⟨L, hLm, hLo, hLb, hLf⟩ := HD.out.row
      have hfx := hLf x hxin
      have hx' := HX.out
      rw [← hLm] at hx'
      simp only [List.getElem?_map, Option.map_eq_some_iff] at hx'
      obtain ⟨y, hy, hyx⟩ := hx'
      obtain ⟨b1, b2⟩ := hLb y (List.mem_of_getElem? hy)
      obtain ⟨g, hg⟩ : ∃ g, la = some ⟨g, 0, none⟩ := by
        rcases hLo.2 with ⟨_, e⟩ | ⟨g, cap, cur, e, _⟩
        · omega
        · injection e with e; exact ⟨g, e⟩
      subst hg
      have hcell : ∀ j, j < 5 → wr.cell? ⟨g, k * 5 + j, none⟩ = (elC y)[j]? := fun j hj => by
        have := World.ownsRow.cells hLo rfl (k * 5 + j) ((elC y)[j]'(by rw [elC_length]; exact hj)) (by rw [flat_at L k j y hy hj, List.getElem?_eq_getElem])
        rw [Addr.add_mid, Nat.zero_add] at this
        rw [this, List.getElem?_eq_getElem]
      obtain ⟨oa, oc, eo, ho1, ho2⟩ := b1.slice
      obtain ⟨na, nc, en, hn1, hn2⟩ := b2.slice
      obtain ⟨m0, hm0⟩ : ∃ m0, m0 = min x.name.size 40 := ⟨_, rfl⟩
      obtain ⟨m1, hm1⟩ : ∃ m1, m1 = min x.old.length 3001 := ⟨_, rfl⟩
      obtain ⟨m2, hm2⟩ : ∃ m2, m2 = min x.new.length 3001 := ⟨_, rfl⟩
      obtain ⟨u1, hs1, hu1⟩ := b1.head (n := m1) (by rw [hyx]; omega)
      obtain ⟨u2, hs2, hu2⟩ := b2.head (n := m2) (by rw [hyx]; omega)
      obtain ⟨ua, uc, eu, _, _⟩ := hu1.slice
      obtain ⟨va, vc, ev, _, _⟩ := hu2.slice
      have hl1 : (y.1.old.take m1).length = m1 := by simp only [List.length_take, hyx]; omega
      have hl2 : (y.1.new.take m2).length = m2 := by simp only [List.length_take, hyx]; omega
      rw [hl1] at eu; rw [hl2] at ev
      have q0 := hcell 0 (by omega); have q3 := hcell 3 (by omega); have q4 := hcell 4 (by omega)
      rw [hyx] at hu1 hu2 eo en
      subst eu ev
      rw [eo] at hs1; rw [en] at hs2
      simp only [elC, hyx, eo, en] at q0 q3 q4
      have hmn0 : min (x.name.size : Int) 40 = (m0 : Int) := by omega
      have hmn1 : min (x.old.length : Int) 3001 = (m1 : Int) := by omega
      have hmn2 : min (x.new.length : Int) 3001 = (m2 : Int) := by omega
      have hm0le : (m0 : Int) ≤ x.name.size := by omega
      have fr0 : ∀ j, wr.frozen? ⟨g, j, none⟩ = false := fun j => World.ownsRow.frozenAt hLo j
      have f0 := fr0 (k * 5); have f3 := fr0 (k * 5 + 3); have f4 := fr0 (k * 5 + 4)
      have hA : wr.drew.cell? ⟨g, k * 5, none⟩ = some (.string x.name) ∧ wr.drew.cell? ⟨g, k * 5 + 3, none⟩ = some (.slice oa x.old.length oc) ∧ wr.drew.cell? ⟨g, k * 5 + 4, none⟩ = some (.slice na x.new.length nc) := ⟨by simpa using q0, by simpa using q3, by simpa using q4⟩
      have hxx' : x = l0[k] := hxx
      have HU1 := Lib.hid hu1; have HU2 := Lib.hid hu2; have HFX := Lib.hid hfx
      have HM0' := Lib.hid hm0; have HM1' := Lib.hid hm1; have HM2' := Lib.hid hm2; have HCE := Lib.hid hlk
      have y2 := (cells3_of HD.out.out).2.2
      rw [hlen] at y2
      have HFR := Lib.hid fr0
      clear hLm hLo hLb hLf hfx hy hyx b1 b2 hcell eo en ho1 ho2 hn1 hn2 hu1 hu2 hm0 hm1 hm2 hxx hxx' hlk hset hx hxin hMk hMl hl1 hl2 q0 q3 q4 f0 f3 f4 fr0
      go_upto_region 8 with fail
      have hud : Upd (fun _ => False) wr wr.drew := (Upd.refl _ wr).drew
      have HUD := Lib.hid hud
      have HROWL : RowKit.Hid (SetRow wr.drew base C (.slice (some ⟨g, 0, none⟩) lk.length lc) lk) := Lib.hid (HD.out.row.kept hud (fun _ _ e => e) (fun _ _ e => e))
      have HRCD := Lib.hid (HD.out.rows.kept hud (fun _ _ e => e))
      have HU1 := Lib.hid (HU1.out.kept hud (fun _ _ e => e)); have HU2 := Lib.hid (HU2.out.kept hud (fun _ _ e => e))
      have HFR : RowKit.Hid (∀ j, wr.drew.frozen? ⟨g, j, none⟩ = false) := Lib.hid (fun j => by
        obtain ⟨_, _, q, _⟩ := HROWL.out
        exact World.ownsRow.frozenAt q j)
      clear hud
      refine wp_region_G 38 (fun W => W.cell? ⟨g, k * 5, none⟩ = some (.string x.name) ∧ W.cell? ⟨g, k * 5 + 3, none⟩ = some (.slice oa x.old.length oc) ∧ W.cell? ⟨g, k * 5 + 4, none⟩ = some (.slice na x.new.length nc)) [false, false, false, false, false, false, false, false, false, false, false, false, false, false, false, false, false, false, false, false, false, false, false, false, false, false, false, false, false, false, false, false, false, false, false, false, false, false, false, false, false, false, false, false, false] rfl (by kernel_rfl) ?_
      generalize wr.drew = wd at hA HROWL HRCD HU1 HU2 HFR HUD ⊢
      refine wpG_takeT (i := 0) (v := .pointer (some ⟨g, k * 5, none⟩)) rfl (fun L hc h => (hc.waits (n := 38) (i := 0) (by kernel_rfl) h)) (by kernel_rfl) (fun _ _ _ h => h) hA (.inl ⟨rfl, fun w5 q1 => ?_⟩) ?_
      · go_simp
      simp only [Act.put, List.setIfInBounds_toArray, List.set]
      refine wpG_takeP (i := 1) (v := .pointer (some ⟨g, k * 5, none⟩)) rfl (by kernel_rfl) (fun _ _ _ h => h) hA (.inl ⟨rfl, fun w5 q1 => ?_⟩) ?_
      · go_simp
      simp only [Act.put, List.setIfInBounds_toArray, List.set]
      refine wpG_takeP (i := 2) (v := .pointer (some ⟨g, k * 5, none⟩)) rfl (by kernel_rfl) (fun _ _ _ h => h) hA (.inl ⟨rfl, fun w5 q1 => ?_⟩) ?_
      · go_simp
      simp only [Act.put, List.setIfInBounds_toArray, List.set]
      refine wpG_takeT (i := 3) (v := .pointer (some ⟨g, k * 5, none⟩)) rfl (fun L hc h => (hc.waits (n := 38) (i := 3) (by kernel_rfl) h)) (by kernel_rfl) (fun _ _ _ h => h) hA (.inl ⟨rfl, fun w5 q1 => ?_⟩) ?_
      · go_simp
      simp only [Act.put, List.setIfInBounds_toArray, List.set]
      refine wpG_takeT (i := 4) (v := .pointer (some ⟨g, k * 5, none⟩)) rfl (fun L hc h => (hc.waits (n := 38) (i := 4) (by kernel_rfl) h)) (by kernel_rfl) (fun _ _ _ h => h) hA (.inl ⟨rfl, fun w5 q1 => ?_⟩) ?_
      · go_simp
      simp only [Act.put, List.setIfInBounds_toArray, List.set]
      refine wpG_takeT (i := 5) (v := .pointer (some ⟨g, k * 5, none⟩)) rfl (fun L hc h => (hc.waits (n := 38) (i := 5) (by kernel_rfl) h)) (by kernel_rfl) (fun _ _ _ h => h) hA (.inl ⟨rfl, fun w5 q1 => ?_⟩) ?_
      · go_simp
      simp only [Act.put, List.setIfInBounds_toArray, List.set]
      refine wpG_takeT (i := 6) (v := .string x.name) rfl (fun L hc h => (hc.waits (n := 38) (i := 6) (by kernel_rfl) h)) (by kernel_rfl) (fun _ _ _ h => h) hA (.inl ⟨rfl, fun w5 q1 => ?_⟩) ?_
      · obtain ⟨c0, c1, c2⟩ := q1
        go_simp
      simp only [Act.put, List.setIfInBounds_toArray, List.set]
      refine wpG_takeT (i := 7) (v := .pointer (some ⟨g, k * 5, none⟩)) rfl (fun L hc h => (hc.waits (n := 38) (i := 7) (by kernel_rfl) h)) (by kernel_rfl) (fun _ _ _ h => h) hA (.inl ⟨rfl, fun w5 q1 => ?_⟩) ?_
      · go_simp
      simp only [Act.put, List.setIfInBounds_toArray, List.set]
      refine wpG_takeT (i := 8) (v := .pointer (some ⟨g, k * 5, none⟩)) rfl (fun L hc h => (hc.waits (n := 38) (i := 8) (by kernel_rfl) h)) (by kernel_rfl) (fun _ _ _ h => h) hA (.inl ⟨rfl, fun w5 q1 => ?_⟩) ?_
      · go_simp
      simp only [Act.put, List.setIfInBounds_toArray, List.set]
      refine wpG_takeT (i := 9) (v := .pointer (some ⟨g, k * 5, none⟩)) rfl (fun L hc h => (hc.waits (n := 38) (i := 9) (by kernel_rfl) h)) (by kernel_rfl) (fun _ _ _ h => h) hA (.inl ⟨rfl, fun w5 q1 => ?_⟩) ?_
      · go_simp
      simp only [Act.put, List.setIfInBounds_toArray, List.set]
      refine wpG_takeT (i := 10) (v := .string x.name) rfl (fun L hc h => (hc.waits (n := 38) (i := 10) (by kernel_rfl) h)) (by kernel_rfl) (fun _ _ _ h => h) hA (.inl ⟨rfl, fun w5 q1 => ?_⟩) ?_
      · obtain ⟨c0, c1, c2⟩ := q1
        go_simp
      simp only [Act.put, List.setIfInBounds_toArray, List.set]
      refine wpG_takeT (i := 11) (v := .int .i64 x.name.size) rfl (fun L hc h => (hc.waits (n := 38) (i := 11) (by kernel_rfl) h)) (by kernel_rfl) (fun _ _ _ h => h) hA (.inl ⟨rfl, fun w5 q1 => ?_⟩) ?_
      · go_simp
      simp only [Act.put, List.setIfInBounds_toArray, List.set]
      refine wpG_takeT (i := 12) (v := .int .i64 m0) rfl (fun L hc h => (hc.waits (n := 38) (i := 12) (by kernel_rfl) h)) (by kernel_rfl) (fun _ _ _ h => h) hA (.inl ⟨rfl, fun w5 q1 => ?_⟩) ?_
      · go_simp
      simp only [Act.put, List.setIfInBounds_toArray, List.set]
      refine wpG_takeT (i := 13) (v := .string (x.name.extract 0 m0)) rfl (fun L hc h => (hc.waits (n := 38) (i := 13) (by kernel_rfl) h)) (by kernel_rfl) (fun _ _ _ h => h) hA (.inl ⟨rfl, fun w5 q1 => ?_⟩) ?_
      · go_simp
      simp only [Act.put, List.setIfInBounds_toArray, List.set]
      refine wpG_takeT (i := 14) (v := .pointer (some ⟨g, k * 5, none⟩)) rfl (fun L hc h => (hc.waits (n := 38) (i := 17) (by kernel_rfl) (hc.waits (n := 17) (i := 16) (by kernel_rfl) (hc.waits (n := 16) (i := 15) (by kernel_rfl) (hc.waits (n := 15) (i := 14) (by kernel_rfl) h))))) (by kernel_rfl) (fun _ _ _ h => h) hA (.inl ⟨rfl, fun w5 q1 => ?_⟩) ?_
      · go_simp
      simp only [Act.put, List.setIfInBounds_toArray, List.set]
      refine wpG_takeT (i := 15) (v := .pointer (some ⟨g, k * 5, none⟩)) rfl (fun L hc h => (hc.waits (n := 38) (i := 17) (by kernel_rfl) (hc.waits (n := 17) (i := 16) (by kernel_rfl) (hc.waits (n := 16) (i := 15) (by kernel_rfl) h)))) (by kernel_rfl) (fun _ _ _ h => h) hA (.inl ⟨rfl, fun w5 q1 => ?_⟩) ?_
      · go_simp
      simp only [Act.put, List.setIfInBounds_toArray, List.set]
      refine wpG_takeT (i := 16) (v := .pointer (some ⟨g, k * 5 + 3, none⟩)) rfl (fun L hc h => (hc.waits (n := 38) (i := 17) (by kernel_rfl) (hc.waits (n := 17) (i := 16) (by kernel_rfl) h))) (by kernel_rfl) (fun _ _ _ h => h) hA (.inl ⟨rfl, fun w5 q1 => ?_⟩) ?_
      · go_simp
      simp only [Act.put, List.setIfInBounds_toArray, List.set]
      refine wpG_takeT (i := 17) (v := .slice oa x.old.length oc) rfl (fun L hc h => (hc.waits (n := 38) (i := 17) (by kernel_rfl) h)) (by kernel_rfl) (fun _ _ _ h => h) hA (.inl ⟨rfl, fun w5 q1 => ?_⟩) ?_
      · obtain ⟨c0, c1, c2⟩ := q1
        go_simp
      simp only [Act.put, List.setIfInBounds_toArray, List.set]
      refine wpG_takeT (i := 18) (v := .pointer (some ⟨g, k * 5, none⟩)) rfl (fun L hc h => (hc.waits (n := 38) (i := 21) (by kernel_rfl) (hc.waits (n := 21) (i := 20) (by kernel_rfl) (hc.waits (n := 20) (i := 19) (by kernel_rfl) (hc.waits (n := 19) (i := 18) (by kernel_rfl) h))))) (by kernel_rfl) (fun _ _ _ h => h) hA (.inl ⟨rfl, fun w5 q1 => ?_⟩) ?_
      · go_simp
      simp only [Act.put, List.setIfInBounds_toArray, List.set]
      refine wpG_takeT (i := 19) (v := .pointer (some ⟨g, k * 5, none⟩)) rfl (fun L hc h => (hc.waits (n := 38) (i := 21) (by kernel_rfl) (hc.waits (n := 21) (i := 20) (by kernel_rfl) (hc.waits (n := 20) (i := 19) (by kernel_rfl) h)))) (by kernel_rfl) (fun _ _ _ h => h) hA (.inl ⟨rfl, fun w5 q1 => ?_⟩) ?_
      · go_simp
      simp only [Act.put, List.setIfInBounds_toArray, List.set]
      refine wpG_takeT (i := 20) (v := .pointer (some ⟨g, k * 5 + 3, none⟩)) rfl (fun L hc h => (hc.waits (n := 38) (i := 21) (by kernel_rfl) (hc.waits (n := 21) (i := 20) (by kernel_rfl) h))) (by kernel_rfl) (fun _ _ _ h => h) hA (.inl ⟨rfl, fun w5 q1 => ?_⟩) ?_
      · go_simp
      simp only [Act.put, List.setIfInBounds_toArray, List.set]
      refine wpG_takeT (i := 21) (v := .slice oa x.old.length oc) rfl (fun L hc h => (hc.waits (n := 38) (i := 21) (by kernel_rfl) h)) (by kernel_rfl) (fun _ _ _ h => h) hA (.inl ⟨rfl, fun w5 q1 => ?_⟩) ?_
      · obtain ⟨c0, c1, c2⟩ := q1
        go_simp
      simp only [Act.put, List.setIfInBounds_toArray, List.set]
      refine wpG_takeP (i := 22) (v := .int .i64 x.old.length) rfl (by kernel_rfl) (fun _ _ _ h => h) hA (.inl ⟨rfl, fun w5 q1 => ?_⟩) ?_
      · go_simp
      simp only [Act.put, List.setIfInBounds_toArray, List.set]
      refine wpG_takeP (i := 23) (v := .int .i64 m1) rfl (by kernel_rfl) (fun _ _ _ h => h) hA (.inl ⟨rfl, fun w5 q1 => ?_⟩) ?_
      · go_simp
      simp only [Act.put, List.setIfInBounds_toArray, List.set]
      refine wpG_takeP (i := 24) (v := .slice ua m1 uc) rfl (by kernel_rfl) (fun _ _ _ h => h) hA (.inl ⟨rfl, fun w5 q1 => ?_⟩) ?_
      · go_simp
      simp only [Act.put, List.setIfInBounds_toArray, List.set]
      refine wpG_takeT (i := 25) (v := .pointer (some ⟨g, k * 5, none⟩)) rfl (fun L hc h => (hc.waits (n := 38) (i := 28) (by kernel_rfl) (hc.waits (n := 28) (i := 27) (by kernel_rfl) (hc.waits (n := 27) (i := 26) (by kernel_rfl) (hc.waits (n := 26) (i := 25) (by kernel_rfl) h))))) (by kernel_rfl) (fun _ _ _ h => h) hA (.inl ⟨rfl, fun w5 q1 => ?_⟩) ?_
      · go_simp
      simp only [Act.put, List.setIfInBounds_toArray, List.set]
      refine wpG_takeT (i := 26) (v := .pointer (some ⟨g, k * 5, none⟩)) rfl (fun L hc h => (hc.waits (n := 38) (i := 28) (by kernel_rfl) (hc.waits (n := 28) (i := 27) (by kernel_rfl) (hc.waits (n := 27) (i := 26) (by kernel_rfl) h)))) (by kernel_rfl) (fun _ _ _ h => h) hA (.inl ⟨rfl, fun w5 q1 => ?_⟩) ?_
      · go_simp
      simp only [Act.put, List.setIfInBounds_toArray, List.set]
      refine wpG_takeT (i := 27) (v := .pointer (some ⟨g, k * 5 + 4, none⟩)) rfl (fun L hc h => (hc.waits (n := 38) (i := 28) (by kernel_rfl) (hc.waits (n := 28) (i := 27) (by kernel_rfl) h))) (by kernel_rfl) (fun _ _ _ h => h) hA (.inl ⟨rfl, fun w5 q1 => ?_⟩) ?_
      · go_simp
      simp only [Act.put, List.setIfInBounds_toArray, List.set]
      refine wpG_takeT (i := 28) (v := .slice na x.new.length nc) rfl (fun L hc h => (hc.waits (n := 38) (i := 28) (by kernel_rfl) h)) (by kernel_rfl) (fun _ _ _ h => h) hA (.inl ⟨rfl, fun w5 q1 => ?_⟩) ?_
      · obtain ⟨c0, c1, c2⟩ := q1
        go_simp
      simp only [Act.put, List.setIfInBounds_toArray, List.set]
      refine wpG_takeT (i := 29) (v := .pointer (some ⟨g, k * 5, none⟩)) rfl (fun L hc h => (hc.waits (n := 38) (i := 32) (by kernel_rfl) (hc.waits (n := 32) (i := 31) (by kernel_rfl) (hc.waits (n := 31) (i := 30) (by kernel_rfl) (hc.waits (n := 30) (i := 29) (by kernel_rfl) h))))) (by kernel_rfl) (fun _ _ _ h => h) hA (.inl ⟨rfl, fun w5 q1 => ?_⟩) ?_
      · go_simp
      simp only [Act.put, List.setIfInBounds_toArray, List.set]
      refine wpG_takeT (i := 30) (v := .pointer (some ⟨g, k * 5, none⟩)) rfl (fun L hc h => (hc.waits (n := 38) (i := 32) (by kernel_rfl) (hc.waits (n := 32) (i := 31) (by kernel_rfl) (hc.waits (n := 31) (i := 30) (by kernel_rfl) h)))) (by kernel_rfl) (fun _ _ _ h => h) hA (.inl ⟨rfl, fun w5 q1 => ?_⟩) ?_
      · go_simp
      simp only [Act.put, List.setIfInBounds_toArray, List.set]
      refine wpG_takeT (i := 31) (v := .pointer (some ⟨g, k * 5 + 4, none⟩)) rfl (fun L hc h => (hc.waits (n := 38) (i := 32) (by kernel_rfl) (hc.waits (n := 32) (i := 31) (by kernel_rfl) h))) (by kernel_rfl) (fun _ _ _ h => h) hA (.inl ⟨rfl, fun w5 q1 => ?_⟩) ?_
      · go_simp
      simp only [Act.put, List.setIfInBounds_toArray, List.set]
      refine wpG_takeT (i := 32) (v := .slice na x.new.length nc) rfl (fun L hc h => (hc.waits (n := 38) (i := 32) (by kernel_rfl) h)) (by kernel_rfl) (fun _ _ _ h => h) hA (.inl ⟨rfl, fun w5 q1 => ?_⟩) ?_
      · obtain ⟨c0, c1, c2⟩ := q1
        go_simp
      simp only [Act.put, List.setIfInBounds_toArray, List.set]
      refine wpG_takeP (i := 33) (v := .int .i64 x.new.length) rfl (by kernel_rfl) (fun _ _ _ h => h) hA (.inl ⟨rfl, fun w5 q1 => ?_⟩) ?_
      · go_simp
      simp only [Act.put, List.setIfInBounds_toArray, List.set]
      refine wpG_takeP (i := 34) (v := .int .i64 m2) rfl (by kernel_rfl) (fun _ _ _ h => h) hA (.inl ⟨rfl, fun w5 q1 => ?_⟩) ?_
      · go_simp
      simp only [Act.put, List.setIfInBounds_toArray, List.set]
      refine wpG_takeP (i := 35) (v := .slice va m2 vc) rfl (by kernel_rfl) (fun _ _ _ h => h) hA (.inl ⟨rfl, fun w5 q1 => ?_⟩) ?_
      · go_simp
      simp only [Act.put, List.setIfInBounds_toArray, List.set]
      refine wpG_takeT (i := 36) (v := .pointer (some ⟨g, k * 5, none⟩)) rfl (fun L hc h => (hc.waits (n := 38) (i := 37) (by kernel_rfl) (hc.waits (n := 37) (i := 36) (by kernel_rfl) h))) (by kernel_rfl) (fun _ _ _ h => h) hA (.inl ⟨rfl, fun w5 q1 => ?_⟩) ?_
      · go_simp
      simp only [Act.put, List.setIfInBounds_toArray, List.set]
      refine wpG_takeT (i := 37) (v := .pointer (some ⟨g, k * 5, none⟩)) rfl (fun L hc h => (hc.waits (n := 38) (i := 37) (by kernel_rfl) h)) (by kernel_rfl) (fun _ _ _ h => h) hA (.inl ⟨rfl, fun w5 q1 => ?_⟩) ?_
      · go_simp
      simp only [Act.put, List.setIfInBounds_toArray, List.set]
      refine wpG_tail_lit (k := 38) rfl rfl (by kernel_rfl) ?_
      simp only [List.drop]
      have f0 := HFR.out (k * 5); have f3 := HFR.out (k * 5 + 3); have f4 := HFR.out (k * 5 + 4)
      obtain ⟨c0, c3, c4⟩ := hA
      go_upto_region 9 with fail
      obtain ⟨x', hx'⟩ : ∃ x', x' = clipV x := ⟨_, rfl⟩
      have hnm : x'.name = x.name.extract 0 m0 := by rw [hx', HM0'.out]; rfl
      have hold : x'.old = x.old.take m1 := by
        rw [hx', HM1'.out]
        simp only [clipV]
        rw [Nat.min_comm]
        rcases Nat.le_total 3001 x.old.length with h | h
        · rw [Nat.min_eq_left h]
        · rw [Nat.min_eq_right h, List.take_of_length_le h, List.take_of_length_le (Nat.le_refl _)]
      have hnew : x'.new = x.new.take m2 := by
        rw [hx', HM2'.out]
        simp only [clipV]
        rw [Nat.min_comm]
        rcases Nat.le_total 3001 x.new.length with h | h
        · rw [Nat.min_eq_left h]
        · rw [Nat.min_eq_right h, List.take_of_length_le h, List.take_of_length_le (Nat.le_refl _)]
      have hxf : x'.fine := by
        obtain ⟨p1, p2, p3, p4, p5⟩ := HFX.out
        refine ⟨?_, by rw [hold, List.length_take]; omega, by rw [hnew, List.length_take]; omega, by rw [hold]; exact fun z hz => p4 z (List.mem_of_mem_take hz), by rw [hnew]; exact fun z hz => p5 z (List.mem_of_mem_take hz)⟩
        rw [hnm, ByteArray.size_extract]
        omega
      have hp := SetRow.put (x' := x') (v := .slice ua m1 uc) (u := .slice va m2 vc) HROWL.out HRCD.out HX.out (by rw [hx']; rfl) (by rw [hx']; rfl) (by rw [hold]; exact HU1.out) (by rw [hnew]; exact HU2.out) hxf
      rw [hnm, hx'] at hp
      obtain ⟨w9, hw9⟩ : ∃ w9, w9 = ((wd.setCell ⟨g, k * 5, none⟩ (.string (x.name.extract 0 m0))).setCell ⟨g, k * 5 + 3, none⟩ (.slice ua m1 uc)).setCell ⟨g, k * 5 + 4, none⟩ (.slice va m2 vc) := ⟨_, rfl⟩
      rw [← hw9] at hp ⊢
      obtain ⟨hp1, hp2⟩ := hp
      have hgb : base ≤ g := by
        obtain ⟨_, _, q, _⟩ := HROWL.out
        exact (q.lt g rfl).1
      have hlen2 : (lk.set k (clipV x)).length = lk.length := List.length_set
      have hgw : w.heap.size + 3 < g := by have := HBS.out; omega
      have hup := HUD.out
      have hd9 : BrAt w base B.epoch B.large opc #[.int .u64 e0, .slice pa pn pc] C (some ⟨g, 0, none⟩) lc (lk.set k (clipV x)) w9 := by
        have kk : ∀ (b : Nat) o, b ≠ g → wr.heap[b]? = some o → w9.heap[b]? = some o := fun b o hb h => by
          have h1 := (hup.block _ (lt_of_heap h) (fun e => e)).trans h
          exact (hp2.block _ (lt_of_heap h1) hb).trans h1
        refine ⟨by rw [hlen2]; exact kk _ _ (by omega) HD.out.out, kk _ _ (by omega) HD.out.res, kk _ _ (by omega) HD.out.op, by rw [hlen2]; exact hp1, HRCD.out.kept hp2 (fun j hj e => HROWL.out.apart HRCD.out j hj (by rw [e]; rfl)), (HD.out.upd.trans hup).step hp2 (fun j hj e => by omega), kk _ _ (by omega) HD.out.reg, HD.out.low⟩
      have HD9 := Lib.hid hd9
      have c5 : w9.cell? ⟨w.heap.size, 5, none⟩ = some (.slice ra rn rc) := by
        have := hd9.op
        rw [HOPC.out] at this
        rw [cell_of_heap this]
        rfl
      have y2 := (cells3_of hd9.out).2.2
      rw [hlen2, hlen] at y2
      have hk0 : ¬ ((k : Int) < 0) := by omega
      have hcv2 : IntKind.i64.wrap ((k : Int) + 1) = (k : Int) + 1 := by rw [IntKind.wrap_i64]; omega
      have HLK := Lib.hid hlen
      clear hw9 hp1 hp2 hgb hlen2 hgw hup hd9 hold hnew hxf hnm hx' c0 c3 c4 f0 f3 f4 HD HRCD HROWL hlen
      have fin : RowKit.Hid (rightV l R k x = clipV x → BrAt w base B.epoch B.large opc #[.int .u64 e0, .slice pa pn pc] C (some ⟨g, 0, none⟩) lc (M.take (k + 1) ++ l0.drop (k + 1)) w9) := Lib.hid (fun e => by
        rw [← HSET.out, e]
        exact HD9.out)
      by_cases hkr : k < rn
      · obtain ⟨b, hb⟩ : ∃ b, R[k]? = some b := ⟨_, List.getElem?_eq_getElem (by have := HRN.out; omega)⟩
        obtain ⟨kb, ko, rfl, hkb, hcb⟩ := HRB.out k b hb
        have cb := cell_keptF HD9.out.upd (show ¬ (fun _ => False) kb from fun e => e) hcb
        have hkri : (k : Int) < rn := by omega
        have HBK := Lib.hid hb
        clear hcb hb hkb
        cases b with
        | false =>
          have hno : rightV l R k x = clipV x := if_neg (by rw [HBK.out]; simp)
          have HNO := Lib.hid (fin.out hno)
          clear hno
          go_wp2
          go_roundg (n4 - (k + 1))
          case measure => omega
          case rel => exact ⟨k + 1, _, C, by omega, rfl, congrArg _ (by omega), HNO.out⟩
        | true =>
          go_upto_region 10 with fail
          have hrv : rightV l R k x = ⟨(clipV x).name, (l.get (clipV x).name).isSome, x.is, (l.get (clipV x).name).getD [], (clipV x).new⟩ := if_pos HBK.out
          have hkl2 : k < (lk.set k (clipV x)).length := by rw [List.length_set]; have := HLK.out; omega
          have hgetlk : (lk.set k (clipV x))[k]? = some (clipV x) := by rw [List.getElem?_set_self (by rw [List.length_set] at hkl2; exact hkl2)]
          obtain ⟨_, _, _, gb, gq, eg, _, oa, oc, na, nc, q0, _⟩ := HD9.out.row.setsAt k (clipV x) hgetlk
          injection eg with eg
          injection eg with eg1 eg2
          subst eg1 eg2
          rw [Nat.zero_add] at q0
          have q9 : w9.cell? ⟨w.heap.size + 1, 1, none⟩ = some (.slice pa pn pc) := by rw [cell_of_heap HD9.out.reg]; rfl
          have HRV := Lib.hid hrv; have HGL := Lib.hid hgetlk
          have hud2 : Upd (fun _ => False) w9 w9.drew := (Upd.refl _ w9).drew
          have HUD2 := Lib.hid hud2
          have HDD : RowKit.Hid (BrAt w base B.epoch B.large opc #[.int .u64 e0, .slice pa pn pc] C (some ⟨g, 0, none⟩) lc (lk.set k (clipV x)) w9.drew) := Lib.hid (HD9.out.kept0 hud2)
          have HVD : RowKit.Hid (Calls Tryz.prog 32 #[.slice pa pn pc, .string (clipV x).name] w9.drew _) := Lib.hid (by rw [HPN.out]; exact get_val (s := (clipV x).name) w9.drew (HV.out.kept0 (HD9.out.upd.trans hud2)) (by have := HF.out.len; omega))
          have HFR2 : RowKit.Hid (∀ j, w9.drew.frozen? ⟨g, j, none⟩ = false) := Lib.hid (fun j => by
            obtain ⟨_, _, q, _⟩ := HDD.out.row
            exact World.ownsRow.frozenAt q j)
          have hA : w9.drew.cell? ⟨w.heap.size + 1, 1, none⟩ = some (.slice pa pn pc) ∧ w9.drew.cell? ⟨g, k * 5, none⟩ = some (.string (clipV x).name) := ⟨by simpa using q9, by simpa using q0⟩
          obtain ⟨nm, hnm⟩ : ∃ nm, nm = (clipV x).name := ⟨_, rfl⟩
          clear hrv hgetlk q0 q9 hud2 hkl2 fin
          refine wp_region_G 10 (fun W => W.cell? ⟨w.heap.size + 1, 1, none⟩ = some (.slice pa pn pc) ∧ W.cell? ⟨g, k * 5, none⟩ = some (.string (clipV x).name)) [false, false, false, false, false, false, false, false, false, false, false, false] rfl (by kernel_rfl) ?_
          generalize w9.drew = wd2 at hA HDD HUD2 HVD HFR2 ⊢
          refine wpG_takeT (i := 0) (v := .pointer (some ⟨w.heap.size + 1, 1, none⟩)) rfl (fun L hc h => (hc.waits (n := 10) (i := 0) (by kernel_rfl) h)) (by kernel_rfl) (fun _ _ _ h => h) hA (.inl ⟨rfl, fun w5 q1 => ?_⟩) ?_
          · go_simp
          simp only [Act.put, List.setIfInBounds_toArray, List.set]
          refine wpG_takeT (i := 1) (v := .slice pa pn pc) rfl (fun L hc h => (hc.waits (n := 10) (i := 1) (by kernel_rfl) h)) (by kernel_rfl) (fun _ _ _ h => h) hA (.inl ⟨rfl, fun w5 q1 => ?_⟩) ?_
          · obtain ⟨c0, c1⟩ := q1
            go_simp
          simp only [Act.put, List.setIfInBounds_toArray, List.set]
          refine wpG_takeT (i := 2) (v := .pointer (some ⟨g, k * 5, none⟩)) rfl (fun L hc h => (hc.waits (n := 10) (i := 2) (by kernel_rfl) h)) (by kernel_rfl) (fun _ _ _ h => h) hA (.inl ⟨rfl, fun w5 q1 => ?_⟩) ?_
          · go_simp
          simp only [Act.put, List.setIfInBounds_toArray, List.set]
          refine wpG_takeT (i := 3) (v := .pointer (some ⟨g, k * 5, none⟩)) rfl (fun L hc h => (hc.waits (n := 10) (i := 3) (by kernel_rfl) h)) (by kernel_rfl) (fun _ _ _ h => h) hA (.inl ⟨rfl, fun w5 q1 => ?_⟩) ?_
          · go_simp
          simp only [Act.put, List.setIfInBounds_toArray, List.set]
          refine wpG_takeT (i := 4) (v := .pointer (some ⟨g, k * 5, none⟩)) rfl (fun L hc h => (hc.waits (n := 10) (i := 4) (by kernel_rfl) h)) (by kernel_rfl) (fun _ _ _ h => h) hA (.inl ⟨rfl, fun w5 q1 => ?_⟩) ?_
          · go_simp
          simp only [Act.put, List.setIfInBounds_toArray, List.set]
          refine wpG_takeT (i := 5) (v := .string (clipV x).name) rfl (fun L hc h => (hc.waits (n := 10) (i := 5) (by kernel_rfl) h)) (by kernel_rfl) (fun _ _ _ h => h) hA (.inl ⟨rfl, fun w5 q1 => ?_⟩) ?_
          · obtain ⟨c0, c1⟩ := q1
            go_simp
          simp only [Act.put, List.setIfInBounds_toArray, List.set]
          refine wpG_doIf (i := 6) rfl (by kernel_rfl) rfl (fun K hK => ?_)
          have HKK := Lib.hid hK
          clear hK
          go_step
          refine (HVD.out).mono ?_
          rintro e w10 ⟨v, rfl, g1, g2⟩
          obtain ⟨ua, um, uc, rfl⟩ := g1.slice'

          have hA2 : w10.cell? ⟨w.heap.size + 1, 1, none⟩ = some (.slice pa pn pc) ∧ w10.cell? ⟨g, k * 5, none⟩ = some (.string (clipV x).name) := ⟨cell_keptF g2 (fun e => e) hA.1, cell_keptF g2 (fun e => e) hA.2⟩
          have HG1 := Lib.hid g1; have HG2 := Lib.hid g2
          clear g1 g2
          simp only []
          refine HKK.out _ _ hA2 ?_
          clear HKK
          simp only [Act.put, List.setIfInBounds_toArray, List.set]
          refine wpG_takeT (i := 7) (v := .tuple #[.slice ua um uc, .bool (l.get (clipV x).name).isSome]) rfl (fun L hc h => (hc.waits (n := 10) (i := 7) (by kernel_rfl) h)) (by kernel_rfl) (fun _ _ _ h => h) hA2 (.inl ⟨rfl, fun w5 q1 => ?_⟩) ?_
          · go_simp
          simp only [Act.put, List.setIfInBounds_toArray, List.set]
          refine wpG_takeT (i := 8) (v := .slice ua um uc) rfl (fun L hc h => (hc.waits (n := 10) (i := 8) (by kernel_rfl) h)) (by kernel_rfl) (fun _ _ _ h => h) hA2 (.inl ⟨rfl, fun w5 q1 => ?_⟩) ?_
          · go_simp
          simp only [Act.put, List.setIfInBounds_toArray, List.set]
          refine wpG_takeP (i := 9) (v := .bool (l.get (clipV x).name).isSome) rfl (by kernel_rfl) (fun _ _ _ h => h) hA2 (.inl ⟨rfl, fun w5 q1 => ?_⟩) ?_
          · go_simp
          simp only [Act.put, List.setIfInBounds_toArray, List.set]
          refine wpG_tail_lit (k := 10) rfl rfl (by kernel_rfl) ?_
          simp only [List.drop]
          go_upto_region 11 with fail
          obtain ⟨od, hod⟩ : ∃ od, od = (l.get (clipV x).name).getD [] := ⟨_, rfl⟩
          obtain ⟨bo, hbo⟩ : ∃ bo, bo = (l.get (clipV x).name).isSome := ⟨_, rfl⟩
          have hodf : od.length ≤ 3000 ∧ Bytes od := by
            rw [hod]
            cases e : l.get (clipV x).name with
            | none => exact ⟨by simp, fun y hy => by simp at hy⟩
            | some v =>
              have := HF.out.each _ ((KV.get_some HF.out.rising).1 e)
              exact ⟨this.2.2.1, this.2.2.2⟩
          rw [← hod] at HG1 HRV
          rw [← hbo] at HRV ⊢
          have HODF := Lib.hid hodf
          clear hod hbo hodf hA hA2 hnm
          iterate 16 go_step
          refine wpList_appB (bs := []) (cs := od) rfl (.tmp 99) (.tmp 100) rfl rfl (own_nil w10 (Nat.le_refl _)) rfl (HG1.out.kept ((Upd.refl (fun _ => False) w10).alloc _) (fun _ _ e => e)).bytesIn (by have := HODF.out; simp; omega) (by simp) ?_
          intro v4 w11 k1 k2
          rw [List.nil_append] at k1
          have hu4 : Upd (fun _ => False) w10 w11 := ((Upd.refl (fun _ => False) w10).alloc _).step k2 (fun j hj e => by
            have e' := Option.some.inj e
            simp only at e'
            omega)
          obtain ⟨p1, p2, p3⟩ := k1.bytesAt
          obtain ⟨oa2, oc2, rfl, _⟩ := p1.slice
          have HP1 := Lib.hid p1; have HP2 := Lib.hid p2; have HP3 := Lib.hid p3
          have hd11 := HDD.out.kept0 (HG2.out.trans hu4)
          obtain ⟨_, _, _, gb, gq, eg, _, oa3, oc3, na3, nc3, q0, q1, q2, q3, q4, _⟩ := hd11.row.setsAt k (clipV x) HGL.out
          injection eg with eg
          injection eg with eg1 eg2
          subst eg1 eg2
          rw [Nat.zero_add] at q1 q3
          obtain ⟨_, _, qo, _⟩ := hd11.row
          have f1 := World.ownsRow.frozenAt qo (k * 5 + 1)
          have f3 := World.ownsRow.frozenAt qo (k * 5 + 3)
          have hgb := (qo.lt g rfl).1
          have hz10 : base ≤ w10.heap.size := by
            obtain ⟨_, _, qo9, _⟩ := HDD.out.row
            have h1 := qo9.lt g rfl
            have h2 := HG2.out.size
            omega
          have hfin : BrAt w base B.epoch B.large opc #[.int .u64 e0, .slice pa pn pc] (fun j => C j ∨ (Value.slice oa2 od.length oc2).ownBlock = some j) (some ⟨g, 0, none⟩) lc (M.take (k + 1) ++ l0.drop (k + 1)) ((w11.setCell ⟨g, k * 5 + 1, none⟩ (.bool bo)).setCell ⟨g, k * 5 + 3, none⟩ (.slice oa2 od.length oc2)) := by
            have hrc : RowC w11 (fun j => C j ∨ (Value.slice oa2 od.length oc2).ownBlock = some j) := fun j hj => by
              rcases hj with hj | hj
              · exact hd11.rows j hj
              · exact HP2.out j hj
            have hxf : (clipV x).fine := by
              obtain ⟨_, _, _, _, q⟩ := hd11.row
              exact q _ (List.mem_of_getElem? HGL.out)
            have hfx : (⟨(clipV x).name, bo, x.is, od, (clipV x).new⟩ : SetV).fine := ⟨hxf.1, by have := HODF.out.1; show od.length ≤ _; omega, hxf.2.2.1, HODF.out.2, hxf.2.2.2.2⟩
            obtain ⟨r1, r2⟩ := SetRow.put2 (x' := ⟨(clipV x).name, bo, x.is, od, (clipV x).new⟩) (v := .slice oa2 od.length oc2) (hd11.row.more (C' := fun j => C j ∨ (Value.slice oa2 od.length oc2).ownBlock = some j) (fun _ e => .inl e)) hrc HGL.out rfl rfl rfl (HP1.out.mono (fun _ e => .inr e)) hfx
            rw [List.set_set] at r1
            rw [HRV.out] at HSET
            rw [HSET.out] at r1
            have hln : (lk.set k (clipV x)).length = (M.take (k + 1) ++ l0.drop (k + 1)).length := by rw [← HSET.out, List.length_set, List.length_set]
            have hBS := HBS.out
            have kk : ∀ (b : Nat) o, b ≠ g → w11.heap[b]? = some o → ((w11.setCell ⟨g, k * 5 + 1, none⟩ (.bool bo)).setCell ⟨g, k * 5 + 3, none⟩ (.slice oa2 od.length oc2)).heap[b]? = some o := fun b o hb h => (r2.block _ (lt_of_heap h) hb).trans h
            refine ⟨by rw [← hln]; exact kk _ _ (by omega) hd11.out, kk _ _ (by omega) hd11.res, kk _ _ (by omega) hd11.op, by rw [← hln]; exact r1, hrc.kept r2 (fun j hj e => (hd11.row.more (C' := fun j => C j ∨ (Value.slice oa2 od.length oc2).ownBlock = some j) (fun _ e => .inl e)).apart hrc j hj (by rw [e]; rfl)), hd11.upd.step r2 (fun j hj e => by omega), kk _ _ (by omega) hd11.reg, fun j hj => ?_⟩
            rcases hj with hj | hj
            · exact hd11.low j hj
            · have := HP3.out j hj
              omega
          have HFIN := Lib.hid hfin
          clear hfin k1 k2 p1 p2 p3 hd11 hu4 qo hgb hz10 HDD HG1 HG2 q0 q2 q4
          go_wp2
          go_roundg (n4 - (k + 1))
          case measure => omega
          case rel => exact ⟨k + 1, _, _, by omega, rfl, congrArg _ (by omega), HFIN.out⟩
      · have hkri : ¬ (k : Int) < rn := by omega
        have hno : rightV l R k x = clipV x := if_neg (by rw [List.getElem?_eq_none (by have := HRN.out; omega)]; simp)
        have HNO := Lib.hid (fin.out hno)
        clear hno
        go_wp2
        go_roundg (n4 - (k + 1))
        case measure => omega
        case rel => exact ⟨k + 1, _, C, by omega, rfl, congrArg _ (by omega), HNO.out⟩
    · obtain rfl : k = n4 := by omega
      have hd := HD.out
      have e1 : M.take k ++ l0.drop k = M := by rw [HN4.out, List.drop_length, List.append_nil, ← hMl, List.take_length]
      rw [e1] at hd
      have hll : M.length = k := by rw [hMl, ← HN4.out]
      obtain ⟨h1, h2, h3, h4, h5, h6, h7, h8⟩ := hd
      have HC5 := Lib.hid h8
      rw [hll] at h1 h4
      obtain ⟨y0, y1, y2⟩ := cells3_of h1
      have HRES := Lib.hid h2; have HU := Lib.hid h6; have HROW := Lib.hid h4; have HRC := Lib.hid h5; have HLL := Lib.hid hll
      clear h1 h2 h3 h4 h5 h6 h7 h8 HD e1 hMl hll hlen
      go_upto_region 13 with fail
      iterate 4 go_step
      refine wpList_store_mid rfl 56 (.tmp 4) (.tmp 107) rfl (w.heap.size + 2) 0 #[.int .u64 B.epoch, .bool B.large, .slice la k lc] rfl rfl (by have q := there_block HRES.out; exact q) size56 (by simp [Value.oneCell']) ?_
      have hb2 := heap_setCells_whole (vs := [.int .u64 B.epoch, .bool B.large, .slice la k lc]) HRES.out rfl
      have hu2 := Upd.setCells (F := fun k => k = w.heap.size + 2) (b := w.heap.size + 2) rfl [.int .u64 B.epoch, .bool B.large, .slice la k lc] 0 (Upd.refl _ wr)
      have hl3 := run_loadVar_mid (P := Tryz.prog) (wr.setCells (w.heap.size + 2) 0 [.int .u64 B.epoch, .bool B.large, .slice la k lc]) (w.heap.size + 2) 0 56 [.int .u64 B.epoch, .bool B.large, .slice la k lc] _ (rangeAt_block hb2) Tryz.underlying56 rfl size56
      have HL3 := Lib.hid hl3; have HU2 := Lib.hid hu2
      clear hb2 hu2 hl3
      go_wp2
      refine bodyPost_ret (results_cell1 Tryz.results19 rfl HL3.out) rfl ?_
      have hrow := HROW.out.kept HU2.out (fun j hj e => by
        obtain ⟨L, _, q, _⟩ := HROW.out
        have := (q.lt j hj).1
        have := HBS.out
        omega) (fun j hj e => by have := HC5.out j hj; have := HBS.out; omega)
      have hcr := HRC.out.kept HU2.out (fun j hj e => by have := HC5.out j hj; have := HBS.out; omega)
      have hcl : (batchR l R B).sets = M := by rw [HMM2.out, HL0.out]; rfl
      refine ⟨la, lc, ?_, ⟨C, ?_, hcr, fun j hj => by have := HC5.out j hj; have := HBS.out; omega⟩, ?_, HU.out.step HU2.out (fun j hj e => by omega)⟩
      · unfold batchV
        rw [hcl, HLL.out]
        rfl
      · rw [hcl, HLL.out]
        exact hrow.low (by have := HBS.out; omega)
      · rw [hcl, HLL.out]
        have := HCAP.out
        omega
end Go.Proofs.YtbimkhdiplnbfaaGreat
end

