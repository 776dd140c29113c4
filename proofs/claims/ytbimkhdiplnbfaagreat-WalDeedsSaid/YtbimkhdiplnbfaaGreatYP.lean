/- WalDeeds holds: a log does what its document says, whatever is done to both; no condition. -/
import Derived.Test.YtbimkhdiplnbfaaGreatY35
import Derived.Test.YtbimkhdiplnbfaaGreatY36
import Derived.Deep.Matrix
import Derived.Deep.Grids
set_option linter.unusedVariables false
set_option linter.unusedSimpArgs false
namespace Go.Proofs.YtbimkhdiplnbfaaGreat
set_option maxRecDepth 1000000
set_option maxHeartbeats 16000000
section
open Go.ChangeShapes Go.WideShapes Go.ChangeAt Go.RowKit Go.Joins Go.Deep
instance : Inhabited DeedR := ⟨⟨0, 0, none, 0, 0, none, 0, 0⟩⟩
theorem cells42 : Tryz.prog.cellsOf 42 = 4 := by kernel_rfl
theorem open_cellsD {H : Type} {enc : TypeId × Value → H} {w : World} {base : Nat} {held : Bool} {n : Nat} {cs : List Value} {y : DataW H × List MemPlace} (h : DataW.trod enc Tryz.prog w base (fun _ => true) held n 42 cs = some y) :
  ∃ x : DeedR × List Int × (Nat → Bool), cs = cellsD x.1 ∧ DeedIn w x.1 x.2.1 x.2.2 := by
 obtain ⟨xs, m, _, hx, hll, hlen, hff⟩ := DataW.trod_struct Tryz.underlying42 h
 have hl : cs.length = 4 := by rw [hll, cells42]
 match cs, hl with
 | [c0, c1, c2, c3], _ =>
  match xs, hlen with
  | [y0, y1, y2, y3], _ =>
   have k3 : Tryz.prog.cellsOf 3 = 1 := by kernel_rfl
   have k39 : Tryz.prog.cellsOf 39 = 1 := by kernel_rfl
   have k40 : Tryz.prog.cellsOf 40 = 1 := by kernel_rfl
   have h0 : DataW.trod enc Tryz.prog w base (fun _ => true) held m 3 [c0] = some y0 := by simpa [k3] using hff 0 _ rfl
   have h1 : DataW.trod enc Tryz.prog w base (fun _ => true) held m 3 [c1] = some y1 := by simpa [k3] using hff 1 _ rfl
   have h2 : DataW.trod enc Tryz.prog w base (fun _ => true) held m 39 [c2] = some y2 := by simpa [k3, k39] using hff 2 _ rfl
   have h3 : DataW.trod enc Tryz.prog w base (fun _ => true) held m 40 [c3] = some y3 := by simpa [k3, k39, k40] using hff 3 _ rfl
   obtain ⟨k, e0, rfl, w0⟩ := DataW.trod_int Tryz.underlying3 h0
   obtain ⟨i, e1, rfl, w1⟩ := DataW.trod_int Tryz.underlying3 h1
   simp at e0 e1
   subst e0 e1
   obtain ⟨ba, bn, bc, bs, rfl, b1, b2, b3, b4⟩ : ∃ ba bn bc bs, c2 = .slice ba bn bc ∧ bn ≤ 9223372036854775807 ∧ BytesIn w (.slice ba bn bc) bs ∧ Bytes bs ∧ bs.length = bn := by
    rcases open_ints Tryz.underlying39 Tryz.underlying5 (by kernel_rfl) h2 with ⟨hcs, _⟩ | ⟨a', len, cap, zs, hcs, _, hl, hm, hz, _, hcell, hwf⟩
    ·simp at hcs
     subst hcs
     exact ⟨none, 0, 0, [], rfl, by omega, .inl ⟨rfl, rfl⟩, fun x hx => by simp at hx, rfl⟩
    ·simp at hcs
     subst hcs
     simp only [if_true] at hz
     have hlen : (zs.take len).length = len := by simp; omega
     refine ⟨some a', len, cap, zs.take len, rfl, by unfold maxLen at hm; omega, .inr ⟨a', cap, by rw [hlen], by rw [hlen]; exact hl, hm, fun j u hj => ?_⟩, fun x hx => wf_u8 (hwf x (List.mem_of_mem_take hx)), hlen⟩
     have hjl : j < len := by
      have := (List.getElem?_eq_some_iff.1 hj).1
      simp [bcells] at this
      omega
     rw [hcell j (by omega)]
     simp only [bcells, List.getElem?_map, List.getElem?_take_of_lt hjl] at hj
     have hz2 : j < zs.length := by omega
     rw [List.getElem?_eq_getElem hz2] at hj
     simp only [Option.map_some, Option.some.injEq] at hj
     rw [List.getD_eq_getElem?_getD, List.getElem?_eq_getElem hz2]
     simp [hj]
   obtain ⟨ka, kn, kc, B, rfl, g1, g2, g3⟩ : ∃ ka kn kc B, c3 = .slice ka kn kc ∧ kn ≤ 9223372036854775807 ∧ KeepIn w ka kn kc B ∧ ∀ a, ka = some a → 0 < kc → a.spot = none ∧ a.block < w.heap.size := by
    rcases open_bools Tryz.underlying40 Tryz.underlying4 (by kernel_rfl) h3 with ⟨hcs, _⟩ | ⟨a', len, cap, B, hcs, _, hl, hm, _, hcell⟩
    ·simp at hcs
     subst hcs
     exact ⟨none, 0, 0, fun _ => false, rfl, by omega, .inl ⟨rfl, rfl, rfl⟩, fun a e => by cases e⟩
    ·simp at hcs
     subst hcs
     refine ⟨some a', len, cap, B, rfl, by unfold maxLen at hm; omega, .inr ⟨a', rfl, hl, hm, hcell⟩, fun a e hc => ?_⟩
     injection e with e
     subst e
     have h0 := hcell 0 hc
     obtain ⟨b, o, sp⟩ := a'
     have hsp : sp = none := by simpa [Addr.add] using World.cell?_spot h0
     refine ⟨hsp, ?_⟩
     subst hsp
     have e : (⟨b, o, none⟩ : Addr).add 0 = ⟨b, o + 0, none⟩ := by unfold Addr.add; split <;> first | rfl | simp_all
     rw [e] at h0
     rcases Nat.lt_or_ge b w.heap.size with h' | h'
     ·exact h'
     ·simp [World.cell?, Array.getElem?_eq_none h'] at h0
   exact ⟨(⟨k, i, ba, bn, bc, ka, kn, kc⟩, bs, B), rfl, ⟨b2, b4, b3, g2, g3, b1, g1, wf_i64 w1⟩⟩
theorem open_deeds {H : Type} {enc : TypeId × Value → H} {w : World} {base : Nat} {held : Bool} {r : Reach} {b0 : Nat} {v : Value} {d : DataW H} {p : List MemPlace} (hv : Value.okWide Tryz.prog w r b0 22 v) (h : DataW.Trod enc Tryz.prog w base (fun _ => true) held 22 v d p) :
  ∃ (sa : Option Addr) (sn sc : Nat) (x : Nat → DeedR) (bs : Nat → List Int) (B : Nat → Nat → Bool), v = .slice sa sn sc ∧ sn ≤ 9223372036854775807 ∧ DRows w sa sn x bs B := by
 obtain ⟨a, len, cap, rfl⟩ := okWide_slice Tryz.underlying22 hv
 obtain ⟨fuel, hf⟩ := h
 rcases open_slice Tryz.underlying22 hf with ⟨hcs, _⟩ | ⟨a', len', cap', m, n, D, Pl, hcs, hb, hl, hm, hmm, _, hel⟩
 ·simp [Value.cells] at hcs
  obtain ⟨rfl, rfl, rfl⟩ := hcs
  exact ⟨none, 0, 0, fun _ => default, fun _ => [], fun _ _ => false, rfl, by omega, fun i hi => by omega⟩
 ·simp [Value.cells] at hcs
  obtain ⟨rfl, rfl, rfl⟩ := hcs
  simp only [if_true] at hmm
  subst hmm
  rw [cells42] at hel
  obtain ⟨f, hf⟩ := choose_lt (α := DeedR × List Int × (Nat → Bool)) (p := fun i x => w.cells? base (a'.add (i * 4)) 4 = some (cellsD x.1) ∧ DeedIn w x.1 x.2.1 x.2.2) (fun i hi => by
   obtain ⟨cs', h1, h2⟩ := hel i hi
   obtain ⟨x, rfl, h3⟩ := open_cellsD h2
   exact ⟨x, h1, h3⟩)
  refine ⟨some a', len, m, fun i => (f i).1, fun i => (f i).2.1, fun i => (f i).2.2, rfl, by unfold maxLen at hm; omega, fun i hi => ?_⟩
  have hcell : ∀ q, q < len → ∀ t, t < 4 → w.cell? (a'.add (q * 4 + t)) = (cellsD (f q).1)[t]? := fun q hq t ht => by
   obtain ⟨_, _, h3⟩ := World.cells?_some (hf q (by omega)).1
   rw [← Addr.add_add, h3 t ht]
  have h0 := hcell 0 (by omega) 0 (by omega)
  obtain ⟨b, o, sp⟩ := a'
  have hsp : sp = none := by
   have h0' : w.cell? ((⟨b, o, sp⟩ : Addr).add (0 * 4 + 0)) = some (.int .i64 (f 0).1.k) := h0
   simpa [Addr.add] using World.cell?_spot h0'
  subst hsp
  have e : ∀ k, (⟨b, o, none⟩ : Addr).add k = ⟨b, o + k, none⟩ := fun k => by unfold Addr.add; split <;> first | rfl | simp_all
  have hc : ∀ t, t < 4 → w.cell? ⟨b, o + (i * 4 + t), none⟩ = (cellsD (f i).1)[t]? := fun t ht => by rw [← e]; exact hcell i hi t ht
  refine ⟨⟨b, o, rfl, ?_, hc 0 (by omega), ?_, ?_, ?_⟩, (hf i (by omega)).2⟩
  ·have h1 := hc 0 (by omega)
   rcases Nat.lt_or_ge b w.heap.size with h' | h'
   ·exact h'
   ·simp [World.cell?, Array.getElem?_eq_none h', cellsD] at h1
  ·rw [Nat.add_assoc]; exact hc 1 (by omega)
  ·rw [Nat.add_assoc]; exact hc 2 (by omega)
  ·rw [Nat.add_assoc]; exact hc 3 (by omega)
theorem walDeeds_lifted (os : Os) (started : os.Started) (H : Type) (enc : TypeId × Value → H) :
  ReturnsInHanded {} Tryz.checked os 3 .any (Rows.walDeedsSpec.pre6 enc Tryz.prog Tryz.f3 Rows.walDeedsRow.domain false) (Rows.walDeedsSpec.post enc Tryz.prog Tryz.f3 false true false false) := by
 refine returnsInHanded_of_change (C := Tryz.checked) Tryz.own started (by kernel_rfl) Tryz.func3
  (ChangeSpec.witness6 (enc := enc) (C := Tryz.checked) false ⟨#[], #[.int .i64 0, .slice none 0 0], []⟩ 8 (by kernel_rfl) (by kernel_rfl) (by kernel_rfl) (by kernel_rfl)) ?_
 intro W base args ds gs before hval0 hW _ _
 have hval : ∀ (j : Nat) t v, Tryz.f3.params[j]? = some t → args[j]? = some v → Value.okWide Tryz.prog W .any base t v := hval0
 have hW' : DataW.Whole enc Tryz.prog Tryz.f3.params.toList Rows.walDeedsSpec.vars false W args.toList ds gs before := hW
 obtain ⟨p, q, hA0, hV, rfl, hfz, hnd⟩ := hW
 have hA : DataW.TrodAll enc Tryz.prog W 0 (fun _ => true) true Tryz.f3.params.toList args.toList ds p := hA0
 rw [Tryz.params3] at hA hval
 obtain ⟨v0, v1, d0, d1, p0, p1, rfl, rfl, rfl, h0, h1⟩ := trodAll_two hA
 obtain ⟨rfl, rfl⟩ := trodVars_none hV
 clear hA0 hval0
 obtain ⟨n, rfl, rfl, rfl, wn⟩ := open_int Tryz.underlying3 (hval 0 3 v0 rfl rfl) h0
 obtain ⟨sa, sn, sc, x, bs, B, rfl, hsn, hr⟩ := open_deeds (hval 1 22 v1 rfl rfl) h1
 refine (deeds_run n sa sn sc x bs B W hsn hr).mono fun en W' ⟨he, hb⟩ => ?_
 subst he
 exact ⟨_, rfl, law_post Tryz.laidOut rfl Tryz.underlying4 (by decide +kernel) rfl hW' rfl rfl rfl hb.below⟩
theorem walDeeds_holds : Rows.WalDeedsSaid :=
 OpenClaim.holds_of_wide 3 Tryz.f3 rfl rfl rfl rfl rfl rfl rfl ⟨rfl, rfl, rfl, rfl, rfl⟩ rfl rfl rfl rfl rfl (by kernel_rfl) Tryz.func3 (by kernel_rfl)
  (of_decide_eq_true (by kernel_rfl)) (by unfold Func.isWrapper; rw [if_neg (of_decide_eq_false (by kernel_rfl))]; exact ⟨rfl, rfl⟩)
  (fun os started H enc _ => walDeeds_lifted os started H enc)
#print axioms walDeeds_holds
end
end Go.Proofs.YtbimkhdiplnbfaaGreat
