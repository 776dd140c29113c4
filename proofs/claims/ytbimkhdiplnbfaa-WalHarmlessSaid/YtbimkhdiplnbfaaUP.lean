/- WalHarmless holds: a Checkpoint whose head is not laid any more leaves all as it was, and it goes on; no condition. -/
import Derived.Test.YtbimkhdiplnbfaaU28
import Derived.Test.YtbimkhdiplnbfaaU29
import Derived.Deep.Matrix
import Derived.Deep.Grids
namespace Go.Proofs.Ytbimkhdiplnbfaa
open Go.ChangeShapes Go.WideShapes Go.ChangeAt Go.RowKit Go.Joins Go.Deep

set_option maxRecDepth 100000 in
theorem open_brows' {H : Type} {enc : TypeId × Value → H} {w : World} {base : Nat} {held : Bool} {r : Reach} {b0 : Nat} {v : Value} {d : DataW H} {p : List MemPlace} (hv : Value.okWide Try.prog w r b0 22 v) (h : DataW.Trod enc Try.prog w base (fun _ => true) held 22 v d p) :
    ∃ (sa : Option Addr) (sn sc : Nat) (A : Nat → Option Addr) (L C : Nat → Nat) (Z : Nat → List Int), v = .slice sa sn sc ∧ sn ≤ 9223372036854775807 ∧ BRows w sa sn A L C Z := by
  obtain ⟨a, len, cap, rfl⟩ := okWide_slice Try.underlying22 hv
  obtain ⟨fuel, hf⟩ := h
  rcases open_int_rows Try.underlying22 Try.underlying28 Try.underlying5 (by kernel_rfl) (by kernel_rfl) hf with ⟨hcs, _⟩ | ⟨a', len', cap', A, L, C, Z, hcs, _, hl, hm, _, hr⟩
  · simp [Value.cells] at hcs
    obtain ⟨rfl, rfl, rfl⟩ := hcs
    exact ⟨none, 0, 0, fun _ => none, fun _ => 0, fun _ => 0, fun _ => [], rfl, by omega, fun i hi => by omega⟩
  · simp [Value.cells] at hcs
    obtain ⟨rfl, rfl, rfl⟩ := hcs
    refine ⟨some a', len, cap, A, L, C, fun i => (Z i).take (L i), rfl, by unfold maxLen at hm; omega, fun i hi => ?_⟩
    have h0 := (hr 0 (by omega)).1
    obtain ⟨h1, h2, h3, h4, h5, h6, h7⟩ := hr i (by omega)
    obtain ⟨b, o, sp⟩ := a'
    have hsp : sp = none := by simpa [Addr.add] using World.cell?_spot h0
    subst hsp
    have e : (⟨b, o, none⟩ : Addr).add i = ⟨b, o + i, none⟩ := by unfold Addr.add; split <;> first | rfl | simp_all
    rw [e] at h1
    refine ⟨b, o, rfl, ?_, h1, by simp; omega, fun x hx => wf_u8 (h5 x (List.mem_of_mem_take hx)), ?_⟩
    · rcases Nat.lt_or_ge b w.heap.size with h' | h'
      · exact h'
      · simp [World.cell?, Array.getElem?_eq_none h'] at h1
    · rcases hA : A i with _ | a
      · have h8 := h6 hA
        have h9 : L i = 0 := by omega
        exact .inl ⟨by rw [h8, h9], by show (Z i).take (L i) = []; rw [h9]; rfl⟩
      · have hlen : ((Z i).take (L i)).length = L i := by simp; omega
        refine .inr ⟨a, C i, by rw [hlen], by rw [hlen]; exact h2, h3, fun j u hj => ?_⟩
        have hjl : j < L i := by
          have := (List.getElem?_eq_some_iff.1 hj).1
          simp [bcells] at this
          omega
        have hc := (h7 a hA).2 j (by omega)
        rw [hc]
        simp only [bcells, List.getElem?_map, List.getElem?_take_of_lt hjl] at hj
        have hz : j < (Z i).length := by omega
        rw [List.getElem?_eq_getElem hz] at hj
        simp only [Option.map_some, Option.some.injEq] at hj
        rw [List.getD_eq_getElem?_getD, List.getElem?_eq_getElem hz]
        simp [hj]

set_option maxRecDepth 100000 in
theorem open_bytes {H : Type} {enc : TypeId × Value → H} {w : World} {base : Nat} {held : Bool} {r : Reach} {b0 : Nat} {v : Value} {d : DataW H} {p : List MemPlace} (hv : Value.okWide Try.prog w r b0 28 v) (h : DataW.Trod enc Try.prog w base (fun _ => true) held 28 v d p) :
    ∃ (pa : Option Addr) (pn pc : Nat) (P : List Int), v = .slice pa pn pc ∧ pn ≤ 9223372036854775807 ∧ BytesIn w (.slice pa pn pc) P ∧ Bytes P ∧ P.length = pn := by
  obtain ⟨a, len, cap, rfl⟩ := okWide_slice Try.underlying28 hv
  obtain ⟨fuel, hf⟩ := h
  rcases open_ints Try.underlying28 Try.underlying5 (by kernel_rfl) hf with ⟨hcs, _⟩ | ⟨a', len', cap', zs, hcs, _, hl, hm, hz, _, hcell, hwf⟩
  · simp [Value.cells] at hcs
    obtain ⟨rfl, rfl, rfl⟩ := hcs
    exact ⟨none, 0, 0, [], rfl, by omega, .inl ⟨rfl, rfl⟩, fun x hx => by simp at hx, rfl⟩
  · simp [Value.cells] at hcs
    obtain ⟨rfl, rfl, rfl⟩ := hcs
    simp only [if_true] at hz
    have hlen : (zs.take len).length = len := by simp; omega
    refine ⟨some a', len, cap, zs.take len, rfl, by unfold maxLen at hm; omega, .inr ⟨a', cap, by rw [hlen], by rw [hlen]; exact hl, hm, fun j u hj => ?_⟩, fun x hx => wf_u8 (hwf x (List.mem_of_mem_take hx)), hlen⟩
    have hjl : j < len := by
      have := (List.getElem?_eq_some_iff.1 hj).1
      simp [bcells] at this
      omega
    rw [hcell j (by omega)]
    simp only [bcells, List.getElem?_map, List.getElem?_take_of_lt hjl] at hj
    have hz2 : j < zs.length := by omega
    rw [List.getElem?_eq_getElem hz2] at hj
    simp only [Option.map_some, Option.some.injEq] at hj
    rw [List.getD_eq_getElem?_getD, List.getElem?_eq_getElem hz2]
    simp [hj]

set_option maxRecDepth 100000 in
theorem open_keeps {H : Type} {enc : TypeId × Value → H} {w : World} {base : Nat} {held : Bool} {r : Reach} {b0 : Nat} {v : Value} {d : DataW H} {p : List MemPlace} (hv : Value.okWide Try.prog w r b0 49 v) (h : DataW.Trod enc Try.prog w base (fun _ => true) held 49 v d p) :
    ∃ (ka : Option Addr) (kn kc : Nat) (B : Nat → Bool), v = .slice ka kn kc ∧ kn ≤ 9223372036854775807 ∧ KeepIn w ka kn kc B ∧ ∀ a, ka = some a → 0 < kc → a.spot = none ∧ a.block < w.heap.size := by
  obtain ⟨a, len, cap, rfl⟩ := okWide_slice Try.underlying49 hv
  obtain ⟨fuel, hf⟩ := h
  rcases open_bools Try.underlying49 Try.underlying4 (by kernel_rfl) hf with ⟨hcs, _⟩ | ⟨a', len', cap', B, hcs, _, hl, hm, _, hcell⟩
  · simp [Value.cells] at hcs
    obtain ⟨rfl, rfl, rfl⟩ := hcs
    exact ⟨none, 0, 0, fun _ => false, rfl, by omega, .inl ⟨rfl, rfl, rfl⟩, fun a e => by cases e⟩
  · simp [Value.cells] at hcs
    obtain ⟨rfl, rfl, rfl⟩ := hcs
    refine ⟨some a', len, cap, B, rfl, by unfold maxLen at hm; omega, .inr ⟨a', rfl, hl, hm, hcell⟩, fun a e hc => ?_⟩
    injection e with e
    subst e
    have h0 := hcell 0 hc
    obtain ⟨b, o, sp⟩ := a'
    have hsp : sp = none := by simpa [Addr.add] using World.cell?_spot h0
    refine ⟨hsp, ?_⟩
    subst hsp
    have e : (⟨b, o, none⟩ : Addr).add 0 = ⟨b, o + 0, none⟩ := by unfold Addr.add; split <;> first | rfl | simp_all
    rw [e] at h0
    rcases Nat.lt_or_ge b w.heap.size with h' | h'
    · exact h'
    · simp [World.cell?, Array.getElem?_eq_none h'] at h0

set_option maxRecDepth 100000 in
theorem walHarmless_lifted (os : Os) (started : os.Started) (H : Type) (enc : TypeId × Value → H) :
    ReturnsInHanded {} Try.checked os 12 .any (Rows.walHarmlessSpec.pre6 enc Try.prog Try.f12 Rows.walHarmlessRow.domain false) (Rows.walHarmlessSpec.post enc Try.prog Try.f12 false true false false) := by
  refine returnsInHanded_of_change (C := Try.checked) Try.own started (by kernel_rfl) Try.func12
    (ChangeSpec.witness6 (enc := enc) (C := Try.checked) false ⟨#[], #[.slice none 0 0, .slice none 0 0, .slice none 0 0], []⟩ 8 (by kernel_rfl) (by kernel_rfl) (by kernel_rfl) (by kernel_rfl)) ?_
  intro W base args ds gs before hval0 hW _ _
  have hval : ∀ (j : Nat) t v, Try.f12.params[j]? = some t → args[j]? = some v → Value.okWide Try.prog W .any base t v := hval0
  have hW' : DataW.Whole enc Try.prog Try.f12.params.toList Rows.walHarmlessSpec.vars false W args.toList ds gs before := hW
  obtain ⟨p, q, hA0, hV, rfl, hfz, hnd⟩ := hW
  have hA : DataW.TrodAll enc Try.prog W 0 (fun _ => true) true Try.f12.params.toList args.toList ds p := hA0
  rw [Try.params12] at hA hval
  obtain ⟨v0, v1, v2, d0, d1, d2, p0, p1, p2, rfl, rfl, rfl, h0, h1, h2⟩ := trodAll_three hA
  obtain ⟨rfl, rfl⟩ := trodVars_none hV
  clear hA0 hval0
  obtain ⟨sa, sn, sc, A, L, C, Z, rfl, hsn, hr⟩ := open_brows' (hval 0 22 v0 rfl rfl) h0
  obtain ⟨pa, pn, pc, P, rfl, hpn, hP, hPb, hPl⟩ := open_bytes (hval 1 28 v1 rfl rfl) h1
  obtain ⟨ka, kn, kc, B, rfl, hkn, hK, hsp⟩ := open_keeps (hval 2 49 v2 rfl rfl) h2
  refine (harm_run sa sn sc A L C Z pa pn pc P ka kn kc B W hsn hr hpn hP hPb hPl hkn hK hsp).mono fun en W' ⟨he, hb⟩ => ?_
  subst he
  exact ⟨_, rfl, law_post Try.laidOut rfl Try.underlying4 (by decide +kernel) rfl hW' rfl rfl rfl hb.below⟩

theorem walHarmless_holds : Rows.WalHarmlessSaid :=
  OpenClaim.holds_of_wide 12 Try.f12 rfl rfl rfl rfl rfl rfl rfl ⟨rfl, rfl, rfl, rfl, rfl⟩ rfl rfl rfl rfl rfl (by kernel_rfl) Try.func12 (by kernel_rfl)
    (of_decide_eq_true (by kernel_rfl)) (by unfold Func.isWrapper; rw [if_neg (of_decide_eq_false (by kernel_rfl))]; exact ⟨rfl, rfl⟩)
    (fun os started H enc _ => walHarmless_lifted os started H enc)

#print axioms walHarmless_holds
end Go.Proofs.Ytbimkhdiplnbfaa
