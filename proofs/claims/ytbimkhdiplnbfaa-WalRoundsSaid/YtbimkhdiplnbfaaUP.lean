/- WalRounds holds: round and round, with a new snapshot in time there is always room, and Open finds just what was laid; no condition. -/
import Derived.Test.YtbimkhdiplnbfaaU21
import Derived.Test.YtbimkhdiplnbfaaU22
import Derived.Deep.Matrix
namespace Go.Proofs.Ytbimkhdiplnbfaa
open Go.ChangeShapes Go.WideShapes Go.ChangeAt Go.RowKit Go.Joins Go.Deep

set_option maxRecDepth 100000 in
theorem open_brows {H : Type} {enc : TypeId × Value → H} {w : World} {base : Nat} {held : Bool} {r : Reach} {b0 : Nat} {v : Value} {d : DataW H} {p : List MemPlace} (hv : Value.okWide Try.prog w r b0 22 v) (h : DataW.Trod enc Try.prog w base (fun _ => true) held 22 v d p) :
    ∃ (sa : Option Addr) (sn sc : Nat) (A : Nat → Option Addr) (L C : Nat → Nat) (Z : Nat → List Int), v = .slice sa sn sc ∧ sn ≤ 9223372036854775807 ∧ BRows w sa sn A L C Z := by
  obtain ⟨a, len, cap, rfl⟩ := okWide_slice Try.underlying22 hv
  obtain ⟨fuel, hf⟩ := h
  rcases open_int_rows Try.underlying22 Try.underlying28 Try.underlying5 (by kernel_rfl) (by kernel_rfl) hf with ⟨hcs, _⟩ | ⟨a', len', cap', A, L, C, Z, hcs, _, hl, hm, _, hr⟩
  · simp [Value.cells] at hcs
    obtain ⟨rfl, rfl, rfl⟩ := hcs
    exact ⟨none, 0, 0, fun _ => none, fun _ => 0, fun _ => 0, fun _ => [], rfl, by omega, fun i hi => by omega⟩
  · simp [Value.cells] at hcs
    obtain ⟨rfl, rfl, rfl⟩ := hcs
    refine ⟨some a', len, cap, A, L, C, fun i => (Z i).take (L i), rfl, by unfold maxLen at hm; omega, fun i hi => ?_⟩
    have h0 := (hr 0 (by omega)).1
    obtain ⟨h1, h2, h3, h4, h5, h6, h7⟩ := hr i (by omega)
    obtain ⟨b, o, sp⟩ := a'
    have hsp : sp = none := by simpa [Addr.add] using World.cell?_spot h0
    subst hsp
    have e : (⟨b, o, none⟩ : Addr).add i = ⟨b, o + i, none⟩ := by unfold Addr.add; split <;> first | rfl | simp_all
    rw [e] at h1
    refine ⟨b, o, rfl, ?_, h1, by simp; omega, fun x hx => wf_u8 (h5 x (List.mem_of_mem_take hx)), ?_⟩
    · rcases Nat.lt_or_ge b w.heap.size with h' | h'
      · exact h'
      · simp [World.cell?, Array.getElem?_eq_none h'] at h1
    · rcases hA : A i with _ | a
      · have h8 := h6 hA
        have h9 : L i = 0 := by omega
        exact .inl ⟨by rw [h8, h9], by show (Z i).take (L i) = []; rw [h9]; rfl⟩
      · have hlen : ((Z i).take (L i)).length = L i := by simp; omega
        refine .inr ⟨a, C i, by rw [hlen], by rw [hlen]; exact h2, h3, fun j u hj => ?_⟩
        have hjl : j < L i := by
          have := (List.getElem?_eq_some_iff.1 hj).1
          simp [bcells] at this
          omega
        have hc := (h7 a hA).2 j (by omega)
        rw [hc]
        simp only [bcells, List.getElem?_map, List.getElem?_take_of_lt hjl] at hj
        have hz : j < (Z i).length := by omega
        rw [List.getElem?_eq_getElem hz] at hj
        simp only [Option.map_some, Option.some.injEq] at hj
        rw [List.getD_eq_getElem?_getD, List.getElem?_eq_getElem hz]
        simp [hj]

set_option maxRecDepth 100000 in
theorem walRounds_lifted (os : Os) (started : os.Started) (H : Type) (enc : TypeId × Value → H) :
    ReturnsInHanded {} Try.checked os 3 .any (Rows.walRoundsSpec.pre6 enc Try.prog Try.f3 Rows.walRoundsRow.domain false) (Rows.walRoundsSpec.post enc Try.prog Try.f3 false true false false) := by
  refine returnsInHanded_of_change (C := Try.checked) Try.own started (by kernel_rfl) Try.func3
    (ChangeSpec.witness6 (enc := enc) (C := Try.checked) false ⟨#[], #[.slice none 0 0, .int .i64 0], []⟩ 8 (by kernel_rfl) (by kernel_rfl) (by kernel_rfl) (by kernel_rfl)) ?_
  intro W base args ds gs before hval0 hW _ _
  have hval : ∀ (j : Nat) t v, Try.f3.params[j]? = some t → args[j]? = some v → Value.okWide Try.prog W .any base t v := hval0
  have hW' : DataW.Whole enc Try.prog Try.f3.params.toList Rows.walRoundsSpec.vars false W args.toList ds gs before := hW
  obtain ⟨p, q, hA0, hV, rfl, hfz, hnd⟩ := hW
  have hA : DataW.TrodAll enc Try.prog W 0 (fun _ => true) true Try.f3.params.toList args.toList ds p := hA0
  rw [Try.params3] at hA hval
  obtain ⟨v0, v1, d0, d1, p0, p1, rfl, rfl, rfl, h0, h1⟩ := trodAll_two hA
  obtain ⟨rfl, rfl⟩ := trodVars_none hV
  clear hA0 hval0
  obtain ⟨sa, sn, sc, A, L, C, Z, rfl, hsn, hr⟩ := open_brows (hval 0 22 v0 rfl rfl) h0
  obtain ⟨n, rfl, rfl, rfl, wn⟩ := open_int Try.underlying3 (hval 1 3 v1 rfl rfl) h1
  refine (rounds_run sa sn sc A L C Z n (wf_i64 wn) W hsn hr).mono fun en W' ⟨he, hb⟩ => ?_
  subst he
  exact ⟨_, rfl, law_post Try.laidOut rfl Try.underlying4 (by decide +kernel) rfl hW' rfl rfl rfl hb.below⟩

theorem walRounds_holds : Rows.WalRoundsSaid :=
  OpenClaim.holds_of_wide 3 Try.f3 rfl rfl rfl rfl rfl rfl rfl ⟨rfl, rfl, rfl, rfl, rfl⟩ rfl rfl rfl rfl rfl (by kernel_rfl) Try.func3 (by kernel_rfl)
    (of_decide_eq_true (by kernel_rfl)) (by unfold Func.isWrapper; rw [if_neg (of_decide_eq_false (by kernel_rfl))]; exact ⟨rfl, rfl⟩)
    (fun os started H enc _ => walRounds_lifted os started H enc)

#print axioms walRounds_holds
end Go.Proofs.Ytbimkhdiplnbfaa
