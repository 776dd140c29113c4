/- DiskNone holds: which disks there are, and what nothing answers; no condition. -/
import Derived.Test.YtbimkhdiplnbfaaW5
import Derived.Test.YtbimkhdiplnbfaaLaw
namespace Go.Proofs.Ytbimkhdiplnbfaa
open Go.ChangeShapes Go.WideShapes Go.ChangeAt Go.RowKit Go.Joins Go.Deep

set_option maxRecDepth 100000 in
theorem open_sizes {H : Type} {enc : TypeId × Value → H} {w : World} {base : Nat} {held : Bool} {r : Reach} {b0 : Nat} {v : Value} {d : DataW H} {p : List MemPlace} (hv : Value.okWide Try.prog w r b0 82 v) (h : DataW.Trod enc Try.prog w base (fun _ => true) held 82 v d p) :
    ∃ (sa : Option Addr) (sn sc : Nat) (Z : Nat → Int), v = .slice sa sn sc ∧ sn ≤ 9223372036854775807 ∧ IntsAt w sa sn Z := by
  obtain ⟨a, len, cap, rfl⟩ := okWide_slice Try.underlying82 hv
  obtain ⟨fuel, hf⟩ := h
  rcases open_ints Try.underlying82 Try.underlying3 (by kernel_rfl) hf with ⟨hcs, _⟩ | ⟨a', len', cap', zs, hcs, _, hl, hm, hz, _, hcell, _⟩
  · simp [Value.cells] at hcs
    obtain ⟨rfl, rfl, rfl⟩ := hcs
    exact ⟨none, 0, 0, fun _ => 0, rfl, by omega, fun i hi => by omega⟩
  · simp [Value.cells] at hcs
    obtain ⟨rfl, rfl, rfl⟩ := hcs
    refine ⟨some a', len, cap, fun i => zs.getD i 0, rfl, by unfold maxLen at hm; omega, fun i hi => ?_⟩
    simp only [if_true] at hz
    have h0 := hcell 0 (by omega)
    have hi2 := hcell i (by omega)
    obtain ⟨b, o, sp⟩ := a'
    have hsp : sp = none := by simpa [Addr.add] using World.cell?_spot h0
    subst hsp
    have e : (⟨b, o, none⟩ : Addr).add i = ⟨b, o + i, none⟩ := by unfold Addr.add; split <;> first | rfl | simp_all
    rw [e] at hi2
    refine ⟨b, o, rfl, ?_, hi2⟩
    rcases Nat.lt_or_ge b w.heap.size with h' | h'
    · exact h'
    · simp [World.cell?, Array.getElem?_eq_none h'] at hi2

theorem keepIn_of {w : World} {ka : Option Addr} {kn kc : Nat} (h : (ka = none ∧ kn = 0 ∧ kc = 0) ∨ ∃ (a : Addr) (B : Nat → Bool), ka = some a ∧ kn ≤ kc ∧ kc ≤ maxLen ∧ ∀ i, i < kc → w.cell? (a.add i) = some (.bool (B i))) : ∃ B, KeepIn w ka kn kc B := by
  rcases h with h | ⟨a, B, h1, h2, h3, h4⟩
  · exact ⟨fun _ => false, .inl h⟩
  · exact ⟨B, .inr ⟨a, h1, h2, h3, h4⟩⟩

set_option maxRecDepth 100000 in
theorem none_lifted (os : Os) (started : os.Started) (H : Type) (enc : TypeId × Value → H) :
    ReturnsInHanded {} Try.checked os 8 .any (Rows.diskNoneSpec.pre6 enc Try.prog Try.f8 Rows.diskNoneRow.domain false) (Rows.diskNoneSpec.post enc Try.prog Try.f8 false true false false) := by
  refine returnsInHanded_of_change (C := Try.checked) Try.own started (by kernel_rfl) Try.func8
    (ChangeSpec.witness6 (enc := enc) (C := Try.checked) false ⟨#[], #[.slice none 0 0, .agg #[.int .i64 0, .int .i64 0, .int .i64 0, .int .u8 0, .slice none 0 0]], []⟩ 8 (by kernel_rfl) (by kernel_rfl) (by kernel_rfl) (by kernel_rfl)) ?_
  intro W base args ds gs before hval0 hW _ _
  have hval : ∀ (j : Nat) t v, Try.f8.params[j]? = some t → args[j]? = some v → Value.okWide Try.prog W .any base t v := hval0
  have hW' : DataW.Whole enc Try.prog Try.f8.params.toList Rows.diskNoneSpec.vars false W args.toList ds gs before := hW
  obtain ⟨p, q, hA0, hV, rfl, hfz, hnd⟩ := hW
  have hA : DataW.TrodAll enc Try.prog W 0 (fun _ => true) true Try.f8.params.toList args.toList ds p := hA0
  rw [Try.params8] at hA hval
  obtain ⟨v0, v1, d0, d1, p0, p1, rfl, rfl, rfl, h0, h1⟩ := trodAll_two hA
  obtain ⟨rfl, rfl⟩ := trodVars_none hV
  clear hA0 hval0
  obtain ⟨sa, sn, sc, Z, rfl, hsn, hs⟩ := open_sizes (hval 0 82 v0 rfl rfl) h0
  obtain ⟨k, i, n, c, ka, kn, kc, rfl, _, _, _, hc, hk⟩ := open_call (hval 1 51 v1 rfl rfl) h1
  obtain ⟨B, hk⟩ := keepIn_of hk
  refine (none_run sa sn sc Z k i n c ka kn kc B hc W hs hsn hk).mono fun en W' ⟨he, hb⟩ => ?_
  subst he
  exact ⟨_, rfl, law_post Try.laidOut rfl Try.underlying4 (by decide +kernel) rfl hW' rfl rfl rfl hb.below⟩

theorem diskNone_holds : Rows.DiskNoneSaid :=
  OpenClaim.holds_of_wide 8 Try.f8 rfl rfl rfl rfl rfl rfl rfl ⟨rfl, rfl, rfl, rfl, rfl⟩ rfl rfl rfl rfl rfl (by kernel_rfl) Try.func8 (by kernel_rfl)
    (of_decide_eq_true (by kernel_rfl)) (by unfold Func.isWrapper; rw [if_neg (of_decide_eq_false (by kernel_rfl))]; exact ⟨rfl, rfl⟩)
    (fun os started H enc _ => none_lifted os started H enc)

#print axioms diskNone_holds
end Go.Proofs.Ytbimkhdiplnbfaa
