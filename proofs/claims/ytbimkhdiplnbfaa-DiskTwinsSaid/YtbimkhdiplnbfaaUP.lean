/- DiskTwins holds: a disk and its copy, each with an end of its own, are what the document says; no condition. -/
import Derived.Test.YtbimkhdiplnbfaaU23
import Derived.Test.YtbimkhdiplnbfaaU25
namespace Go.Proofs.Ytbimkhdiplnbfaa
open Go.ChangeShapes Go.WideShapes Go.ChangeAt Go.RowKit Go.Joins Go.Deep

theorem okWide_arr' {P : Program} {w : World} {r : Reach} {base : Nat} {t e : TypeId} {n : Nat} {v : Value} (ht : P.underlying t = some (.array n e)) (h : Value.okWide P w r base t v) : ∃ cs, v = .agg cs ∧ cs.size = P.cellsOf t := by
  simp only [Value.okWide, ht, Cell.okWide] at h
  cases v <;> simp_all [Cell.ok]

theorem open_bools1 {H : Type} {enc : TypeId × Value → H} {w : World} {base : Nat} {held : Bool} {n : Nat} {c : Value} {y : DataW H × List MemPlace} (h4 : DataW.trod enc Try.prog w base (fun _ => true) held n 49 [c] = some y) :
    ∃ (a : Option Addr) (n c' : Nat) (B : Nat → Bool), c = .slice a n c' ∧ KeepIn w a n c' B := by
  rcases Deep.open_bools Try.underlying49 Try.underlying4 (by kernel_rfl) h4 with ⟨e4, _⟩ | ⟨a, len, cap, B, e4, _, hl, hm, _, hc⟩
  · simp at e4; subst e4
    exact ⟨none, 0, 0, fun _ => false, rfl, .inl ⟨rfl, rfl, rfl⟩⟩
  · simp at e4; subst e4
    exact ⟨some a, len, cap, B, rfl, .inr ⟨a, rfl, hl, hm, hc⟩⟩

set_option maxRecDepth 100000 in
theorem open_ends {H : Type} {enc : TypeId × Value → H} {w : World} {base : Nat} {held : Bool} {r : Reach} {b0 : Nat} {v : Value} {d : DataW H} {p : List MemPlace} (hv : Value.okWide Try.prog w r b0 76 v) (h : DataW.Trod enc Try.prog w base (fun _ => true) held 76 v d p) :
    ∃ (a0 a1 : Option Addr) (n0 c0 n1 c1 : Nat) (B0 B1 : Nat → Bool), v = .agg #[.slice a0 n0 c0, .slice a1 n1 c1] ∧ KeepIn w a0 n0 c0 B0 ∧ KeepIn w a1 n1 c1 B1 := by
  obtain ⟨cs, rfl, hsz⟩ := okWide_arr' Try.underlying76 hv
  obtain ⟨fuel, hf⟩ := h
  obtain ⟨xs, m, _, _, hll, hlen, hff⟩ := DataW.trod_array Try.underlying76 hf
  have k49 : Try.prog.cellsOf 49 = 1 := by kernel_rfl
  have hs2 : cs.size = 2 := by rw [hsz]; kernel_rfl
  obtain ⟨l⟩ := cs
  match l, hs2 with
  | [c0, c1], _ =>
    match xs, hlen with
    | [y0, y1], _ =>
      have h0 : DataW.trod enc Try.prog w base (fun _ => true) held m 49 [c0] = some y0 := by simpa [k49, Value.cells] using hff 0 (by omega)
      have h1 : DataW.trod enc Try.prog w base (fun _ => true) held m 49 [c1] = some y1 := by simpa [k49, Value.cells] using hff 1 (by omega)
      obtain ⟨a0, n0, d0, B0, rfl, k0⟩ := open_bools1 h0
      obtain ⟨a1, n1, d1, B1, rfl, k1⟩ := open_bools1 h1
      exact ⟨a0, a1, n0, d0, n1, d1, B0, B1, rfl, k0, k1⟩

set_option maxRecDepth 100000 in
theorem twins_lifted (os : Os) (started : os.Started) (H : Type) (enc : TypeId × Value → H) :
    ReturnsInHanded {} Try.checked os 7 .any (Rows.diskTwinsSpec.pre6 enc Try.prog Try.f7 Rows.diskTwinsRow.domain false) (Rows.diskTwinsSpec.post enc Try.prog Try.f7 false true false false) := by
  refine returnsInHanded_of_change (C := Try.checked) Try.own started (by kernel_rfl) Try.func7
    (ChangeSpec.witness6 (enc := enc) (C := Try.checked) false ⟨#[], #[.int .i64 0, .slice none 0 0, .agg #[.slice none 0 0, .slice none 0 0]], []⟩ 8 (by kernel_rfl) (by kernel_rfl) (by kernel_rfl) (by kernel_rfl)) ?_
  intro W base args ds gs before hval0 hW _ _
  have hval : ∀ (j : Nat) t v, Try.f7.params[j]? = some t → args[j]? = some v → Value.okWide Try.prog W .any base t v := hval0
  have hW' : DataW.Whole enc Try.prog Try.f7.params.toList Rows.diskTwinsSpec.vars false W args.toList ds gs before := hW
  obtain ⟨p, q, hA0, hV, rfl, hfz, hnd⟩ := hW
  have hA : DataW.TrodAll enc Try.prog W 0 (fun _ => true) true Try.f7.params.toList args.toList ds p := hA0
  rw [Try.params7] at hA hval
  obtain ⟨v0, v1, v2, d0, d1, d2, p0, p1, p2, rfl, rfl, rfl, h0, h1, h2⟩ := trodAll_three hA
  obtain ⟨rfl, rfl⟩ := trodVars_none hV
  clear hA0 hval0
  obtain ⟨n, rfl, rfl, rfl, wn⟩ := open_int Try.underlying3 (hval 0 3 v0 rfl rfl) h0
  obtain ⟨sa, sc, L, rfl, hin, hg⟩ := open_callsK (hval 1 65 v1 rfl rfl) h1
  obtain ⟨a0, a1, n0, c0, n1, c1, B0, B1, rfl, k0, k1⟩ := open_ends (hval 2 76 v2 rfl rfl) h2
  refine (twins_run n sa sc L a0 a1 n0 c0 n1 c1 B0 B1 W hin hg k0 k1).mono fun en W' ⟨he, hb⟩ => ?_
  subst he
  exact ⟨_, rfl, law_post Try.laidOut rfl Try.underlying4 (by decide +kernel) rfl hW' rfl rfl rfl hb.below⟩

theorem diskTwins_holds : Rows.DiskTwinsSaid :=
  OpenClaim.holds_of_wide 7 Try.f7 rfl rfl rfl rfl rfl rfl rfl ⟨rfl, rfl, rfl, rfl, rfl⟩ rfl rfl rfl rfl rfl (by kernel_rfl) Try.func7 (by kernel_rfl)
    (of_decide_eq_true (by kernel_rfl)) (by unfold Func.isWrapper; rw [if_neg (of_decide_eq_false (by kernel_rfl))]; exact ⟨rfl, rfl⟩)
    (fun os started H enc _ => twins_lifted os started H enc)

#print axioms diskTwins_holds
end Go.Proofs.Ytbimkhdiplnbfaa
