/- TaskSource holds: sources; no condition. -/
import Derived.Test.YtbonfdkgkcbkmaaGreatW19
import Derived.Test.YtbonfdkgkcbkmaaGreatW21
set_option linter.unusedVariables false
set_option linter.unusedSimpArgs false
namespace Go.Proofs.YtbonfdkgkcbkmaaGreat
set_option maxRecDepth 100000
open Go.ChangeShapes Go.WideShapes Go.ChangeAt Go.RowKit Go.Joins Go.Deep

theorem Upd.below4 {w w' : World} (h : Upd0 w w') : Below w.heap.size w w' := ⟨h.os, h.tape, h.output, h.size, fun k hk => h.block k hk (fun e => e)⟩
theorem agg_list4 {P : Program} {w : World} {r : Reach} {b : Nat} {t : TypeId} {fs : Array Field} {v : Value} (hs : P.underlying t = some (.struct fs)) (hv : Value.okWide P w r b t v) : ∃ l : List Value, v = .agg l.toArray := by
  obtain ⟨cs, rfl, _⟩ := okWide_struct hs hv
  exact ⟨cs.toList, by simp⟩
theorem pair_list4 {w : World} {r : Reach} {b : Nat} {v : Value} (hv : Value.okWide Tryz.prog w r b 30 v) : ∃ l : List Value, v = .agg l.toArray := by
  simp only [Value.okWide, Tryz.underlying30] at hv
  obtain ⟨cs, rfl, _⟩ := hv
  exact ⟨cs.toList, by simp⟩
theorem cells_pair4 : Tryz.prog.cellsOf 30 = 2 := by kernel_rfl
theorem wf_i644 {n : Int} (h : (Lit.int .i64 n).wf = true) : n ≤ 9223372036854775807 := by
  simp [Lit.wf, IntKind.min, IntKind.max, IntKind.signed, IntKind.bits] at h; omega
theorem open_pair4 {H : Type} {enc : TypeId × Value → H} {w : World} {base : Nat} {held : Bool} {n : Nat} {cs : List Value} {y : DataW H × List MemPlace} (h : DataW.trod enc Tryz.prog w base (fun _ => true) held n 30 cs = some y) : ∃ a b : Int, cs = [.int .i64 a, .int .i64 b] ∧ a ≤ 9223372036854775807 ∧ b ≤ 9223372036854775807 := by
  obtain ⟨xs, m, _, rfl, hll, hlen, hff⟩ := DataW.trod_array Tryz.underlying30 h
  have hl : cs.length = 2 := by rw [hll, cells_pair4]
  match cs, hl with
  | [c0, c1], _ =>
    match xs, hlen with
    | [y0, y1], _ =>
      have k3 := Tryz.c3
      have h0 : DataW.trod enc Tryz.prog w base (fun _ => true) held m 3 [c0] = some y0 := by simpa [k3] using hff 0 (by omega)
      have h1 : DataW.trod enc Tryz.prog w base (fun _ => true) held m 3 [c1] = some y1 := by simpa [k3] using hff 1 (by omega)
      obtain ⟨z0, e0, _, w0⟩ := DataW.trod_int Tryz.underlying3 h0
      obtain ⟨z1, e1, _, w1⟩ := DataW.trod_int Tryz.underlying3 h1
      simp at e0 e1
      subst e0 e1
      exact ⟨z0, z1, rfl, wf_i644 w0, wf_i644 w1⟩
set_option maxRecDepth 100000 in
theorem taskSource_lifted (os : Os) (started : os.Started) (H : Type) (enc : TypeId × Value → H) :
    ReturnsInHanded {} Tryz.checked os 5 .any (Rows.taskSourceSpec.pre6 enc Tryz.prog Tryz.f5 Rows.taskSourceRow.domain false) (Rows.taskSourceSpec.post enc Tryz.prog Tryz.f5 false true false false) := by
  refine returnsInHanded_of_change_sized (C := Tryz.checked) Tryz.own started (by kernel_rfl) Tryz.func5
    (ChangeSpec.witness6 (enc := enc) (C := Tryz.checked) false ⟨#[], #[.agg #[.int .i64 0, .slice none 0 0], .agg #[.int .i64 0, .int .i64 0], .int .i64 0], []⟩ 8 (by kernel_rfl) (by kernel_rfl) (by kernel_rfl) (by kernel_rfl)) ?_
  intro W base args ds gs before hval0 hW _ hsz _
  have hval : ∀ (j : Nat) t v, Tryz.f5.params[j]? = some t → args[j]? = some v → Value.okWide Tryz.prog W .any base t v := hval0
  have hW' : DataW.Whole enc Tryz.prog Tryz.f5.params.toList Rows.taskSourceSpec.vars false W args.toList ds gs before := hW
  obtain ⟨p, q, hA0, hV, rfl, hfz, hnd⟩ := hW
  have hA : DataW.TrodAll enc Tryz.prog W 0 (fun _ => true) true Tryz.f5.params.toList args.toList ds p := hA0
  rw [Tryz.params5] at hA hval
  obtain ⟨v0, v1, v2, d0, d1, d2, p0, p1, p2, rfl, rfl, rfl, h0, h1, h2⟩ := trodAll_three hA
  obtain ⟨rfl, rfl⟩ := trodVars_none hV
  have hS0 : Sized 41 d0 := fun n hn => by
    have := List.all_eq_true.1 hsz n (DataW.weights_mem_each (j := 0) (t := 41) (d := d0) (by kernel_rfl) rfl n hn)
    exact Nat.le_trans (of_decide_eq_true this) (by unfold reachBytes; omega)
  clear hA0 hval0
  obtain ⟨l0, rfl⟩ := agg_list4 Tryz.underlying41 (hval 0 41 v0 rfl rfl)
  obtain ⟨l1, rfl⟩ := pair_list4 (hval 1 30 v1 rfl rfl)
  obtain ⟨n2, rfl, rfl, rfl, wn2⟩ := open_int Tryz.underlying3 (hval 2 3 v2 rfl rfl) h2
  obtain ⟨f0, h0⟩ := h0
  obtain ⟨f1, h1⟩ := h1
  obtain ⟨x, e0, g1, g2⟩ := open_inU h0 hS0
  obtain ⟨n0, n1, e1, b0, b1⟩ := open_pair4 h1
  simp [Value.cells] at e0 e1
  subst e0 e1
  refine (source_law x n0 n1 n2 W g1 g2).mono fun en W' ⟨he, hb⟩ => ?_
  subst he
  exact ⟨_, rfl, law_post Tryz.laidOut rfl Tryz.bool4 (by decide +kernel) rfl hW' rfl rfl rfl hb.below4⟩

set_option maxHeartbeats 16000000 in
/-- The row's facts, part by part: all at once are too much for the kernel's memory. -/
theorem closed_source : joinedFacts Tryz.checked.prog 5 Tryz.f5 Rows.taskSourceSpec Rows.taskSourceRow = true := by
  unfold joinedFacts
  iterate 23 refine Bool.and_eq_true_iff.2 ⟨?_, ?_⟩
  all_goals as_aux_lemma => kernel_rfl
theorem named_source : Tryz.checked.prog.funcNamed Rows.taskSourceRow.func = some 5 := by kernel_rfl
theorem inst_source : Tryz.f5.isInstance Tryz.checked.prog Rows.taskSourceRow.origin Rows.taskSourceRow.targs := of_decide_eq_true (by kernel_rfl)
theorem wrap_source : Tryz.f5.isWrapper Tryz.checked.prog Rows.taskSourceRow.wrapper Rows.taskSourceRow.mainSum := by
  unfold Func.isWrapper
  rw [if_neg (of_decide_eq_false (by kernel_rfl))]
  exact ⟨rfl, rfl⟩
theorem taskSource_holds : Rows.TaskSourceSaid :=
  OpenClaim.holds_of_wide 5 Tryz.f5 rfl rfl rfl rfl rfl rfl rfl ⟨rfl, rfl, rfl, rfl, rfl⟩ rfl rfl rfl rfl rfl named_source Tryz.func5 closed_source inst_source wrap_source
    (fun os started H enc _ => taskSource_lifted os started H enc)

#print axioms taskSource_holds
end Go.Proofs.YtbonfdkgkcbkmaaGreat
