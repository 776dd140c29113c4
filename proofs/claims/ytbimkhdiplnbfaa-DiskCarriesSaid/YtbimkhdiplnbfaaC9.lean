/- Walks of the disk: slices.Clone of a history. -/
import Derived.Test.YtbimkhdiplnbfaaC4
import Derived.Lib.SliceRun
namespace Go.Proofs.Ytbimkhdiplnbfaa
open Go.RowKit Go.Deep

set_option maxRecDepth 8000 in
set_option maxHeartbeats 2000000 in
theorem clone_run {g m cap : Nat} {xs : List Value} (w : World) (hr : w.ownsRow 0 130 65 (.slice (some ⟨g, 0, none⟩) m cap) m xs) (hm : 0 < m) (hm2 : m ≤ 1099511627776) (h1 : ∀ u ∈ xs, u.oneCell' = true) :
    Calls Try.prog 97 #[.slice (some ⟨g, 0, none⟩) m cap] w fun e w' => ∃ g' cap', e = .returned (.slice (some ⟨g', 0, none⟩) m cap') ∧ w.heap.size ≤ g' ∧ w'.ownsRow 0 130 65 (.slice (some ⟨g', 0, none⟩) m cap') m xs ∧ Upd (fun _ => False) w w' := by
  have HR := Lib.hid hr
  have H1 := Lib.hid h1
  clear hr h1
  have q22 : (binOp .eql 131 (.slice (some ⟨g, 0, none⟩) m cap) (.slice none 0 0)).run Try.prog w = .ok (.bool false) w := Lib.run_eql_slice_nil w _ _ _ _ _ _ _ Try.underlying131
  go_enter Try.func97, Try.ntmps97
  go_upto_region 3 with fail

  clear q22
  iterate 7 go_step
  obtain ⟨i0, hi0, hz0, hz1, hz2⟩ := info_parts Try.info130p
  have hown0 : (w.alloc (.cells #[] 130)).ownsRow w.heap.size 130 65 (.slice (some ⟨w.heap.size, 0, none⟩) 0 0) 0 [] :=
    ⟨by simp, .inr ⟨w.heap.size, 0, #[], rfl, Nat.le_refl _, alloc_at rfl, Nat.le_refl _, Nat.zero_le _, rfl, rfl⟩⟩
  have hxl : xs.length = m * 65 := HR.out.1
  refine wpList_append_lies _ rfl (.tmp 5) (.tmp 6) 131 rfl w.heap.size 130 i0 (.agg Z130) 65 72 Try.underlying131 hi0 hz0 hz1 hz2 Z130_cells (by omega) _ 0 [] rfl hown0 ⟨g, 0, none⟩ m cap xs rfl hxl
    ((HR.out.alloc _).cells rfl) H1.out (by omega) (by unfold maxLen; omega) (by omega) (by simp) (w.heap.size + 1) (by simp) ?_
  intro gg cap' w1 hown hgrow hat hlt
  have HO := Lib.hid hown
  have HG := Lib.hid hgrow
  have HA := Lib.hid hat
  clear hown hgrow hat hi0 hz0 hz1 hz2 hown0 hxl
  simp only [Nat.zero_add]
  go_wp2
  go_ret
  refine ⟨gg, cap', rfl, ?_, ?_, ?_⟩
  · rcases HA.out with e | e
    · exact Nat.le_of_eq (Option.some.inj e)
    · omega
  · have h1 := HO.out
    rw [Nat.zero_add, List.nil_append] at h1
    obtain ⟨a, b⟩ := h1
    refine ⟨a, ?_⟩
    rcases b with ⟨b, _⟩ | ⟨g2, c2, cur, e, _, r⟩
    · simp at b
    · exact .inr ⟨g2, c2, cur, e, Nat.zero_le _, r⟩
  · have h2 : Upd (fun j => w.heap.size ≤ j) w w1 := (((Upd.refl _ w).alloc _).step (Upd.of_grown (F := fun j => w.heap.size ≤ j) HG.out (fun k hk => Nat.le_of_eq (Option.some.inj hk))) (fun _ _ e => e))
    exact h2.mono (fun j hj e => by omega)

end Go.Proofs.Ytbimkhdiplnbfaa
