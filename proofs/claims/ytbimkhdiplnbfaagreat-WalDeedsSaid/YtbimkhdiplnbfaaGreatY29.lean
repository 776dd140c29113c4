/- Walks of the laws: Call.kind, Call.keep. -/
import Derived.Test.YtbimkhdiplnbfaaGreatY7
import Derived.Test.YtbimkhdiplnbfaaGreatY28
import Derived.Lib.SliceRun
set_option linter.unusedVariables false
set_option linter.unusedSimpArgs false
namespace Go.Proofs.YtbimkhdiplnbfaaGreat
set_option maxRecDepth 1000000
set_option maxHeartbeats 16000000
section
open Go.RowKit Go.Deep
theorem cell_kept {w w' : World} (hu : Upd (fun _ => False) w w') {x : Addr} {v : Value} (h : w.cell? x = some v) : w'.cell? x = some v := by
 have hlt : x.block < w.heap.size := by
  rcases Nat.lt_or_ge x.block w.heap.size with h' | h'
  ·exact h'
  ·simp [World.cell?, Array.getElem?_eq_none h'] at h
 rw [← h]
 simp only [World.cell?]
 rw [hu.block x.block hlt (fun e => e)]
def KeepIn (w : World) (ka : Option Addr) (kn kc : Nat) (B : Nat → Bool) : Prop :=
 (ka = none ∧ kn = 0 ∧ kc = 0) ∨ ∃ a : Addr, ka = some a ∧ kn ≤ kc ∧ kc ≤ maxLen ∧ ∀ i, i < kc → w.cell? (a.add i) = some (.bool (B i))
theorem KeepIn.kept {w w' : World} {ka : Option Addr} {kn kc : Nat} {B : Nat → Bool} (h : KeepIn w ka kn kc B) (hu : Upd (fun _ => False) w w') : KeepIn w' ka kn kc B := by
 rcases h with h | ⟨a, h1, h3, h4, h5⟩
 ·exact .inl h
 ·exact .inr ⟨a, h1, h3, h4, fun i hi => cell_kept hu (h5 i hi)⟩
theorem Tryz.info4p : (Tryz.prog.info? 4).map (fun i => (i.zero, i.size, i.bytes)) = some (some (.bool false), 1, 1) := by kernel_rfl
theorem cloneBools_run {a : Addr} {len cap : Nat} (B : Nat → Bool) (w : World) (hl : len ≤ 1000) (hc : ∀ i, i < len → w.cell? (a.add i) = some (.bool (B i))) :
  Calls Tryz.prog 129 #[.slice (some a) len cap] w fun e w' => (∃ ka' kc', e = .returned (.slice ka' len kc') ∧ BoolsAt w' ka' ((List.range len).map B)) ∧ Upd (fun _ => False) w w' := by
 have HC := Lib.hid hc
 clear hc
 have q22 : (binOp .eql 40 (.slice (some a) len cap) (.slice none 0 0)).run Tryz.prog w = .ok (.bool false) w := Lib.run_eql_slice_nil w _ _ _ _ _ _ _ Tryz.underlying40
 go_enter Tryz.func129, Tryz.ntmps129
 go_upto_region 3 with fail
 clear q22
 iterate 7 go_step
 obtain ⟨i0, hi0, hz0, hz1, hz2⟩ := info_parts Tryz.info4p
 have hown0 : (w.alloc (.cells #[] 4)).ownsRow w.heap.size 4 1 (.slice (some ⟨w.heap.size, 0, none⟩) 0 0) 0 [] :=
  ⟨by simp, .inr ⟨w.heap.size, 0, #[], rfl, Nat.le_refl _, alloc_at rfl, Nat.le_refl _, Nat.zero_le _, rfl, rfl⟩⟩
 refine wpList_append_own _ rfl (.tmp 5) (.tmp 6) 40 rfl w.heap.size 4 i0 (.bool false) 1 1 Tryz.underlying40 hi0 hz0 hz1 hz2 rfl (by omega) _ 0 [] rfl hown0 a len cap ((List.range len).map fun i => .bool (B i)) rfl (by simp) (by
  intro j u hj
  have hjl : j < len := by have := (List.getElem?_eq_some_iff.1 hj).1; simpa using this
  simp [hjl] at hj
  subst hj
  exact cell_kept ((Upd.refl _ w).alloc _) (HC.out j hjl)) (by simp [Value.oneCell']) (by unfold maxLen; omega) (by omega) (by simp) ?_
 intro v' w1 hown hgrow hnil
 have hv : ∃ g c, v' = .slice (some ⟨g, 0, none⟩) len c := by
  rcases hown.2 with ⟨e, _⟩ | ⟨g, c, cur, e, _⟩
  ·have he := (hnil.1 e).1
   cases he
  ·exact ⟨g, c, by simpa using e⟩
 obtain ⟨g, c, rfl⟩ := hv
 have HO := Lib.hid hown
 have HG := Lib.hid hgrow
 clear hown hgrow hnil hi0 hz0 hz1 hz2 hown0
 go_wp2
 go_ret
 refine ⟨⟨_, _, rfl, fun i x hx => ?_⟩, ?_⟩
 ·have hil : i < len := by have := (List.getElem?_eq_some_iff.1 hx).1; simpa using this
  have ho := HO.out
  simp only [Nat.zero_add, List.nil_append] at ho
  refine ⟨g, 0, rfl, (ho.lt g rfl).2, ?_⟩
  rw [Nat.zero_add, ho.cellAt i (by omega)]
  simp [hil] at hx ⊢
  exact hx
 ·have h2 : Upd (fun j => w.heap.size ≤ j) w w1 := (((Upd.refl _ w).alloc _).step (Upd.of_grown (F := fun j => w.heap.size ≤ j) HG.out (fun k hk => Nat.le_of_eq (Option.some.inj hk))) (fun _ _ e => e))
  exact h2.mono (fun j hj e => by omega)
theorem cloneBools_nil (w : World) : Calls Tryz.prog 129 #[.slice none 0 0] w fun e w' => e = .returned (.slice none 0 0) ∧ w = w' := by
 have q22 : (binOp .eql 40 (.slice none 0 0) (.slice none 0 0)).run Tryz.prog w = .ok (.bool true) w := Lib.run_eql_slice_nil w _ _ _ _ _ _ _ Tryz.underlying40
 go_enter Tryz.func129, Tryz.ntmps129
 go_wp2
 go_ret
 exact ⟨rfl, rfl⟩
end
end Go.Proofs.YtbimkhdiplnbfaaGreat
