/- Walks of the laws: Call.kind, Call.keep. -/
import Derived.Test.YtbimkhdiplnbfaaU7
import Derived.Test.YtbimkhdiplnbfaaU22
import Derived.Lib.SliceRun

namespace Go.Proofs.Ytbimkhdiplnbfaa
open Go.RowKit Go.Deep

def kindOf (k : Int) : Int := (IntKind.u64.wrap k).tmod 10
theorem kindOf_range (k : Int) : 0 ≤ kindOf k ∧ kindOf k < 10 := wide_range k

set_option maxHeartbeats 400000 in
theorem kind_run (k i n c : Int) (ka : Option Addr) (kn kc : Nat) (w : World) :
    Calls Try.prog 57 #[callV k i n c ka kn kc] w fun e w' => e = .returned (.int .u64 (kindOf k)) ∧ Upd (fun _ => False) w w' := by
  unfold callV
  go_enter Try.func57, Try.ntmps57
  go_wp2
  go_ret
  exact ⟨rfl, (Upd.refl _ w).alloc _⟩

theorem cell_kept {w w' : World} (hu : Upd (fun _ => False) w w') {x : Addr} {v : Value} (h : w.cell? x = some v) : w'.cell? x = some v := by
  have hlt : x.block < w.heap.size := by
    rcases Nat.lt_or_ge x.block w.heap.size with h' | h'
    · exact h'
    · simp [World.cell?, Array.getElem?_eq_none h'] at h
  rw [← h]
  simp only [World.cell?]
  rw [hu.block x.block hlt (fun e => e)]

/-- The truth values of a call's Keep. -/
def KeepIn (w : World) (ka : Option Addr) (kn kc : Nat) (B : Nat → Bool) : Prop :=
  (ka = none ∧ kn = 0 ∧ kc = 0) ∨ ∃ a : Addr, ka = some a ∧ kn ≤ kc ∧ kc ≤ maxLen ∧ ∀ i, i < kc → w.cell? (a.add i) = some (.bool (B i))

theorem KeepIn.kept {w w' : World} {ka : Option Addr} {kn kc : Nat} {B : Nat → Bool} (h : KeepIn w ka kn kc B) (hu : Upd (fun _ => False) w w') : KeepIn w' ka kn kc B := by
  rcases h with h | ⟨a, h1, h3, h4, h5⟩
  · exact .inl h
  · exact .inr ⟨a, h1, h3, h4, fun i hi => cell_kept hu (h5 i hi)⟩

theorem Try.info4p : (Try.prog.info? 4).map (fun i => (i.zero, i.size, i.bytes)) = some (some (.bool false), 1, 1) := by kernel_rfl

set_option maxRecDepth 8000 in
set_option maxHeartbeats 400000 in
theorem cloneBools_run {a : Addr} {len cap : Nat} (B : Nat → Bool) (w : World) (hl : len ≤ 1000) (hc : ∀ i, i < len → w.cell? (a.add i) = some (.bool (B i))) :
    Calls Try.prog 49 #[.slice (some a) len cap] w fun e w' => (∃ ka' kc', e = .returned (.slice ka' len kc') ∧ BoolsAt w' ka' ((List.range len).map B)) ∧ Upd (fun _ => False) w w' := by
  have HC := Lib.hid hc
  clear hc
  have q22 : (binOp .eql 49 (.slice (some a) len cap) (.slice none 0 0)).run Try.prog w = .ok (.bool false) w := Lib.run_eql_slice_nil w _ _ _ _ _ _ _ Try.underlying49
  go_enter Try.func49, Try.ntmps49
  go_upto_region 3 with fail
  clear q22
  iterate 7 go_step
  obtain ⟨i0, hi0, hz0, hz1, hz2⟩ := info_parts Try.info4p
  have hown0 : (w.alloc (.cells #[] 4)).ownsRow w.heap.size 4 1 (.slice (some ⟨w.heap.size, 0, none⟩) 0 0) 0 [] :=
    ⟨by simp, .inr ⟨w.heap.size, 0, #[], rfl, Nat.le_refl _, alloc_at rfl, Nat.le_refl _, Nat.zero_le _, rfl, rfl⟩⟩
  refine wpList_append_own _ rfl (.tmp 5) (.tmp 6) 49 rfl w.heap.size 4 i0 (.bool false) 1 1 Try.underlying49 hi0 hz0 hz1 hz2 rfl (by omega) _ 0 [] rfl hown0 a len cap ((List.range len).map fun i => .bool (B i)) rfl (by simp) (by
    intro j u hj
    have hjl : j < len := by have := (List.getElem?_eq_some_iff.1 hj).1; simpa using this
    simp [hjl] at hj
    subst hj
    exact cell_kept ((Upd.refl _ w).alloc _) (HC.out j hjl)) (by simp [Value.oneCell']) (by unfold maxLen; omega) (by omega) (by simp) ?_
  intro v' w1 hown hgrow hnil
  have hv : ∃ g c, v' = .slice (some ⟨g, 0, none⟩) len c := by
    rcases hown.2 with ⟨e, _⟩ | ⟨g, c, cur, e, _⟩
    · have he := (hnil.1 e).1
      cases he
    · exact ⟨g, c, by simpa using e⟩
  obtain ⟨g, c, rfl⟩ := hv
  have HO := Lib.hid hown
  have HG := Lib.hid hgrow
  clear hown hgrow hnil hi0 hz0 hz1 hz2 hown0
  go_wp2
  go_ret
  refine ⟨⟨_, _, rfl, fun i x hx => ?_⟩, ?_⟩
  · have hil : i < len := by have := (List.getElem?_eq_some_iff.1 hx).1; simpa using this
    have ho := HO.out
    simp only [Nat.zero_add, List.nil_append] at ho
    refine ⟨g, 0, rfl, (ho.lt g rfl).2, ?_⟩
    rw [Nat.zero_add, ho.cellAt i (by omega)]
    simp [hil] at hx ⊢
    exact hx
  · have h2 : Upd (fun j => w.heap.size ≤ j) w w1 := (((Upd.refl _ w).alloc _).step (Upd.of_grown (F := fun j => w.heap.size ≤ j) HG.out (fun k hk => Nat.le_of_eq (Option.some.inj hk))) (fun _ _ e => e))
    exact h2.mono (fun j hj e => by omega)

set_option maxHeartbeats 400000 in
theorem cloneBools_nil (w : World) : Calls Try.prog 49 #[.slice none 0 0] w fun e w' => e = .returned (.slice none 0 0) ∧ w = w' := by
  have q22 : (binOp .eql 49 (.slice none 0 0) (.slice none 0 0)).run Try.prog w = .ok (.bool true) w := Lib.run_eql_slice_nil w _ _ _ _ _ _ _ Try.underlying49
  go_enter Try.func49, Try.ntmps49
  go_wp2
  go_ret
  exact ⟨rfl, rfl⟩

set_option maxHeartbeats 400000 in
theorem keep_run (k i n c : Int) (ka : Option Addr) (kn kc : Nat) (B : Nat → Bool) (w : World) (hk : KeepIn w ka kn kc B) :
    Calls Try.prog 91 #[callV k i n c ka kn kc] w fun e w' => (∃ ka' kc', e = .returned (.slice ka' (min kn 80) kc') ∧ BoolsAt w' ka' ((List.range (min kn 80)).map B)) ∧ Upd (fun _ => False) w w' := by
  have hk' := hk.kept ((Upd.refl _ w).alloc (.cells #[.int .i64 k, .int .i64 i, .int .i64 n, .int .u8 c, .slice ka kn kc] 51))
  unfold callV
  rcases hk' with ⟨rfl, rfl, rfl⟩ | ⟨a, rfl, hl, hm, hc⟩
  · go_enter Try.func91, Try.ntmps91
    go_wp2_with (go_at_call 49; refine (cloneBools_nil _).mono ?_; rintro e w' ⟨rfl, rfl⟩)
    go_ret
    exact ⟨⟨none, 0, rfl, fun i x hx => by simp at hx⟩, (Upd.refl _ w).alloc _⟩
  · have HCL := Lib.hid (cloneBools_run (len := min kn 80) (cap := kc) B _ (by omega) (fun i hi => hc i (by omega)))
    have HL := Lib.hid hl
    unfold maxLen at hm
    clear hk hc
    go_enter Try.func91, Try.ntmps91
    go_wp2_with fail
    have e80 : (min (kn : Int) 80).toNat = min kn 80 := by omega
    rw [e80]
    refine HCL.out.mono ?_
    rintro e w' ⟨⟨ka', kc', rfl, hb'⟩, hu⟩
    have HBB := Lib.hid hb'; have HU := Lib.hid hu
    clear hb' hu
    go_wp2
    go_ret
    exact ⟨⟨ka', kc', rfl, HBB.out⟩, ((Upd.refl _ w).alloc _).trans HU.out⟩

end Go.Proofs.Ytbimkhdiplnbfaa
