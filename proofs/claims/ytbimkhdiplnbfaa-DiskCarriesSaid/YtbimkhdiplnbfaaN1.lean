/- Rows of calls in memory: slices.Clone, IndexFunc; the closure of calm. -/
import Derived.Test.YtbimkhdiplnbfaaK1
import Derived.Test.YtbimkhdiplnbfaaC4
import Derived.Lib.SliceRun
namespace Go.Proofs.Ytbimkhdiplnbfaa
open Go.RowKit Go.Deep

/-- A call. -/
structure CallR where
  k : Int
  i : Int
  n : Int
  c : Int
  ka : Option Addr
  kn : Nat
  kc : Nat

def cells5 (x : CallR) : List Value := [.int .i64 x.k, .int .i64 x.i, .int .i64 x.n, .int .u8 x.c, .slice x.ka x.kn x.kc]
def CallR.v (x : CallR) : Value := callV x.k x.i x.n x.c x.ka x.kn x.kc
theorem CallR.v_eq (x : CallR) : x.v = .agg (cells5 x).toArray := rfl
theorem cells5_length (x : CallR) : (cells5 x).length = 5 := rfl
theorem cells5_one (x : CallR) : ∀ u ∈ cells5 x, u.oneCell' = true := by
  intro u hu
  simp [cells5] at hu
  rcases hu with rfl | rfl | rfl | rfl | rfl <;> rfl
theorem flat5_length (L : List CallR) : (L.flatMap cells5).length = L.length * 5 := by
  induction L with
  | nil => rfl
  | cons x L ih => simp only [List.flatMap_cons, List.length_append, ih, cells5_length, List.length_cons]; omega
theorem flat5_one (L : List CallR) : ∀ u ∈ L.flatMap cells5, u.oneCell' = true := by
  intro u hu
  obtain ⟨x, _, hx⟩ := List.mem_flatMap.1 hu
  exact cells5_one x u hx

/-- The cells of the element at j. -/
theorem flat5_at : ∀ (L : List CallR) (j t : Nat) (x : CallR), L[j]? = some x → t < 5 → (L.flatMap cells5)[j * 5 + t]? = (cells5 x)[t]?
  | [], _, _, _, h, _ => by simp at h
  | y :: L, 0, t, x, h, ht => by
    simp at h; subst h
    simp only [List.flatMap_cons, Nat.zero_mul, Nat.zero_add]
    rw [List.getElem?_append_left (by rw [cells5_length]; exact ht)]
  | y :: L, j + 1, t, x, h, ht => by
    simp only [List.flatMap_cons]
    rw [List.getElem?_append_right (by rw [cells5_length]; omega), cells5_length, show (j + 1) * 5 + t - 5 = j * 5 + t by omega]
    exact flat5_at L j t x (by simpa using h) ht

theorem Try.info51p : (Try.prog.info? 51).map (fun i => (i.zero, i.size, i.bytes)) = some (some (.agg #[.int .i64 0, .int .i64 0, .int .i64 0, .int .u8 0, .slice none 0 0]), 5, 56) := by kernel_rfl

theorem Try.size51c : (Try.prog.info? 51).map (·.size) = some 5 := by kernel_rfl

/-- A row of calls of ours. -/
def RowC (w : World) (g cap : Nat) (L : List CallR) : Prop := w.ownsRow 0 51 5 (.slice (some ⟨g, 0, none⟩) L.length cap) L.length (L.flatMap cells5)

theorem RowC.cell {w : World} {g cap : Nat} {L : List CallR} (h : RowC w g cap L) {j t : Nat} {x : CallR} (hx : L[j]? = some x) (ht : t < 5) : w.cell? ⟨g, j * 5 + t, none⟩ = (cells5 x)[t]? := by
  have hj : j < L.length := (List.getElem?_eq_some_iff.1 hx).1
  rw [World.ownsRow.cellAt h _ (by omega)]
  exact flat5_at L j t x hx ht

theorem RowC.kept {w w' : World} {g cap : Nat} {L : List CallR} {G : Nat → Prop} (h : RowC w g cap L) (hu : Upd G w w') (hg : ¬ G g) : RowC w' g cap L :=
  ownsRow_any h hu (fun k hk => by simp [Value.ownBlock] at hk; subst hk; exact hg)

theorem RowC.lt {w : World} {g cap : Nat} {L : List CallR} (h : RowC w g cap L) : g < w.heap.size := (World.ownsRow.lt h g rfl).2

set_option maxHeartbeats 400000 in
theorem calmF_run (x : CallR) (w : World) : Calls Try.prog 100 #[.agg #[.int .i64 x.k, .int .i64 x.i, .int .i64 x.n, .int .u8 x.c, .slice x.ka x.kn x.kc]] w fun e w' => e = .returned (.bool (decide (6 < kindOf x.k))) ∧ Upd (fun _ => False) w w' := by
  go_enter Try.func100, Try.ntmps100
  go_wp2_with (go_at_call 57; refine (kind_run x.k x.i x.n x.c x.ka x.kn x.kc _).mono ?_; rintro e w' ⟨rfl, hu⟩)
  go_ret
  exact ⟨rfl, ((Upd.refl _ w).alloc _).trans hu⟩

set_option maxRecDepth 8000 in
set_option maxHeartbeats 1000000 in
theorem indexF_run {g cap : Nat} {L : List CallR} (w : World) (h : RowC w g cap L) (hL : L.length ≤ 1000) :
    Calls Try.prog 118 #[.slice (some ⟨g, 0, none⟩) L.length cap, .func (.func 100) #[] #[]] w fun e w' =>
      ((e = .returned (.int .i64 (-1)) ∧ ∀ x ∈ L, kindOf x.k ≤ 6) ∨ ∃ q : Nat, q < L.length ∧ e = .returned (.int .i64 q) ∧ ∀ j x, j < q → L[j]? = some x → kindOf x.k ≤ 6) ∧ Upd (fun _ => False) w w' := by
  have HR := Lib.hid h
  clear h
  go_enter Try.func118, Try.ntmps118
  go_wp2
  go_loopg [8] L.length (fun gk i wr => ∃ q : Nat, q ≤ L.length ∧ gk = L.length - q ∧ i = .int .i64 q ∧ (∀ j x, j < q → L[j]? = some x → kindOf x.k ≤ 6) ∧ Upd (fun _ => False) w wr)
  case atStart => exact ⟨0, Nat.zero_le _, rfl, rfl, fun j x hj => by omega, Upd.refl _ _⟩
  case round =>
    obtain ⟨q, hq, rfl, rfl, hall, hu⟩ := hrel
    have HA := Lib.hid hall; have HU := Lib.hid hu
    clear hall hu
    obtain ⟨wo, rfl⟩ : ∃ wo, wo = wr := ⟨_, rfl⟩
    by_cases hqn : q < L.length
    · have hqn2 : (q : Int) < L.length := by omega
      obtain ⟨x, hx⟩ : ∃ x, L[q]? = some x := ⟨L[q], by simp [hqn]⟩
      have hr := HR.out.kept HU.out (fun e => e)
      have hrg : wo.rangeAt g (q * 5) (cells5 x) := fun t u hu => by
        have ht : t < 5 := by have := (List.getElem?_eq_some_iff.1 hu).1; simpa [cells5_length] using this
        rw [hr.cell hx ht]; exact hu
      have HRG := Lib.hid hrg
      clear hrg
      have HX := Lib.hid hx
      clear hr hx
      go_upto_region 4 with fail
      iterate 13 go_step
      refine wpList_load_mid rfl 51 (.tmp 14) rfl g (q * 5) rfl (cells5 x) _ HRG.out Try.underlying51 rfl Try.size51c ?_
      go_wp2_with fail
      refine (calmF_run x wo).mono ?_
      rintro e w2 ⟨rfl, hu2⟩
      have HU2 := Lib.hid (HU.out.trans hu2)
      clear hu2 HU HRG
      by_cases h6 : 6 < kindOf x.k
      · simp only [h6, decide_true]
        go_wp2
        go_ret
        exact ⟨.inr ⟨q, hqn, rfl, HA.out⟩, HU2.out⟩
      · simp only [h6, decide_false]
        go_wp2
        go_roundg (L.length - (q + 1))
        case measure => omega
        case rel =>
          refine ⟨q + 1, by omega, rfl, congrArg _ (by omega), fun j y hj hy => ?_, HU2.out⟩
          by_cases hjq : j = q
          · subst hjq
            have e := Option.some.inj (hy.symm.trans HX.out)
            subst e; omega
          · exact HA.out j y (by omega) hy
    · obtain rfl : q = L.length := by omega
      go_wp2
      go_ret
      refine ⟨.inl ⟨rfl, fun x hx => ?_⟩, HU.out⟩
      obtain ⟨j, hj, hjx⟩ := List.getElem_of_mem hx
      exact HA.out j x hj (by simp [hj, hjx])

end Go.Proofs.Ytbimkhdiplnbfaa
