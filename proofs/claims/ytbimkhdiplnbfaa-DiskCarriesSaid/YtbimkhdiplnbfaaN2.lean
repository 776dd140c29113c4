/- Rows of calls in memory: what is stored, what is cleared. -/
import Derived.Test.YtbimkhdiplnbfaaN1
namespace Go.Proofs.Ytbimkhdiplnbfaa
open Go.RowKit Go.Deep

def spl (xs : List Value) : Nat → List Value → List Value
  | _, [] => xs
  | o, v :: r => spl (xs.set o v) (o + 1) r

theorem spl_length : ∀ (vs : List Value) (xs : List Value) (o : Nat), (spl xs o vs).length = xs.length
  | [], _, _ => rfl
  | v :: r, xs, o => by rw [spl, spl_length r]; simp

theorem spl_at : ∀ (vs : List Value) (xs : List Value) (o p : Nat), o + vs.length ≤ xs.length → (spl xs o vs)[p]? = if o ≤ p ∧ p < o + vs.length then vs[p - o]? else xs[p]?
  | [], xs, o, p, _ => by
    rw [spl, if_neg]
    simp
  | v :: r, xs, o, p, h => by
    simp only [List.length_cons] at h ⊢
    rw [spl, spl_at r _ _ _ (by simp; omega)]
    by_cases h1 : p = o
    · subst h1
      rw [if_neg (by omega), if_pos (by omega)]
      simp [show p < xs.length by omega]
    · by_cases h2 : o + 1 ≤ p ∧ p < o + 1 + r.length
      · rw [if_pos h2, if_pos (by omega), show p - o = (p - (o + 1)) + 1 by omega]
        simp
      · rw [if_neg h2, if_neg (by omega), List.getElem?_set_ne (by omega)]

theorem ownsRow_setCells {base : Nat} {e : TypeId} {size g cap n : Nat} : ∀ (vs : List Value) (o : Nat) (w : World) (xs : List Value), w.ownsRow base e size (.slice (some ⟨g, 0, none⟩) n cap) n xs →
    (w.setCells g o vs).ownsRow base e size (.slice (some ⟨g, 0, none⟩) n cap) n (spl xs o vs)
  | [], _, _, _, h => h
  | v :: r, o, _, _, h => ownsRow_setCells r (o + 1) _ _ (h.stored o v).1

theorem upd_setCells (w : World) (g o : Nat) (vs : List Value) : Upd (fun k => k = g) w (w.setCells g o vs) := Upd.setCells (F := fun k => k = g) rfl vs o (Upd.refl _ w)

theorem flat5_set (M : List CallR) (i : Nat) (x : CallR) (hi : i < M.length) : spl (M.flatMap cells5) (i * 5) (cells5 x) = (M.set i x).flatMap cells5 := by
  have hl := flat5_length M
  apply List.ext_getElem?
  intro p
  rw [spl_at _ _ _ _ (by rw [hl, cells5_length]; omega), cells5_length]
  by_cases hp : p < M.length * 5
  · have hj : p / 5 < M.length := by omega
    have ht : p % 5 < 5 := by omega
    have hpp : p = p / 5 * 5 + p % 5 := by omega
    obtain ⟨j, hjd⟩ : ∃ j, j = p / 5 := ⟨_, rfl⟩
    obtain ⟨t, htd⟩ : ∃ t, t = p % 5 := ⟨_, rfl⟩
    rw [← hjd] at hpp hj; rw [← htd] at hpp ht
    clear hjd htd
    subst hpp
    by_cases hji : j = i
    · subst hji
      rw [if_pos (by omega), flat5_at (M.set j x) j t x (by simp [hj]) ht, show j * 5 + t - j * 5 = t by omega]
    · rw [if_neg (by omega), flat5_at M j t M[j] (by simp [hj]) ht, flat5_at (M.set i x) j t M[j] (by rw [List.getElem?_set_ne (Ne.symm hji)]; simp [hj]) ht]
  · rw [if_neg (by omega), List.getElem?_eq_none (by rw [hl]; omega), List.getElem?_eq_none (by rw [flat5_length]; simp; omega)]

theorem RowC.store {w : World} {g cap : Nat} {M : List CallR} (h : RowC w g cap M) {i : Nat} (hi : i < M.length) (x : CallR) : RowC (w.setCells g (i * 5) (cells5 x)) g cap (M.set i x) := by
  have := ownsRow_setCells (cells5 x) (i * 5) w _ h
  rw [flat5_set M i x hi] at this
  unfold RowC
  rw [List.length_set]
  exact this

theorem RowC.there {w : World} {g cap : Nat} {M : List CallR} (h : RowC w g cap M) {i : Nat} (hi : i < M.length) : w.there g (i * 5) 5 := fun j hj => by
  refine ⟨?_, World.ownsRow.frozenAt h _⟩
  rw [h.cell (x := M[i]) (by simp [hi]) hj]
  have : j < (cells5 M[i]).length := hj
  simp [this]

theorem ownsRow_less {w : World} {base : Nat} {e : TypeId} {size g cap n m : Nat} {xs : List Value} (h : w.ownsRow base e size (.slice (some ⟨g, 0, none⟩) n cap) n xs) (hm : m ≤ n) :
    w.ownsRow base e size (.slice (some ⟨g, 0, none⟩) m cap) m (xs.take (m * size)) := by
  obtain ⟨h1, h2⟩ := h
  have hms : m * size ≤ n * size := Nat.mul_le_mul_right _ hm
  refine ⟨by rw [List.length_take, h1]; omega, ?_⟩
  rcases h2 with ⟨e, _⟩ | ⟨g', c', cur, e, hb, hh, hc, hc2, hs, ht⟩
  · cases e
  · simp only [Value.slice.injEq, Option.some.injEq, Addr.mk.injEq, and_true, true_and] at e
    obtain ⟨rfl, rfl⟩ := e
    refine .inr ⟨g, cap, cur, rfl, hb, hh, by omega, hc2, hs, ?_⟩
    rw [← ht, List.take_take]
    congr 1
    omega

/-- What stands behind place i has been cleared; the first i are a row. -/
theorem RowC.cut {w : World} {g cap : Nat} {M : List CallR} (h : RowC w g cap M) {i : Nat} (hi : i ≤ M.length) (vs : List Value) (hv : i * 5 + vs.length ≤ M.length * 5) : RowC (w.setCells g (i * 5) vs) g cap (M.take i) := by
  have hl := flat5_length M
  have h1 := ownsRow_less (ownsRow_setCells vs (i * 5) w _ h) hi
  have e : (spl (M.flatMap cells5) (i * 5) vs).take (i * 5) = (M.take i).flatMap cells5 := by
    apply List.ext_getElem?
    intro p
    rw [List.getElem?_take]
    split
    · rename_i hp
      rw [spl_at _ _ _ _ (by rw [hl]; omega), if_neg (by omega)]
      have ht : p % 5 < 5 := by omega
      have hpp : p = p / 5 * 5 + p % 5 := by omega
      have hj : p / 5 < i := by omega
      obtain ⟨j, hjd⟩ : ∃ j, j = p / 5 := ⟨_, rfl⟩
      obtain ⟨t, htd⟩ : ∃ t, t = p % 5 := ⟨_, rfl⟩
      rw [← hjd] at hpp hj; rw [← htd] at hpp ht
      clear hjd htd
      subst hpp
      have hjm : j < M.length := by omega
      rw [flat5_at M j t M[j] (by simp [hjm]) ht, flat5_at (M.take i) j t M[j] (by rw [List.getElem?_take, if_pos hj]; simp [hjm]) ht]
    · rename_i hp
      rw [List.getElem?_eq_none (by rw [flat5_length]; simp; omega)]
  rw [e] at h1
  unfold RowC
  rw [List.length_take, Nat.min_eq_left hi]
  exact h1

theorem run_clear5 (w : World) (ty : TypeId) {g cap : Nat} {M : List CallR} (h : RowC w g cap M) {i : Nat} (hi : i < M.length) (c : Nat) :
    ∃ vs : List Value, vs.length = (M.length - i) * 5 ∧ (Builtin.clear_ #[65] ty #[.slice (some ⟨g, i * 5, none⟩) (M.length - i) c]).run Try.prog w = .ok (.tuple #[]) (w.setCells g (i * 5) vs) := by
  obtain ⟨inf, hinf, hz⟩ := Option.map_eq_some_iff.1 Try.info51p
  simp only [Prod.mk.injEq] at hz
  obtain ⟨hz1, hz2, hz3⟩ := hz
  obtain ⟨z, hz⟩ : ∃ z : Value, z = .agg #[.int .i64 0, .int .i64 0, .int .i64 0, .int .u8 0, .slice none 0 0] := ⟨_, rfl⟩
  rw [← hz] at hz1
  have hzv : (zeroValue 51).run Try.prog w = .ok z w := by rw [hz]; kernel_rfl
  have hzc : z.cells = #[.int .i64 0, .int .i64 0, .int .i64 0, .int .u8 0, .slice none 0 0] := by rw [hz]; rfl
  have hl : (Builtin.zeroCells z.cells (M.length - i)).toList.length = (M.length - i) * 5 := by simp [Builtin.zeroCells, hzc]
  have hone : ∀ v ∈ (Builtin.zeroCells z.cells (M.length - i)).toList, v.oneCell' = true := by
    intro v hv
    simp only [Builtin.zeroCells, hzc, Array.toList_map, List.mem_map] at hv
    obtain ⟨k, _, rfl⟩ := hv
    have hk : k % 5 < 5 := Nat.mod_lt _ (by omega)
    show ((#[Value.int .i64 0, .int .i64 0, .int .i64 0, .int .u8 0, .slice none 0 0] : Array Value)[k % 5]!).oneCell' = true
    generalize k % 5 = t at hk
    rcases t with _ | _ | _ | _ | _ | t
    · rfl
    · rfl
    · rfl
    · rfl
    · rfl
    · omega
  have hcell : ∀ j, j < (M.length - i) * 5 → (w.cell? ⟨g, i * 5 + j, none⟩).isSome = true := fun j hj => by
    have hjm : i + j / 5 < M.length := by omega
    have := h.cell (j := i + j / 5) (t := j % 5) (x := M[i + j / 5]) (by simp [hjm]) (by omega)
    rw [show i * 5 + j = (i + j / 5) * 5 + j % 5 by omega, this]
    have h5 : j % 5 < (cells5 M[i + j / 5]).length := by rw [cells5_length]; omega
    simp [h5]
  have hst := run_storeCells_cells (P := Try.prog) g (i * 5) (Builtin.zeroCells z.cells (M.length - i)).toList 0 w (fun j hj => by rw [hl] at hj; simpa using hcell j hj) (fun j _ => by simpa using World.ownsRow.frozenAt h (i * 5 + j)) hone
  simp only [Nat.add_zero] at hst
  refine ⟨_, hl, ?_⟩
  obtain ⟨m, hm⟩ : ∃ m, M.length - i = m + 1 := ⟨M.length - i - 1, by omega⟩
  rw [hm] at hst ⊢
  simp [Builtin.clear_, run_underlying Try.underlying65, hzv, hst]

end Go.Proofs.Ytbimkhdiplnbfaa
