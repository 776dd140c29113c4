/- The disk as a value: what arrives. -/
import Derived.Test.YtbimkhdiplnbfaaB7
namespace Go.Proofs.Ytbimkhdiplnbfaa
open Go.RowKit

/-- How many of a sector's sent blocks arrive. -/
def Dk.count (D : Dk) (lost : Int → Bool) (i : Nat) : Nat := ((D.vers i).tail.takeWhile (fun v => !lost v.2)).length
/-- The block that a sector keeps. -/
def Dk.kept (D : Dk) (lost : Int → Bool) (i : Nat) : List Int := ((D.vers i).getD (D.count lost i) (zblk, 0)).1
/-- The first k sectors have settled. -/
def Dk.settled (D : Dk) (lost : Int → Bool) (k : Nat) : Dk :=
  { D with arr := (List.range D.arr.length).map (fun i => if i < k then D.kept lost i else D.arr.getD i []), row := D.row.filter (fun x => decide (k ≤ x.1)) }

theorem settled_length (D : Dk) (lost : Int → Bool) (k : Nat) : (D.settled lost k).arr.length = D.arr.length := by simp [Dk.settled]

theorem settled_vers_lt (D : Dk) (lost : Int → Bool) {k i : Nat} (hi : i < D.arr.length) (h : i < k) : (D.settled lost k).vers i = [(D.kept lost i, 0)] := by
  have e : (D.row.filter (fun x => decide (k ≤ x.1))).filter (fun x => x.1 == i) = [] := by
    rw [List.filter_filter, List.filter_eq_nil_iff]
    intro x _
    simp; omega
  simp only [Dk.vers, Dk.settled, e]
  simp [List.getD_eq_getElem?_getD, hi, h]

theorem settled_vers_ge (D : Dk) (lost : Int → Bool) {k i : Nat} (hi : i < D.arr.length) (h : k ≤ i) : (D.settled lost k).vers i = D.vers i := by
  have e : (D.row.filter (fun x => decide (k ≤ x.1))).filter (fun x => x.1 == i) = D.row.filter (fun x => x.1 == i) := by
    rw [List.filter_filter]
    refine List.filter_congr (fun x _ => ?_)
    by_cases hx : x.1 = i
    · simp [hx, h]
    · simp [hx]
  have hk : ¬ i < k := by omega
  simp only [Dk.vers, Dk.settled, e]
  simp [List.getD_eq_getElem?_getD, hi, hk]

theorem settled_zero (D : Dk) (lost : Int → Bool) : D.settled lost 0 = D := by
  have e1 : (List.range D.arr.length).map (fun i => if i < 0 then D.kept lost i else D.arr.getD i []) = D.arr := by
    apply List.ext_getElem
    · simp
    · intro j h1 h2; simp [h2]
  have e2 : D.row.filter (fun x => decide (0 ≤ x.1)) = D.row := by simp
  unfold Dk.settled
  rw [e1, e2]

def Dk.arrive (D : Dk) (lost : Int → Bool) : Dk := { D with arr := (List.range D.arr.length).map (fun i => D.kept lost i), row := [] }

theorem settled_all {D : Dk} {K : Nat} (h : D.Ok K) (lost : Int → Bool) : D.settled lost D.arr.length = D.arrive lost := by
  have e1 : (List.range D.arr.length).map (fun i => if i < D.arr.length then D.kept lost i else D.arr.getD i []) = (List.range D.arr.length).map (fun i => D.kept lost i) := by
    refine List.map_congr_left (fun i hi => ?_)
    rw [if_pos (by simpa using hi)]
  have e2 : D.row.filter (fun x => decide (D.arr.length ≤ x.1)) = [] := by
    rw [List.filter_eq_nil_iff]
    intro x hx
    have := (h.rblks x hx).2.1
    simp; omega
  unfold Dk.settled Dk.arrive
  rw [e1, e2]

theorem takeWhile_count {α : Type} (f : α → Bool) : ∀ (l : List α) (q : Nat), (∀ j x, j < q → l[j]? = some x → f x = true) → q ≤ l.length → (∀ x, l[q]? = some x → f x = false) → (l.takeWhile f).length = q
  | [], q, _, hq, _ => by simp at hq; simp [hq]
  | x :: l, 0, _, _, h => by
    have := h x (by simp)
    simp [this]
  | x :: l, q + 1, h1, hq, h2 => by
    have hx := h1 0 x (by omega) (by simp)
    have := takeWhile_count f l q (fun j y hj hy => h1 (j + 1) y (by omega) (by simpa using hy)) (by simpa using hq) (fun y hy => h2 y (by simpa using hy))
    simp [hx, this]

/-- The sector at k has settled too. -/
theorem DiskAt.settle {w0 W : World} {p s : Nat} {D : Dk} {lost : Int → Bool} {g c : Nat → Nat} {k : Nat} (h : DiskAt w0 p (D.settled lost k) s g c) (hk : k < D.arr.length) (hb : (D.kept lost k).length = 64) (hu : Upd (fun _ => False) w0 W) :
    DiskAt ((W.alloc (.cells (bcells (D.kept lost k) ++ [Value.int .i64 0]).toArray 130)).setCell ⟨s, k, none⟩ (.slice (some ⟨W.heap.size, 0, none⟩) 1 1)) p (D.settled lost (k + 1)) s
      (fun j => if j = k then W.heap.size else g j) (fun j => if j = k then 1 else c j) := by
  have hl := settled_length D lost k
  have hl1 := settled_length D lost (k + 1)
  have lp := lt_of_heap h.main
  have ls := lt_of_heap h.sec
  have hz := hu.size
  have lg : ∀ i, i < D.arr.length → g i < w0.heap.size := fun i hi => by
    rcases (h.rows i (by rw [hl]; exact hi)).2 with ⟨h3, _⟩ | ⟨gg, cap, cur, hv, hb, hh, r⟩
    · simp at h3
    · simp at hv; rw [hv.1]; exact lt_of_heap hh
  have hA : ∀ j, j < w0.heap.size → (W.alloc (.cells (bcells (D.kept lost k) ++ [Value.int .i64 0]).toArray 130)).heap[j]? = w0.heap[j]? := fun j hj =>
    (alloc_lt (by omega)).trans (hu.block j hj (fun e => e))
  refine ⟨?_, ?_, ?_, h.ps, ?_, ?_, ?_⟩
  · rw [set_ne (fun e => h.ps e), hA p lp, h.main, hl, hl1]; rfl
  · rw [blk_set ((hA s ls).trans h.sec), hl, hl1]
    congr 2
    apply Array.toList_inj.1
    apply List.ext_getElem
    · simp
    · intro j h1 h2
      have hj : j < D.arr.length := by simpa using h2
      simp only [Array.toList_setIfInBounds, List.getElem_set, List.getElem_map, List.getElem_range]
      by_cases e : k = j
      · subst e
        simp [settled_vers_lt D lost hk (Nat.lt_succ_self k)]
      · rw [if_neg e]
        by_cases hjk : j < k
        · rw [settled_vers_lt D lost hj hjk, settled_vers_lt D lost hj (by omega : j < k + 1)]
          simp [Ne.symm e]
        · rw [settled_vers_ge D lost hj (by omega : k ≤ j), settled_vers_ge D lost hj (by omega : k + 1 ≤ j)]
          simp [Ne.symm e]
  · intro i hi
    rw [hl1] at hi
    by_cases hik : i = k
    · subst hik
      rw [settled_vers_lt D lost hi (Nat.lt_succ_self i)]
      simp only [if_true]
      refine ⟨by simp [vcells, hb], .inr ⟨W.heap.size, 1, (bcells (D.kept lost i) ++ [Value.int .i64 0]).toArray, by simp, Nat.zero_le _, ?_, by simp, by decide, by simp [bcells, hb], ?_⟩⟩
      · rw [set_ne (by simp; omega)]; exact alloc_at rfl
      · simp only [vcells, bcells, List.flatMap_cons, List.flatMap_nil, List.append_nil]
        exact List.take_of_length_le (by simp [hb])
    · have hvv : (D.settled lost (k + 1)).vers i = (D.settled lost k).vers i := by
        by_cases hjk : i < k
        · rw [settled_vers_lt D lost hi hjk, settled_vers_lt D lost hi (by omega : i < k + 1)]
        · rw [settled_vers_ge D lost hi (by omega : k ≤ i), settled_vers_ge D lost hi (by omega : k + 1 ≤ i)]
      rw [hvv]
      simp only [hik, if_false]
      obtain ⟨h1, h2⟩ := h.rows i (by rw [hl]; exact hi)
      refine ⟨h1, ?_⟩
      rcases h2 with ⟨h2, _⟩ | ⟨gg, cap, cur, hv, hb, hh, r⟩
      · simp at h2
      · refine .inr ⟨gg, cap, cur, hv, hb, ?_, r⟩
        simp at hv
        rw [set_ne (fun e => h.gs i (by rw [hl]; exact hi) (hv.1.trans e)), hA gg (lt_of_heap hh)]
        exact hh
  · intro i hi
    rw [hl1] at hi
    by_cases hik : i = k
    · simp only [hik, if_true]; omega
    · simp only [hik, if_false]; exact h.gp i (by rw [hl]; exact hi)
  · intro i hi
    rw [hl1] at hi
    by_cases hik : i = k
    · simp only [hik, if_true]; omega
    · simp only [hik, if_false]; exact h.gs i (by rw [hl]; exact hi)
  · intro i j hi hj
    rw [hl1] at hi hj
    have li := lg i hi
    have lj := lg j hj
    by_cases hik : i = k <;> by_cases hjk : j = k
    · intro _; omega
    · simp only [hik, hjk, if_true, if_false]; intro e; omega
    · simp only [hik, hjk, if_true, if_false]; intro e; omega
    · simp only [hik, hjk, if_false]; exact h.gg i j (by rw [hl]; exact hi) (by rw [hl]; exact hj)

theorem kept_at (D : Dk) (lost : Int → Bool) (i : Nat) : ∃ v, (D.vers i)[D.count lost i]? = some v ∧ v ∈ D.vers i ∧ D.kept lost i = v.1 := by
  have h0 : D.count lost i ≤ (D.vers i).tail.length := (List.takeWhile_sublist _).length_le
  have hn := List.length_pos_iff.2 (vers_ne D i)
  have hl : D.count lost i < (D.vers i).length := by rw [List.length_tail] at h0; omega
  exact ⟨(D.vers i)[D.count lost i], by simp [hl], List.getElem_mem _, by simp [Dk.kept, List.getD_eq_getElem?_getD, hl]⟩

theorem kept_blk {D : Dk} {K : Nat} (h : D.Ok K) (lost : Int → Bool) {i : Nat} (hi : i < D.arr.length) : okBlk (D.kept lost i) := by
  obtain ⟨v, _, h2, h3⟩ := kept_at D lost i
  rw [h3]; exact vers_blk h hi v h2

end Go.Proofs.Ytbimkhdiplnbfaa
