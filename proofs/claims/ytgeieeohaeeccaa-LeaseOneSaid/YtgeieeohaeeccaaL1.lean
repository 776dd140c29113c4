/- The plain law of LeaseOne: all who acquired, in order, have the epochs 1, 2, 3 ..; the last one alone may hold. -/
import Derived.Test.YtgeieeohaeeccaaX5
namespace Go.Proofs.Ytgeieeohaeeccaa
open Go.RowKit

/-- What holds behind j deeds: the clock, the lease, and whose numbers acquired. -/
structure LI (j : Nat) (now E H U : Int) (ns : List Int) : Prop where
  len : E = ns.length
  cnt : ns.length ≤ j
  clock : 0 ≤ now ∧ now ≤ 19 * j
  till : 0 ≤ U ∧ U ≤ 19 * j + 10
  nums : ∀ x ∈ ns, 1 ≤ x ∧ x ≤ 3
  none : ns = [] → H = 0 ∧ U = 0
  last : ∀ i, i + 1 = ns.length → ns[i]? = some H

theorem LI.right {j : Nat} {now E H U : Int} {ns : List Int} (h : LI j now E H U ns) (hj : j ≤ 80) : right E H U = true := by
  have h1 := h.len; have h2 := h.cnt; have h4 := h.till
  by_cases hn : ns = []
  · obtain ⟨a, b⟩ := h.none hn
    have : E = 0 := by rw [h1, hn]; rfl
    unfold Ytgeieeohaeeccaa.right
    rw [if_pos this]; simp [a, b]
  · have hp : 0 < ns.length := List.length_pos_iff.2 hn
    have hl := h.last (ns.length - 1) (by omega)
    have hm := h.nums H (List.mem_of_getElem? hl)
    exact right_mk (by omega) (by omega) hm.1 hm.2 (by omega) (by omega)

theorem LI.asked {j : Nat} {now E H U : Int} {ns : List Int} (h : LI j now E H U ns) (hj : j ≤ 80) {who t span : Int} (hw : 1 ≤ who ∧ who ≤ 3) (ht : now ≤ t ∧ t ≤ now + 19) (hs : 1 ≤ span ∧ span ≤ 10) : asked E H U who t span = 0 := by
  have := h.clock
  exact asked_of (h.right hj) hw.1 hw.2 (by omega) (by omega) (by omega) (by omega)

theorem LI.acquire {j : Nat} {now E H U : Int} {ns : List Int} (h : LI j now E H U ns) (hj : j < 80) {who t span : Int} (hw : 1 ≤ who ∧ who ≤ 3) (ht : now ≤ t ∧ t ≤ now + 19) (hs : 1 ≤ span ∧ span ≤ 10) :
    (t < U → acquireF E H U who t span = (311, 0, 0, 0)) ∧ (¬ t < U → acquireF E H U who t span = (0, E + 1, who, t + span) ∧ LI (j + 1) t (E + 1) who (t + span) (ns ++ [who])) := by
  have ha := h.asked (by omega) hw ht hs
  have h1 := h.len; have h2 := h.cnt; have h3 := h.clock; have h4 := h.till
  have hne : ¬ E = 2147483647 := by omega
  unfold acquireF acq
  rw [ha]
  refine ⟨fun hl => by simp [hl], fun hl => ⟨by simp [hl, hne], ?_⟩⟩
  refine ⟨by simp; omega, by simp; omega, by omega, by omega, ?_, fun e => by simp at e, fun i hi => ?_⟩
  · intro x hx
    simp at hx
    rcases hx with hx | rfl
    · exact h.nums x hx
    · exact hw
  · simp at hi
    subst hi
    simp

theorem LI.same {j : Nat} {now E H U : Int} {ns : List Int} (h : LI j now E H U ns) {t : Int} (ht : now ≤ t ∧ t ≤ now + 19) : LI (j + 1) t E H U ns := by
  have h2 := h.cnt; have h3 := h.clock; have h4 := h.till
  exact ⟨h.len, by omega, by omega, by omega, h.nums, h.none, h.last⟩

theorem LI.till' {j : Nat} {now E H U : Int} {ns : List Int} (h : LI j now E H U ns) {t V : Int} (ht : now ≤ t ∧ t ≤ now + 19) (hn : ns ≠ []) (hV : 0 ≤ V ∧ V ≤ 19 * (j + 1 : Nat) + 10) : LI (j + 1) t E H V ns := by
  have h2 := h.cnt; have h3 := h.clock
  exact ⟨h.len, by omega, by omega, hV, h.nums, fun e => absurd e hn, h.last⟩

/-- Whether the i-th of those who acquired is the one with the last epoch. -/
theorem LI.refu_last {j : Nat} {now E H U : Int} {ns : List Int} (h : LI j now E H U ns) {i : Nat} {x : Int} (hx : ns[i]? = some x) (t : Int) :
    refu E H U x (i + 1 : Nat) t = if i + 1 = ns.length then (if t < U then 0 else 313) else 312 := by
  have h1 := h.len
  unfold refu
  by_cases hi : i + 1 = ns.length
  · have := h.last i hi
    rw [hx] at this
    have := Option.some.inj this
    rw [if_pos ⟨by omega, this⟩, if_pos hi]
  · rw [if_neg (by omega), if_neg hi]

theorem LI.refu_none {j : Nat} {now E H U : Int} {ns : List Int} (h : LI j now E H U ns) (hn : ns = []) {who : Int} (hw : 1 ≤ who) (t : Int) : refu E H U who 0 t = 312 := by
  obtain ⟨a, b⟩ := h.none hn
  unfold refu
  rw [if_neg (by omega)]

theorem LI.renew_no {j : Nat} {now E H U : Int} {ns : List Int} (h : LI j now E H U ns) (hj : j < 80) {who ep t span : Int} (hw : 1 ≤ who ∧ who ≤ 3) (ht : now ≤ t ∧ t ≤ now + 19) (hs : 1 ≤ span ∧ span ≤ 10) (hr : refu E H U who ep t ≠ 0) :
    renewF E H U who ep t span = (refu E H U who ep t, 0, 0, 0) := by
  have ha := h.asked (by omega) hw ht hs
  unfold renewF renX ren
  rw [ha]
  simp [hr]

theorem LI.renew_yes {j : Nat} {now E H U : Int} {ns : List Int} (h : LI j now E H U ns) (hj : j < 80) {who ep t span : Int} (hw : 1 ≤ who ∧ who ≤ 3) (ht : now ≤ t ∧ t ≤ now + 19) (hs : 1 ≤ span ∧ span ≤ 10) (hr : refu E H U who ep t = 0) (hn : ns ≠ []) :
    ∃ V, renewF E H U who ep t span = (0, E, H, V) ∧ t < V ∧ LI (j + 1) t E H V ns := by
  have ha := h.asked (by omega) hw ht hs
  have h3 := h.clock; have h4 := h.till
  refine ⟨if t + span > U then t + span else U, ?_, ?_, h.till' ht hn ?_⟩
  · unfold renewF renX ren
    rw [ha]
    simp [hr]
  · have : t < U := by
      unfold refu at hr
      split at hr
      · split at hr
        · assumption
        · simp at hr
      · simp at hr
    split <;> omega
  · split <;> omega

theorem LI.yield_no {j : Nat} {now E H U : Int} {ns : List Int} (h : LI j now E H U ns) (hj : j < 80) {who ep t : Int} (hw : 1 ≤ who ∧ who ≤ 3) (ht : now ≤ t ∧ t ≤ now + 19) (hr : refu E H U who ep t ≠ 0) :
    yieldF E H U who ep t = (refu E H U who ep t, 0, 0, 0) := by
  have ha := h.asked (by omega) hw ht (span := 1) (by omega)
  unfold yieldF yieX yie
  rw [ha]
  simp [hr]

theorem LI.yield_yes {j : Nat} {now E H U : Int} {ns : List Int} (h : LI j now E H U ns) (hj : j < 80) {who ep t : Int} (hw : 1 ≤ who ∧ who ≤ 3) (ht : now ≤ t ∧ t ≤ now + 19) (hr : refu E H U who ep t = 0) (hn : ns ≠ []) :
    yieldF E H U who ep t = (0, E, H, t) ∧ LI (j + 1) t E H t ns := by
  have ha := h.asked (by omega) hw ht (span := 1) (by omega)
  have h3 := h.clock; have h4 := h.till
  refine ⟨?_, h.till' ht hn (by omega)⟩
  unfold yieldF yieX yie
  rw [ha]
  simp [hr]

theorem LI.holds {j : Nat} {now E H U : Int} {ns : List Int} (h : LI j now E H U ns) (hj : j ≤ 80) {i : Nat} {x : Int} (hx : ns[i]? = some x) (t : Int) :
    holdsF E H U x (i + 1 : Nat) t = (decide (i + 1 = ns.length) && decide (t < U)) := by
  have h1 := h.len
  unfold holdsF
  rw [h.right hj, Bool.true_and]
  by_cases hi : i + 1 = ns.length
  · have := h.last i hi
    rw [hx] at this
    have := Option.some.inj this
    have e : E = (i + 1 : Nat) := by omega
    simp [hi, this, h1]
  · have e : ¬ E = (i + 1 : Nat) := by omega
    simp [hi]
    intro e2; omega

theorem LI.stale {j : Nat} {now E H U : Int} {ns : List Int} (h : LI j now E H U ns) (hj : j ≤ 80) (i : Nat) : staleF E H U (i + 1 : Nat) = decide (i + 1 < ns.length) := by
  have h1 := h.len
  unfold staleF
  rw [h.right hj]
  by_cases hi : i + 1 < ns.length <;> simp [hi] <;> omega

theorem LI.left {j : Nat} {now E H U : Int} {ns : List Int} (h : LI j now E H U ns) (hj : j ≤ 80) : leftF E H U now = if now < U then U - now else 0 := by
  have h3 := h.clock
  unfold leftF
  rw [h.right hj]
  by_cases hl : now < U
  · simp [hl]; omega
  · simp [hl]

theorem LI.check {j : Nat} {now E H U : Int} {ns : List Int} (h : LI j now E H U ns) (hj : j ≤ 80) : chk E H U = 0 := by
  unfold chk; rw [h.right hj]; rfl

end Go.Proofs.Ytgeieeohaeeccaa
