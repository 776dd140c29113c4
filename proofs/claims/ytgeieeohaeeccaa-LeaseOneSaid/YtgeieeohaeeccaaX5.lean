/- Walks of the lease laws, 5: LeaseKeeps, joined. -/
import Derived.Test.YtgeieeohaeeccaaX4
namespace Go.Proofs.Ytgeieeohaeeccaa
open Go.RowKit

theorem asked_of {e o u who now span : Int} (hr : right e o u = true) (h1 : 1 ≤ who) (h2 : who ≤ 3) (h3 : 0 ≤ now) (h4 : now ≤ 1099511627676) (h5 : 1 ≤ span) (h6 : span ≤ 100) : asked e o u who now span = 0 := by
  unfold asked
  rw [if_neg (by simp [hr]), if_neg (by omega)]

theorem renew_cases (e o u who ep now span : Int) : (∃ c, c ≠ 0 ∧ renewF e o u who ep now span = (c, 0, 0, 0)) ∨
    (asked e o u who now span = 0 ∧ ep = e ∧ who = o ∧ now < u ∧ renewF e o u who ep now span = (0, e, o, if now + span > u then now + span else u)) := by
  by_cases ha : asked e o u who now span = 0
  · by_cases hf : refu e o u who ep now = 0
    · right
      have h0 := hf
      unfold refu at hf
      split at hf
      · rename_i h1
        split at hf
        · rename_i h2
          refine ⟨ha, h1.1, h1.2, h2, ?_⟩
          simp [renewF, renX, ren, ha, h0]
        · simp at hf
      · simp at hf
    · left
      exact ⟨refu e o u who ep now, hf, by simp [renewF, renX, ren, ha, hf]⟩
  · left
    exact ⟨asked e o u who now span, ha, by simp [renewF, ha]⟩

theorem right_mk {e o u : Int} (h1 : 1 ≤ e) (h2 : e ≤ 2147483647) (h3 : 1 ≤ o) (h4 : o ≤ 3) (h5 : 0 ≤ u) (h6 : u ≤ 1099511627776) : right e o u = true := by
  unfold right
  rw [if_neg (by omega)]
  simp; omega

theorem leaseKeeps_any (e o u who ep now span : Int) (w : World) (he : 0 ≤ e) :
    Calls Try.prog 6 #[.agg #[.int .u64 e, .int .i64 o, .int .i64 u], .agg #[.int .i64 who, .int .u64 ep], .agg #[.int .i64 now, .int .i64 span]] w fun en w' => en = .returned (.bool true) ∧ Below w.heap.size w w' := by
  rcases renew_cases e o u who ep now span with ⟨c, hc, hr⟩ | ⟨ha, h1, h2, h3, hr⟩
  · exact leaseKeeps_no e o u who ep now span c w he hr (by simp [hc])
  · obtain ⟨g0, g1, g2, g3, g4, g5, g6⟩ := asked_zero ha
    obtain ⟨k0, k1, k2, k3, k4, k5⟩ := right_bd g0
    subst h1; subst h2
    have hep : 1 ≤ ep := by
      unfold right at g0
      split at g0
      · simp at g0; omega
      · omega
    generalize hv : (if now + span > u then now + span else u) = v at hr
    have hv1 : u ≤ v ∧ now + span ≤ v ∧ v ≤ 1099511627776 ∧ (v = u ∨ v = now + span) := by
      subst hv; split <;> omega
    have rv : right ep who v = true := right_mk hep k1 g1 g2 (by omega) (by omega)
    have rn : right ep who now = true := right_mk hep k1 g1 g2 (by omega) (by omega)
    have hD1 : leftF ep who v now = v - now := by
      unfold leftF; rw [if_pos ⟨rv, by omega⟩]; omega
    have hD2 : leftF ep who u now = u - now := by
      unfold leftF; rw [if_pos ⟨g0, by omega⟩]; omega
    have ay : asked ep who v who now 1 = 0 := asked_of rv g1 g2 g3 g4 (by omega) (by omega)
    have hy : yieldF ep who v who ep now = (0, ep, who, now) := by
      have hv2 : now < v := by omega
      simp [yieldF, yieX, yie, refu, ay, hv2]
    have hh : holdsF ep who now who ep now = false := by simp [holdsF]
    have aa : asked ep who now (who % 3 + 1) now span = 0 := asked_of rn (by omega) (by omega) g3 g4 g5 g6
    by_cases hm : ep = 2147483647
    · refine leaseKeeps_max ep who u v who ep now span _ _ w he hr hD1 hD2 (by omega) (by omega) hy hh g1 g2 k1 (by simp [hm]) ?_
      have : acq ep who now (who % 3 + 1) now span = (6, ep, who, now) := by simp [acq, hm]
      simp only [acquireF, aa, this]; simp
    · refine leaseKeeps_go ep who u v who ep now span _ _ w he hr hD1 hD2 (by omega) (by omega) hy hh g1 g2 k1 (by simp [hm]) ?_ ?_
      · have : acq ep who now (who % 3 + 1) now span = (0, ep + 1, who % 3 + 1, now + span) := by simp [acq, hm]
        simp only [acquireF, aa, this]; simp
      · unfold staleF; simp; right; omega

end Go.Proofs.Ytgeieeohaeeccaa
