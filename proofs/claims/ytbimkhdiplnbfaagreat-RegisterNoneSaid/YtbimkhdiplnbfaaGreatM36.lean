/- Walks: all of a log. -/
import Derived.Test.YtbimkhdiplnbfaaGreatM26
import Derived.Test.YtbimkhdiplnbfaaGreatM35
set_option linter.unusedVariables false
set_option linter.unusedSimpArgs false

section
namespace Go.Proofs.YtbimkhdiplnbfaaGreat
set_option maxRecDepth 100000
open Go.RowKit Go.Shelf

attribute [local go_sem] Oper.semAt_some

theorem upd_put {W : World} {l : Nat} (o : Obj) : Upd (fun k => k = l) W (W.putObj l o) := Upd.of_grown (grownBy_putObj' W l o) (fun k hk => by injection hk with hk; exact hk.symm)

end Go.Proofs.YtbimkhdiplnbfaaGreat
end

section
namespace Go.Proofs.YtbimkhdiplnbfaaGreat
set_option maxRecDepth 100000
open Go.RowKit Go.Shelf

theorem len_le_used (l : List (List Int)) : (l.length : Int) ≤ usedOf l := by
  induction l with
  | nil => simp [usedOf]
  | cons b l ih =>
    have := secsN_pos b.length
    rw [usedOf_cons]
    simp
    omega

end Go.Proofs.YtbimkhdiplnbfaaGreat
end

section
namespace Go.Proofs.YtbimkhdiplnbfaaGreat
set_option maxRecDepth 100000
open Go.RowKit

theorem law_fmt {D : Dk} {N area : Nat} (hg : D.Good N) (ha : 4 ≤ area ∧ area ≤ 1000) (hN : 2 + 2 * area ≤ N) : LawD (fmtX area) 1 (fmtD D area 3).S := by
  have b1 := zl_bound (area := area) (N := N) hN
  have b2 : ∀ x ∈ raw (partSc (fmtH area) 1 0 true [] bytes_nil), 0 ≤ x.1 ∧ x.1 < N := partSc_bound bytes_nil (by show (1 : Int) ≤ area; omega) (by show (2 : Int) + 2 * area ≤ N; omega)
  have b3 : ∀ x ∈ raw [headSc (fmtH area)], 0 ≤ x.1 ∧ x.1 < N := headSc_bound (by omega)
  obtain ⟨_, g1⟩ := hg.lays _ (by omega) b1
  obtain ⟨_, g2⟩ := g1.lays _ (by omega) b2
  have hz : ∀ i : Int, 0 ≤ i → i < 2 + 2 * area → (D.lays (fmt1 area)).S i = zblk := fun i h1 h2 => by
    show (D.lays (raw (zl area))).S i = zblk
    rw [hg.S_lays _ b1 i h1 (by omega)]
    exact layS_zl h1 h2
  refine (LawD.fmt ha hz).congr (fun i h1 h2 => ?_)
  have h2' : i < 2 + 2 * (area : Int) := h2
  show (((D.lays (raw (zl area))).lays (raw (partSc (fmtH area) 1 0 true [] bytes_nil))).lays (raw [headSc (fmtH area)])).S i = _
  rw [Dk.Good.S_lays _ g2 b3 i h1 (by omega)]
  refine layS_congr (N := N) _ _ _ (fun j h3 h4 => ?_) i h1 (by omega)
  rw [Dk.Good.S_lays _ g1 b2 j h3 h4, partL_raw]
  rfl

theorem law_app {X : Lg} {τ : Int} {D : Dk} {N : Nat} (h : LawD X τ D.S) (hg : D.Good N) (hN : 2 + 2 * X.h.area ≤ N) {b : List Int} (hb : Bytes b) (hl : b.length ≤ 40000) (hr : X.used + secsN b.length ≤ X.h.area) (hn : X.h.number + X.parts.length + 1 ≤ 2000000000) : LawD (X.add b) 1 (D.lays (X.apS b hb)).S := by
  have ha := h.says.area
  refine (h.add (τ' := 1) hl hr hn (by omega)).congr (fun i h1 h2 => ?_)
  have h2' : i < 2 + 2 * X.h.area := h2
  unfold Lg.apS
  rw [hg.S_lays _ (partSc_bound hb (by omega) hN) i h1 (by omega), partL_raw]

theorem shows_far {D : Dk} {K : Nat} (h : D.Ok K) {i : Nat} (hi : D.arr.length ≤ i) : D.shows i = [] := by
  have e : D.row.filter (fun x => x.1 == i) = [] := by
    rw [List.filter_eq_nil_iff]
    intro x hx
    have := (h.rblks x hx).2.1
    simp; omega
  unfold Dk.shows Dk.vers
  rw [e, List.getD_eq_getElem?_getD, List.getElem?_eq_none hi]
  rfl

theorem startN_nonneg {D : Dk} {K : Nat} (h : D.Ok K) (i : Int) : 0 ≤ startN (D.S i) := by
  unfold startN Dk.S
  by_cases hi : i.toNat < D.arr.length
  · exact be_nonneg (fun x hx => (shows_blk h hi).2 x (List.mem_of_mem_drop hx))
  · rw [shows_far h (by omega)]
    show (0 : Int) ≤ 0
    omega

theorem openD_law {X : Lg} {τ : Int} {D : Dk} {N K : Nat} (h : LawD X τ D.S) (hg : D.Good N) (hok : D.Ok K) (hN : 2 + 2 * X.h.area ≤ N) (ht : X.h.turn < 1073741824) (hτ : τ ≤ X.h.turn + 1) :
    ∃ D', openD D = (some X.on, 0, D') ∧ D'.Good N ∧ LawD X.on (X.h.turn + 1) D'.S := by
  have ha := h.says.area
  obtain ⟨e0, g0, r0, s0⟩ := hg.callR (i := 0) (by omega)
  obtain ⟨e1, g1, r1, s1⟩ := g0.callR (i := 1) (by omega)
  have hc := h.counts
  obtain ⟨D2, f1, f2, f3, f4⟩ := foundD_good (h := X.h) (N := N) (by omega) hN 1001 [] 0 ((D.callD 0 false).callD 1 false) (by omega) g1
  have hlen : (X.parts.length : Int) ≤ X.used := by rw [h.sum]; exact len_le_used _
  have hfit := h.fits
  rw [s1, s0, h.found (startN_nonneg hok) (by omega)] at f1
  rw [s1, s0] at f3
  have hb := headSc_bound (h := X.on.h) (N := N) (by omega)
  obtain ⟨l1, l2⟩ := f2.lays (raw [headSc X.on.h]) (by omega) hb
  have hlaw := h.opened ht hτ
  refine ⟨D2.lays (raw [headSc X.on.h]), ?_, l2, hlaw.congr (fun i h1 h2 => ?_)⟩
  · unfold openD
    rw [if_pos e0, if_pos e1, r0, r1, s0, hc]
    unfold openH
    rw [if_neg (by have := g1.len; simp; omega)]
    show openP X.h (foundD X.h 1001 [] 0 _) = _
    rw [f1]
    unfold openP
    rw [if_pos rfl, if_neg (by have := h.one; simp; exact ⟨this, by omega⟩)]
    unfold openL
    rw [if_pos (by exact l1)]
    unfold Lg.on
    rw [h.sum]
    rfl
  · have h2' : i < 2 + 2 * X.h.area := h2
    rw [Dk.Good.S_lays _ f2 hb i h1 (by omega), f3]
    rfl

theorem open_good {p N K : Nat} {X : Lg} {τ : Int} {D : Dk} {F : Nat → Prop} (w : World) (hD : Dsk w p D F) (h : LawD X τ D.S) (hg : D.Good N) (hok : D.Ok K) (hK : K ≤ 1000000000) (hN : 2 + 2 * X.h.area ≤ N) (ht : X.h.turn < 1073741824) (hτ : τ ≤ X.h.turn + 1) :
    Calls Tryz.prog 61 #[.pointer (some ⟨p, 0, none⟩)] w fun e w' => ∃ q D' G' F', e = .returned (.tuple #[.pointer (some ⟨q, 0, none⟩), .int .i64 0]) ∧ WalG w' q p X.on D' G' F' N (K + 1002000) ∧ LawD X.on (X.h.turn + 1) D'.S ∧ (∀ k, G' k → w.heap.size ≤ k) ∧ (∀ k, F' k → F k ∨ w.heap.size ≤ k) ∧ Upd F w w' := by
  obtain ⟨D', e1, e2, e3⟩ := openD_law h hg hok hN ht hτ
  refine (open_any w hD hok (by omega)).mono ?_
  rintro e w' hx
  rw [e1] at hx
  obtain ⟨F', h1, h2, h3, h4, q, G', rfl, h5, h6, h7, h8⟩ := hx
  exact ⟨q, D', G', F', rfl, ⟨⟨h5, h1, h7⟩, h8, rfl, e2, h4, hN⟩, e3, h6, h2, h3⟩

end Go.Proofs.YtbimkhdiplnbfaaGreat
end

