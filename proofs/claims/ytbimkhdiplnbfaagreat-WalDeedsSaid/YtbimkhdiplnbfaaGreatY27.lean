/- The law of logs, where the power goes: what stands on a disk behind it. -/
import Derived.Test.YtbimkhdiplnbfaaGreatY5
import Derived.Test.YtbimkhdiplnbfaaGreatY21
import Derived.Test.YtbimkhdiplnbfaaGreatY26
set_option linter.unusedVariables false
set_option linter.unusedSimpArgs false
namespace Go.Proofs.YtbimkhdiplnbfaaGreat
set_option maxRecDepth 1000000
set_option maxHeartbeats 16000000
section
open Go.RowKit
theorem callD_arr (D : Dk) (i : Int) (wr : Bool) : (D.callD i wr).arr = D.arr ∧ (D.callD i wr).row = D.row := by
 unfold Dk.callD
 split
 ·exact ⟨rfl, rfl⟩
 ·split
  ·exact ⟨rfl, rfl⟩
  ·split
   ·exact ⟨rfl, rfl⟩
   ·split <;> exact ⟨rfl, rfl⟩
theorem write_len (D : Dk) (i : Int) (b : List Int) : (D.write i b).arr.length = D.arr.length := by
 unfold Dk.write
 split
 ·show (D.callD i true).arr.length = _
  rw [(callD_arr D i true).1]
 ·rw [(callD_arr D i true).1]
theorem sync_len (D : Dk) : D.sync.arr.length = D.arr.length := by
 unfold Dk.sync
 split
 ·show ((List.range (D.callD 0 true).arr.length).map _).length = _
  rw [(callD_arr D 0 true).1]; simp
 ·rw [(callD_arr D 0 true).1]
theorem lays_len : ∀ (l : List (Int × List Int)) (D : Dk), (D.lays l).arr.length = D.arr.length
 | [], D => sync_len D
 | (i, b) :: l, D => by
  unfold Dk.lays
  split
  ·rw [lays_len l, write_len]
  ·exact write_len D i b
/-! ### Sectors laid without an error -/
end
section
open Go.RowKit Go.Shelf
theorem openL_err {hd : Hd} {ps : List (List Int)} {D : Dk} (h : (openL hd ps D).1 = none) : (openL hd ps D).2.1 ≠ 0 := by
 unfold openL at h ⊢
 split at h
 ·cases h
 ·rename_i h1
  rw [if_neg h1]
  exact h1
theorem openL_some {hd : Hd} {ps : List (List Int)} {D : Dk} {X : Lg} (h : (openL hd ps D).1 = some X) : X.parts = ps ∧ X.broken = false := by
 unfold openL at h
 split at h
 ·injection h with h
  subst h
  exact ⟨rfl, rfl⟩
 ·cases h
theorem openP_err {hd : Hd} {R : List (List Int) × Int × Dk} (h : (openP hd R).1 = none) : (openP hd R).2.1 ≠ 0 := by
 unfold openP at h ⊢
 split at h
 ·rename_i h1
  rw [if_pos h1]
  split at h
  ·rename_i h2
   rw [if_pos h2]
   show (140 : Int) ≠ 0
   decide
  ·rename_i h2
   rw [if_neg h2]
   exact openL_err h
 ·rename_i h1
  rw [if_neg h1]
  exact h1
theorem openP_some {hd : Hd} {R : List (List Int) × Int × Dk} {X : Lg} (h : (openP hd R).1 = some X) : X.parts ≠ [] ∧ X.broken = false := by
 unfold openP at h
 split at h
 ·split at h
  ·cases h
  ·rename_i h2
   obtain ⟨h3, h4⟩ := openL_some h
   exact ⟨by rw [h3]; exact fun e => h2 (.inl e), h4⟩
 ·cases h
theorem openH_err {c : Hd × Bool} {D : Dk} (h : (openH c D).1 = none) : (openH c D).2.1 ≠ 0 := by
 unfold openH at h ⊢
 split at h
 ·rename_i h1
  rw [if_pos h1]
  show (140 : Int) ≠ 0
  decide
 ·rename_i h1
  rw [if_neg h1]
  exact openP_err h
theorem openH_some {c : Hd × Bool} {D : Dk} {X : Lg} (h : (openH c D).1 = some X) : X.parts ≠ [] ∧ X.broken = false := by
 unfold openH at h
 split at h
 ·cases h
 ·exact openP_some h
theorem openD_err {D : Dk} (h : (openD D).1 = none) : (openD D).2.1 ≠ 0 := by
 unfold openD at h ⊢
 split at h
 ·rename_i h1
  rw [if_pos h1]
  split at h
  ·rename_i h2
   rw [if_pos h2]
   exact openH_err h
  ·rename_i h2
   rw [if_neg h2]
   exact h2
 ·rename_i h1
  rw [if_neg h1]
  exact h1
theorem openD_some {D : Dk} {X : Lg} (h : (openD D).1 = some X) : X.parts ≠ [] ∧ X.broken = false := by
 unfold openD at h
 split at h
 ·split at h
  ·exact openH_some h
  ·cases h
 ·cases h
structure LgI (N : Nat) (X : Lg) : Prop where
 ok : X.Ok
 used : X.used = usedOf X.parts
 fits : X.used ≤ X.h.area
 room : 2 + 2 * X.h.area ≤ N
theorem usedOf_len : ∀ l : List (List Int), (l.length : Int) ≤ usedOf l
 | [] => by simp [usedOf]
 |b :: l => by
  have h1 := usedOf_len l
  have h2 := secsN_pos b.length
  rw [usedOf_cons, List.length_cons]
  omega
theorem LgI.few {N : Nat} {X : Lg} (h : LgI N X) (hN : N ≤ 1000) : X.parts.length < 1000 := by
 have h1 := usedOf_len X.parts
 have h2 := h.used; have h3 := h.fits; have h4 := h.room
 omega
theorem LgI.brk {N : Nat} {X : Lg} (h : LgI N X) : LgI N (X.brk true) := ⟨⟨h.ok.turn, h.ok.area, h.ok.place, h.ok.number, h.ok.used, h.ok.len, h.ok.bytes⟩, h.used, h.fits, h.room⟩
theorem LgI.after {N : Nat} {X : Lg} {b : List Int} {E : Int} (h : LgI N X) (hN : N ≤ 1000) (hb : Bytes b) (hr : X.refuses b.length X.used = 0) : LgI N (X.after b E) := by
 unfold Lg.after
 split
 ·have h1 : b.length ≤ 40000 ∧ X.used + (secsN b.length : Int) ≤ X.h.area := by
   unfold Lg.refuses at hr
   split at hr
   ·cases hr
   split at hr
   ·cases hr
   split at hr
   ·cases hr
   omega
  refine ⟨h.ok.add hb h1.1 h1.2 (h.few hN), ?_, ?_, h.room⟩
  ·show X.used + (secsN b.length : Int) = usedOf (X.parts ++ [b])
   rw [usedOf_append, usedOf_cons, usedOf_nil, h.used]; omega
  ·show X.used + (secsN b.length : Int) ≤ X.h.area
   omega
 ·exact h.brk
theorem LgI.cp {N : Nat} {X : Lg} {b : List Int} {E : Int} (h : LgI N X) (hb : Bytes b) (hr : X.refuses b.length 0 = 0) (ht : X.h.turn ≠ 1073741824) : LgI N (X.cp b E) := by
 unfold Lg.cp
 split
 ·have h1 : b.length ≤ 40000 ∧ (0 : Int) + (secsN b.length : Int) ≤ X.h.area ∧ X.h.number + X.parts.length ≤ 1073741824 := by
   unfold Lg.refuses at hr
   split at hr
   ·cases hr
   split at hr
   ·cases hr
   split at hr
   ·cases hr
   omega
  have ha := h.ok.area; have htn := h.ok.turn; have hnm := h.ok.number
  have hs := secsN_pos b.length
  refine ⟨⟨⟨?_, ?_⟩, ha, ⟨?_, ?_⟩, ⟨?_, ?_⟩, ⟨?_, ?_⟩, by simp [Lg.add], fun x hx => ?_⟩, ?_, ?_, h.room⟩
  ·show 0 ≤ X.h.turn + 1
   omega
  ·show X.h.turn + 1 ≤ 1073741824
   omega
  ·exact Int.emod_nonneg _ (by omega)
  ·have := Int.emod_lt_of_pos (X.h.place + X.used) (b := 2 * X.h.area) (by omega)
   show (X.h.place + X.used) % (2 * X.h.area) ≤ 100000
   omega
  ·show 0 ≤ X.h.number + X.parts.length
   omega
  ·show X.h.number + (X.parts.length : Int) ≤ 1073741825
   omega
  ·show 0 ≤ (0 : Int) + secsN b.length
   omega
  ·show (0 : Int) + secsN b.length ≤ 1000
   omega
  ·have hx2 : x = b := by simpa [Lg.add] using hx
   rw [hx2]
   exact ⟨hb, h1.1⟩
  ·show (0 : Int) + secsN b.length = usedOf ([] ++ [b])
   rw [List.nil_append, usedOf_cons, usedOf_nil]; omega
  ·show (0 : Int) + (secsN b.length : Int) ≤ X.h.area
   omega
 ·exact h.brk
theorem foundD_fits {h : Hd} : ∀ (f : Nat) (ps : List (List Int)) (u : Int) (D : Dk), u = usedOf ps → u ≤ h.area → usedOf (foundD h f ps u D).1 ≤ h.area
 | 0, ps, u, D, e, hu => by
  show usedOf ps ≤ _
  omega
 |f + 1, ps, u, D, e, hu => by
  have hw := fun b => wholeD_some (hd := h) (number := h.number + ps.length) (place := h.place + u) (snap := decide (ps = [])) (left := h.area - u) (D := D) (b := b)
  unfold foundD
  split
  ·rename_i b E D' heq
   have h1 := hw b (by rw [heq])
   exact foundD_fits f _ _ D' (by rw [usedOf_append, usedOf_cons, usedOf_nil]; omega) (by omega)
  ·show usedOf ps ≤ _
   omega
theorem callD_len (D : Dk) (i : Int) (wr : Bool) : (D.callD i wr).arr.length = D.arr.length := by
 unfold Dk.callD
 repeat' split
 all_goals rfl
theorem goD_len (h : Hd) (number place turn : Int) (snap : Bool) : ∀ (m k : Nat) (b : List Int) (D : Dk), (goD h number place turn snap m k b D).2.2.arr.length = D.arr.length
 | 0, _, _, _ => rfl
 |m + 1, k, b, D => by
  unfold goD
  split
  ·split
   ·rw [goD_len, callD_len]
   ·exact callD_len _ _ _
  ·exact callD_len _ _ _
theorem wholeD_alen (h : Hd) (number place left : Int) (snap : Bool) (D : Dk) : (wholeD h number place snap left D).2.2.arr.length = D.arr.length := by
 unfold wholeD
 split
 ·rfl
 split
 ·split
  ·split
   ·rw [goD_len, callD_len]
   ·exact callD_len _ _ _
  ·exact callD_len _ _ _
 ·exact callD_len _ _ _
theorem foundD_alen {h : Hd} : ∀ (f : Nat) (ps : List (List Int)) (u : Int) (D : Dk), (foundD h f ps u D).2.2.arr.length = D.arr.length
 | 0, _, _, _ => rfl
 |f + 1, ps, u, D => by
  have hw := wholeD_alen h (h.number + ps.length) (h.place + u) (h.area - u) (decide (ps = [])) D
  unfold foundD
  split
  ·rename_i b E D' heq
   rw [heq] at hw
   exact (foundD_alen f _ _ D').trans hw
  ·rename_i E D' heq
   rw [heq] at hw
   exact hw
theorem openL_I {N : Nat} {hd : Hd} {ps : List (List Int)} {D : Dk} {X : Lg} (h : (openL hd ps D).1 = some X) (hok : X.Ok) (hf : usedOf ps ≤ hd.area) (hr : 2 + 2 * hd.area ≤ N) : LgI N X := by
 unfold openL at h
 split at h
 ·injection h with h
  subst h
  exact ⟨hok, rfl, hf, hr⟩
 ·cases h
theorem openP_I {N : Nat} {hd : Hd} {R : List (List Int) × Int × Dk} {X : Lg} (h : (openP hd R).1 = some X) (hok : X.Ok) (hf : usedOf R.1 ≤ hd.area) (hr : 2 + 2 * hd.area ≤ N) : LgI N X := by
 unfold openP at h
 split at h
 ·split at h
  ·cases h
  ·exact openL_I h hok hf hr
 ·cases h
theorem openL_len (hd : Hd) (ps : List (List Int)) (D : Dk) : (openL hd ps D).2.2.arr.length = D.arr.length := by
 unfold openL
 split <;> exact lays_len _ _
theorem openP_len (hd : Hd) (R : List (List Int) × Int × Dk) : (openP hd R).2.2.arr.length = R.2.2.arr.length := by
 unfold openP
 split
 ·split
  ·rfl
  ·exact openL_len _ _ _
 ·rfl
theorem openH_len (c : Hd × Bool) (D : Dk) : (openH c D).2.2.arr.length = D.arr.length := by
 unfold openH
 split
 ·rfl
 ·rw [openP_len, foundD_alen]
theorem openD_len (D : Dk) : (openD D).2.2.arr.length = D.arr.length := by
 unfold openD
 split
 ·split
  ·rw [openH_len, callD_len, callD_len]
  ·exact (callD_len _ _ _).trans (callD_len _ _ _)
 ·exact callD_len _ _ _
theorem openD_I {D : Dk} {X : Lg} (h : (openD D).1 = some X) (hok : X.Ok) (ha : 0 ≤ X.h.area) : LgI D.arr.length X := by
 unfold openD at h
 split at h
 ·split at h
  ·have hl : ((D.callD 0 false).callD 1 false).arr.length = D.arr.length := by rw [callD_len, callD_len]
   unfold openH at h
   split at h
   ·cases h
   ·rename_i hc
    have hc2 : 2 + 2 * (countsF (D.reads 0) ((D.callD 0 false).reads 1)).1.area ≤ D.arr.length := by
     rw [← hl]
     omega
    have hx : X.h.area = (countsF (D.reads 0) ((D.callD 0 false).reads 1)).1.area := by
     unfold openP at h
     split at h
     ·split at h
      ·cases h
      ·unfold openL at h
       split at h
       ·injection h with h
        rw [← h]
       ·cases h
     ·cases h
    refine openP_I h hok (foundD_fits _ _ _ _ rfl ?_) hc2
    rw [← hx]
    exact ha
  ·cases h
 ·cases h
theorem crash_len (D : Dk) (keep : List Bool) : (D.crash keep).arr.length = D.arr.length := by simp [Dk.crash, Dk.arrive]
theorem cpD_len (X : Lg) (D : Dk) (b : List Int) (hb : Bytes b) : (X.cpD D b hb).arr.length = D.arr.length := by
 unfold Lg.cpD
 split
 ·rw [lays_len, lays_len]
 ·exact lays_len _ _
end
end Go.Proofs.YtbimkhdiplnbfaaGreat
