/- Walks of the disk: Write, Read, over the disk as a value. -/
import Derived.Test.YtbimkhdiplnbfaaB3
namespace Go.Proofs.Ytbimkhdiplnbfaa
open Go.RowKit

def Dk.callE (D : Dk) (i : Int) (wr : Bool) : Int :=
  if D.dead then 9 else if i < 0 ∨ (D.arr.length : Int) ≤ i then 2 else if wr = true ∧ D.arm = 0 then 9 else if D.fail = 0 then 8 else 0
/-- The disk's numbers behind a call. -/
def Dk.callD (D : Dk) (i : Int) (wr : Bool) : Dk :=
  if D.dead then D else if i < 0 ∨ (D.arr.length : Int) ≤ i then D else
  if wr = true ∧ D.arm = 0 then { D with fail := max (D.fail - 1) (-1), dead := true } else
  if D.fail = 0 then { D with fail := -1 } else
  { D with fail := max (D.fail - 1) (-1), ops := D.ops + 1, arm := if wr = true then max (D.arm - 1) (-1) else D.arm }
/-- Is what a call is for done? -/
def Dk.callR (D : Dk) (i : Int) (wr : Bool) : Bool :=
  !D.dead && decide (¬ (i < 0 ∨ (D.arr.length : Int) ≤ i)) && (decide (wr = true ∧ D.arm = 0) || decide (D.fail ≠ 0))

def Dk.send (D : Dk) (i : Nat) (b : List Int) : Dk := { D with row := D.row ++ [(i, b, D.sent + 1)], sent := D.sent + 1 }
def Dk.write (D : Dk) (i : Int) (b : List Int) : Dk := if D.callR i true then (D.callD i true).send i.toNat b else D.callD i true

def bcells (b : List Int) : List Value := b.map (Value.int .u8)
theorem bcells_length (b : List Int) : (bcells b).length = b.length := by simp [bcells]
theorem bcells_one (b : List Int) : ∀ u ∈ bcells b, u.oneCell' = true := by
  intro u hu; simp [bcells] at hu; obtain ⟨x, _, rfl⟩ := hu; rfl

theorem vers_send_other (D : Dk) (i j : Nat) (b : List Int) (h : j ≠ i) : (D.send i b).vers j = D.vers j := by
  simp [Dk.send, Dk.vers, List.filter_append, Ne.symm h]
theorem vers_send_same (D : Dk) (i : Nat) (b : List Int) : (D.send i b).vers i = D.vers i ++ [(b, D.sent + 1)] := by
  simp [Dk.send, Dk.vers, List.filter_append]

theorem updF_self {α : Type} (f : Nat → α) (i : Nat) (x : α) : (fun j => if j = i then x else f j) i = x := by simp

/-- Behind a block that was sent. -/
theorem DiskAt.sent {w w' : World} {p s : Nat} {D : Dk} {g c : Nat → Nat} (h : DiskAt w p D s g c) {k : Nat} (hk : k < D.arr.length) {b : List Int} {g' cap' : Nat}
    (hp : w'.heap[p]? = some (mainObj s D.arr.length (D.sent + 1) D.ops D.arm D.fail D.dead))
    (hs : w'.heap[s]? = some (.cells ((((List.range D.arr.length).map fun i => Value.slice (some ⟨g i, 0, none⟩) (D.vers i).length (c i)).set k (.slice (some ⟨g', 0, none⟩) ((D.vers k).length + 1) cap')).toArray) 131 (0, 0)))
    (hr : w'.ownsRow 0 130 65 (.slice (some ⟨g', 0, none⟩) ((D.vers k).length + 1) cap') ((D.vers k).length + 1) ((D.vers k).flatMap vcells ++ (bcells b ++ [.int .i64 (D.sent + 1)])))
    (hg : g' = g k ∨ w.heap.size ≤ g') (hu : Upd (fun j => j = p ∨ j = s ∨ j = g k) w w') :
    DiskAt w' p (D.send k b) s (fun j => if j = k then g' else g j) (fun j => if j = k then cap' else c j) := by
  have lg : ∀ i, i < D.arr.length → g i < w.heap.size := fun i hi => by
    rcases (h.rows i hi).2 with ⟨h3, _⟩ | ⟨gg, cap, cur, hv, hb, hh, r⟩
    · simp at h3
    · simp at hv; rw [hv.1]; exact lt_of_heap hh
  have lp := lt_of_heap h.main
  have ls := lt_of_heap h.sec
  have hlen : (D.send k b).arr.length = D.arr.length := rfl
  refine ⟨hp, ?_, ?_, h.ps, ?_, ?_, ?_⟩
  · rw [hs]
    congr 3
    apply List.ext_getElem
    · simp [hlen]
    · intro j h1 h2
      simp at h1
      by_cases hj : j = k
      · subst hj; simp [vers_send_same]
      · simp [hj, Ne.symm hj, vers_send_other _ _ _ _ hj]
  · intro i hi
    rw [hlen] at hi
    by_cases hik : i = k
    · subst hik
      rw [vers_send_same]
      simpa [vcells, bcells] using hr
    · rw [vers_send_other _ _ _ _ hik]
      simp only [hik, if_false]
      obtain ⟨h1, h2⟩ := h.rows i hi
      refine ⟨h1, ?_⟩
      rcases h2 with ⟨h2, _⟩ | ⟨gg, cap, cur, hv, hb, hh, r⟩
      · simp at h2
      · refine .inr ⟨gg, cap, cur, hv, hb, ?_, r⟩
        simp at hv
        rw [← hv.1]
        rw [← hv.1] at hh
        refine (hu.block (g i) (lt_of_heap hh) ?_).trans hh
        rintro (e | e | e)
        · exact h.gp i hi e
        · exact h.gs i hi e
        · exact hik (h.gg i k hi hk e)
  · intro i hi
    by_cases hik : i = k
    · subst hik; simp only [if_true]
      rcases hg with e | e
      · rw [e]; exact h.gp i hi
      · omega
    · simp only [hik, if_false]; exact h.gp i hi
  · intro i hi
    by_cases hik : i = k
    · subst hik; simp only [if_true]
      rcases hg with e | e
      · rw [e]; exact h.gs i hi
      · omega
    · simp only [hik, if_false]; exact h.gs i hi
  · intro i j hi hj
    rw [hlen] at hi hj
    have li := lg i hi
    have lj := lg j hj
    by_cases hik : i = k <;> by_cases hjk : j = k
    · intro _; omega
    · simp only [hik, hjk, if_true, if_false]
      intro e
      rcases hg with e' | e'
      · have := h.gg k j hk hj (by rw [← e', e]); omega
      · omega
    · simp only [hik, hjk, if_true, if_false]
      intro e
      rcases hg with e' | e'
      · have := h.gg i k hi hk (by rw [e, e']); omega
      · omega
    · simp only [hik, hjk, if_false]; exact h.gg i j hi hj

end Go.Proofs.Ytbimkhdiplnbfaa
