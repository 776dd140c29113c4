/- The disk as a value: which calls are carried out. -/
import Derived.Test.YtbimkhdiplnbfaaE1
namespace Go.Proofs.Ytbimkhdiplnbfaa

/-- The numbers of two disks are the same. -/
def SameNums (D E : Dk) : Prop := D.ops = E.ops ∧ D.arm = E.arm ∧ D.fail = E.fail ∧ D.dead = E.dead ∧ D.arr.length = E.arr.length

theorem write_nums (D : Dk) (i : Int) (b : List Int) : SameNums (D.write i b) (D.callD i true) := by
  unfold Dk.write
  split
  · exact ⟨rfl, rfl, rfl, rfl, rfl⟩
  · exact ⟨rfl, rfl, rfl, rfl, rfl⟩
theorem sync_nums (D : Dk) : SameNums D.sync (D.callD 0 true) := by
  unfold Dk.sync
  split
  · exact ⟨rfl, rfl, rfl, rfl, by simp [Dk.arrive]⟩
  · exact ⟨rfl, rfl, rfl, rfl, rfl⟩

/-- What holds between two calls: as long as there is power, the counts say what is to come. -/
structure Carry (D : Dk) (arm fail calls writes : Int) (failed : Bool) : Prop where
  arm : D.dead = false → D.arm = arm - writes ∧ 0 ≤ D.arm
  fresh : D.dead = false → failed = false → D.fail = fail - calls ∧ 0 ≤ D.fail
  spent : D.dead = false → failed = true → D.fail = -1

theorem Carry.same {D E : Dk} {arm fail calls writes : Int} {failed : Bool} (h : Carry E arm fail calls writes failed) (hs : SameNums D E) : Carry D arm fail calls writes failed := by
  obtain ⟨h1, h2, h3, h4, h5⟩ := hs
  exact ⟨by rw [h4, h2]; exact h.arm, by rw [h4, h3]; exact h.fresh, by rw [h4, h3]; exact h.spent⟩

theorem carry_dead {D : Dk} (hd : D.dead = true) (i : Int) (wr : Bool) : D.callE i wr = 9 ∧ D.callD i wr = D := by
  simp [Dk.callE, Dk.callD, hd]

theorem carry_dies {D : Dk} {arm fail calls writes : Int} {failed : Bool} (h : Carry D arm fail calls writes failed) (hd : D.dead = false) {i : Int} (hi : ¬ D.off i) {wr : Bool} (hw : wr = true) (he : writes = arm) :
    D.callE i wr = 9 ∧ (D.callD i wr).dead = true ∧ (D.callD i wr).ops = D.ops := by
  have h1 := h.arm hd
  have ha : D.arm = 0 := by omega
  unfold Dk.off at hi
  simp [Dk.callE, Dk.callD, hd, hi, hw, ha]

theorem carry_fails {D : Dk} {arm fail calls writes : Int} {failed : Bool} (h : Carry D arm fail calls writes failed) (hd : D.dead = false) {i : Int} (hi : ¬ D.off i) {wr : Bool} (hn : ¬ (wr = true ∧ writes = arm)) (hf : failed = false) (he : calls = fail) :
    D.callE i wr = 8 ∧ (D.callD i wr).ops = D.ops ∧ Carry (D.callD i wr) arm fail calls writes true := by
  have h1 := h.arm hd
  have h2 := h.fresh hd hf
  have hf0 : D.fail = 0 := by omega
  have ha : ¬ (wr = true ∧ D.arm = 0) := fun e => hn ⟨e.1, by omega⟩
  unfold Dk.off at hi
  have e1 : D.callE i wr = 8 := by simp only [Dk.callE, hd, Bool.false_eq_true, if_false, hi, ha, hf0, if_true]
  have e2 : D.callD i wr = { D with fail := -1 } := by simp only [Dk.callD, hd, Bool.false_eq_true, if_false, hi, ha, hf0, if_true]
  rw [e1, e2]
  exact ⟨rfl, rfl, fun _ => h1, fun _ e => (by cases e), fun _ _ => rfl⟩

theorem carry_goes {D : Dk} {arm fail calls writes : Int} {failed : Bool} (h : Carry D arm fail calls writes failed) (hd : D.dead = false) {i : Int} (hi : ¬ D.off i) {wr : Bool} (hn : ¬ (wr = true ∧ writes = arm)) (hf : ¬ (failed = false ∧ calls = fail)) :
    D.callE i wr = 0 ∧ (D.callD i wr).ops = D.ops + 1 ∧ (D.callD i wr).dead = false ∧ Carry (D.callD i wr) arm fail (calls + 1) (writes + if wr = true then 1 else 0) failed := by
  have h1 := h.arm hd
  have ha : ¬ (wr = true ∧ D.arm = 0) := fun e => hn ⟨e.1, by omega⟩
  have hf0 : ¬ D.fail = 0 := fun e => by
    cases hb : failed
    · have := h.fresh hd hb; exact hf ⟨hb, by omega⟩
    · have := h.spent hd hb; omega
  unfold Dk.off at hi
  have e1 : D.callE i wr = 0 := by simp only [Dk.callE, hd, Bool.false_eq_true, if_false, hi, ha, hf0]
  have e2 : D.callD i wr = { D with fail := max (D.fail - 1) (-1), ops := D.ops + 1, arm := if wr = true then max (D.arm - 1) (-1) else D.arm } := by simp only [Dk.callD, hd, Bool.false_eq_true, if_false, hi, ha, hf0]
  rw [e1, e2]
  refine ⟨rfl, rfl, hd, fun _ => ?_, fun _ hb => ?_, fun _ hb => ?_⟩
  · cases wr
    · simpa using h1
    · have : ¬ D.arm = 0 := fun e => ha ⟨rfl, e⟩
      simp only [if_true]; omega
  · have := h.fresh hd hb
    show max (D.fail - 1) (-1) = _ ∧ 0 ≤ max (D.fail - 1) (-1)
    omega
  · have := h.spent hd hb
    show max (D.fail - 1) (-1) = -1
    omega

end Go.Proofs.Ytbimkhdiplnbfaa
