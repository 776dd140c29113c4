/- The disk as a value: disks without arms and failures; writes to unlike sectors. -/
import Derived.Test.YtbimkhdiplnbfaaD3
namespace Go.Proofs.Ytbimkhdiplnbfaa

structure Dk.Calm (D : Dk) : Prop where
  dead : D.dead = false
  arm : D.arm = -1
  fail : D.fail = -1

def Dk.off (D : Dk) (i : Int) : Prop := i < 0 ∨ (D.arr.length : Int) ≤ i
instance (D : Dk) (i : Int) : Decidable (D.off i) := by unfold Dk.off; infer_instance

theorem Dk.Calm.new (n : Nat) : (Dk.new n).Calm := ⟨rfl, rfl, rfl⟩
theorem Dk.Calm.callE {D : Dk} (h : D.Calm) (i : Int) (wr : Bool) : D.callE i wr = if D.off i then 2 else 0 := by
  unfold Dk.callE Dk.off
  simp [h.dead, h.arm, h.fail]
theorem Dk.Calm.callD {D : Dk} (h : D.Calm) (i : Int) (wr : Bool) : D.callD i wr = if D.off i then D else { D with ops := D.ops + 1 } := by
  obtain ⟨h1, h2, h3⟩ := h
  obtain ⟨arr, row, sent, ops, arm, fail, dead⟩ := D
  simp only at h1 h2 h3
  subst h1 h2 h3
  unfold Dk.callD Dk.off
  have e : max ((-1 : Int) - 1) (-1) = -1 := by decide
  simp only [e]
  cases wr <;> simp
theorem Dk.Calm.callR {D : Dk} (h : D.Calm) (i : Int) (wr : Bool) : D.callR i wr = decide (¬ D.off i) := by
  unfold Dk.callR Dk.off
  simp [h.dead, h.arm, h.fail]
theorem Dk.Calm.write {D : Dk} (h : D.Calm) (i : Int) (b : List Int) : D.write i b = if D.off i then D else { D with ops := D.ops + 1, row := D.row ++ [(i.toNat, b, D.sent + 1)], sent := D.sent + 1 } := by
  unfold Dk.write
  rw [h.callR, h.callD]
  by_cases ho : D.off i
  · simp [ho]
  · simp [ho, Dk.send]
theorem Dk.Calm.callD' {D : Dk} (h : D.Calm) (i : Int) (wr : Bool) : (D.callD i wr).Calm := by
  rw [h.callD]; split
  · exact h
  · exact ⟨h.dead, h.arm, h.fail⟩
theorem Dk.Calm.write' {D : Dk} (h : D.Calm) (i : Int) (b : List Int) : (D.write i b).Calm := by
  rw [h.write]; split
  · exact h
  · exact ⟨h.dead, h.arm, h.fail⟩
theorem Dk.Calm.length {D : Dk} (h : D.Calm) (i : Int) (b : List Int) : (D.write i b).arr.length = D.arr.length := by
  rw [h.write]; split <;> rfl
theorem Dk.Calm.off_write {D : Dk} (h : D.Calm) (i j : Int) (b : List Int) : (D.write i b).off j ↔ D.off j := by
  unfold Dk.off; rw [h.length]

theorem Dk.Calm.shows_write {D : Dk} (h : D.Calm) (i : Int) (b : List Int) (k : Nat) : (D.write i b).shows k = if ¬ D.off i ∧ i.toNat = k then b else D.shows k := by
  rw [h.write]
  by_cases ho : D.off i
  · simp [ho]
  · simp only [ho, if_false, not_false_eq_true, true_and]
    by_cases hk : i.toNat = k
    · subst hk
      have e : (([(i.toNat, b, D.sent + 1)] : List (Nat × List Int × Int)).filter (fun x => x.1 == i.toNat)).map (·.2) = [(b, D.sent + 1)] := by simp
      simp only [Dk.shows, Dk.vers, List.filter_append, List.map_append, e, if_true]
      rw [← List.cons_append, List.getLast?_concat]
      rfl
    · simp [Dk.shows, Dk.vers, hk, List.filter_append]

theorem kept_all (D : Dk) (i : Nat) : D.kept (fun _ => false) i = D.shows i := by
  have hc : D.count (fun _ => false) i = (D.vers i).length - 1 := by
    unfold Dk.count
    have e : ∀ l : List (List Int × Int), l.takeWhile (fun v => !(fun _ : Int => false) v.2) = l := fun l => by induction l <;> simp_all
    rw [e]
    simp
  unfold Dk.kept Dk.shows
  rw [hc, List.getLast?_eq_getElem?, List.getD_eq_getElem?_getD]

theorem Dk.Calm.sync {D : Dk} (h : D.Calm) (hn : 1 ≤ D.arr.length) : D.sync = { D with ops := D.ops + 1, arr := (List.range D.arr.length).map D.shows, row := [] } := by
  have ho : ¬ D.off 0 := by unfold Dk.off; omega
  unfold Dk.sync
  rw [h.callE, h.callD]
  simp only [ho, if_false, if_true, Dk.arrive]
  congr 1
  refine List.map_congr_left (fun i _ => ?_)
  rw [kept_all]
  rfl

/-- Two disks that show the same, and nothing is on its way. -/
structure Dk.Twin (X Y : Dk) : Prop where
  x : X.Calm
  y : Y.Calm
  arr : X.arr = Y.arr
  rx : X.row = []
  ry : Y.row = []

theorem Dk.Twin.reads {X Y : Dk} (h : Dk.Twin X Y) (i : Int) : X.reads i = Y.reads i := by
  have ho : X.off i ↔ Y.off i := by unfold Dk.off; rw [h.arr]
  unfold Dk.reads
  rw [h.x.callR, h.y.callR]
  simp only [ho, Dk.shows, Dk.vers, h.rx, h.ry, h.arr]

theorem Dk.Twin.read {X Y : Dk} (h : Dk.Twin X Y) (i : Int) (wr : Bool) : Dk.Twin (X.callD i wr) (Y.callD i wr) := by
  refine ⟨h.x.callD' i wr, h.y.callD' i wr, ?_, ?_, ?_⟩
  · rw [h.x.callD, h.y.callD]; split <;> split <;> exact h.arr
  · rw [h.x.callD]; split <;> exact h.rx
  · rw [h.y.callD]; split <;> exact h.ry

theorem crash_none {D : Dk} (hr : D.row = []) (keep : List Bool) : (D.crash keep).arr = D.arr := by
  show (D.arrive (fun n => !D.keepsAt keep n)).arr = D.arr
  simp only [Dk.arrive]
  apply List.ext_getElem
  · simp
  · intro j h1 h2
    simp [Dk.kept, Dk.vers, Dk.count, hr, h2]

theorem Dk.Twin.crash {X Y : Dk} (h : Dk.Twin X Y) (k : List Bool) : Dk.Twin (X.crash k) (Y.crash k) :=
  ⟨⟨rfl, rfl, rfl⟩, ⟨rfl, rfl, rfl⟩, by rw [crash_none h.rx, crash_none h.ry, h.arr], rfl, rfl⟩

/-- Writes to unlike sectors, in whatever order. -/
theorem Dk.Twin.order {D : Dk} (h : D.Calm) (hn : 1 ≤ D.arr.length) {i j : Int} (hij : i ≠ j) (A B : List Int) : Dk.Twin ((D.write i A).write j B).sync ((D.write j B).write i A).sync := by
  have hx := (h.write' i A).write' j B
  have hy := (h.write' j B).write' i A
  have lx : ((D.write i A).write j B).arr.length = D.arr.length := by rw [(h.write' i A).length, h.length]
  have ly : ((D.write j B).write i A).arr.length = D.arr.length := by rw [(h.write' j B).length, h.length]
  rw [hx.sync (by omega), hy.sync (by omega)]
  refine ⟨⟨hx.dead, hx.arm, hx.fail⟩, ⟨hy.dead, hy.arm, hy.fail⟩, ?_, rfl, rfl⟩
  show (List.range ((D.write i A).write j B).arr.length).map _ = (List.range ((D.write j B).write i A).arr.length).map _
  rw [lx, ly]
  refine List.map_congr_left (fun k _ => ?_)
  rw [(h.write' i A).shows_write, h.shows_write, (h.write' j B).shows_write, h.shows_write]
  simp only [h.off_write]
  by_cases h1 : D.off i <;> by_cases h2 : D.off j
  · simp [h1, h2]
  · simp [h1, h2]
  · simp [h1, h2]
  · have : ¬ (i.toNat = k ∧ j.toNat = k) := by
      unfold Dk.off at h1 h2; omega
    by_cases h3 : i.toNat = k
    · have h4 : ¬ j.toNat = k := fun e => this ⟨h3, e⟩
      simp [h1, h2, h3, h4]
    · simp [h1, h2, h3]

theorem order_ops {D : Dk} (h : D.Calm) (i j : Int) (A B : List Int) : ((D.write i A).write j B).ops = ((D.write j B).write i A).ops := by
  rw [(h.write' i A).write, (h.write' j B).write]
  simp only [h.off_write]
  rw [h.write, h.write]
  by_cases h1 : D.off i <;> by_cases h2 : D.off j <;> simp [h1, h2]

end Go.Proofs.Ytbimkhdiplnbfaa
