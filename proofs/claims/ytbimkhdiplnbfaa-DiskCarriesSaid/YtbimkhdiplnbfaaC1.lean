/- Walks of the disk: Sync. -/
import Derived.Test.YtbimkhdiplnbfaaB9
namespace Go.Proofs.Ytbimkhdiplnbfaa
open Go.RowKit

theorem callF_enters84 : ∀ args w, (callFunc 84 args).run Try.prog w = .ok (.enter 84 args) w := enters_of Try.func84 (by kernel_rfl) rfl
theorem callF_enters86 : ∀ args w, (callFunc 86 args).run Try.prog w = .ok (.enter 86 args) w := enters_of Try.func86 (by kernel_rfl) rfl
theorem callF_enters87 : ∀ args w, (callFunc 87 args).run Try.prog w = .ok (.enter 87 args) w := enters_of Try.func87 (by kernel_rfl) rfl
theorem callF_enters89 : ∀ args w, (callFunc 89 args).run Try.prog w = .ok (.enter 89 args) w := enters_of Try.func89 (by kernel_rfl) rfl

theorem Dk.Ok.mono {D : Dk} {K K' : Nat} (h : D.Ok K) (hk : K ≤ K') : D.Ok K' :=
  ⟨h.len, h.blks, h.rblks, h.sorted, ⟨h.sent.1, by have := h.sent.2; omega⟩, ⟨h.ops.1, by have := h.ops.2; omega⟩, h.arm, h.fail, Nat.le_trans h.rowlen hk⟩

theorem Dk.Ok.callD {D : Dk} {K : Nat} (h : D.Ok K) (i : Int) (wr : Bool) : (D.callD i wr).Ok (K + 1) := by
  have h1 := h.mono (Nat.le_succ K)
  obtain ⟨a1, a2⟩ := h.arm
  obtain ⟨f1, f2⟩ := h.fail
  obtain ⟨o1, o2⟩ := h.ops
  unfold Dk.callD
  split
  · exact h1
  · split
    · exact h1
    · split
      · exact ⟨h1.len, h1.blks, h1.rblks, h1.sorted, h1.sent, h1.ops, h1.arm, ⟨by show -1 ≤ max (D.fail - 1) (-1); omega, by show max (D.fail - 1) (-1) ≤ _; omega⟩, h1.rowlen⟩
      · split
        · exact ⟨h1.len, h1.blks, h1.rblks, h1.sorted, h1.sent, h1.ops, h1.arm, ⟨by show (-1 : Int) ≤ -1; omega, by show (-1 : Int) ≤ 9223372036854775807; omega⟩, h1.rowlen⟩
        · refine ⟨h1.len, h1.blks, h1.rblks, h1.sorted, h1.sent, ⟨by show 0 ≤ D.ops + 1; omega, by show D.ops + 1 ≤ _; omega⟩, ?_, ⟨by show -1 ≤ max (D.fail - 1) (-1); omega, by show max (D.fail - 1) (-1) ≤ _; omega⟩, h1.rowlen⟩
          cases wr
          · exact h1.arm
          · exact ⟨by show -1 ≤ max (D.arm - 1) (-1); omega, by show max (D.arm - 1) (-1) ≤ _; omega⟩

theorem Dk.Ok.arrive {D : Dk} {K : Nat} (h : D.Ok K) (lost : Int → Bool) : (D.arrive lost).Ok K := by
  refine ⟨by simpa [Dk.arrive] using h.len, ?_, by simp [Dk.arrive], by simp [Dk.arrive], h.sent, h.ops, h.arm, h.fail, by simp [Dk.arrive]⟩
  intro b hb
  simp [Dk.arrive] at hb
  obtain ⟨i, hi, rfl⟩ := hb
  exact kept_blk h lost hi

theorem Dk.Ok.send {D : Dk} {K : Nat} (h : D.Ok K) {i : Nat} (hi : i < D.arr.length) {b : List Int} (hb : okBlk b) : (D.send i b).Ok (K + 1) := by
  have h1 := h.mono (Nat.le_succ K)
  obtain ⟨s1, s2⟩ := h.sent
  refine ⟨h1.len, h1.blks, ?_, ?_, ⟨by show 0 ≤ D.sent + 1; omega, by show D.sent + 1 ≤ _; omega⟩, h1.ops, h1.arm, h1.fail, ?_⟩
  · intro x hx
    simp only [Dk.send, List.mem_append, List.mem_singleton] at hx
    rcases hx with hx | rfl
    · obtain ⟨q1, q2, q3, q4⟩ := h.rblks x hx
      exact ⟨q1, q2, q3, by show x.2.2 ≤ D.sent + 1; omega⟩
    · exact ⟨hb, hi, by show 1 ≤ D.sent + 1; omega, Int.le_refl _⟩
  · simp only [Dk.send]
    rw [List.pairwise_append]
    refine ⟨h.sorted, by simp, fun x hx y hy => ?_⟩
    simp at hy; subst hy
    have := (h.rblks x hx).2.2.2
    show x.2.2 < D.sent + 1; omega
  · have := h.rowlen
    simp [Dk.send]; omega

theorem Dk.Ok.write {D : Dk} {K : Nat} (h : D.Ok K) (i : Int) {b : List Int} (hb : okBlk b) : (D.write i b).Ok (K + 2) := by
  unfold Dk.write
  split
  · rename_i hc
    refine (h.callD i true).send ?_ hb
    have : (D.callD i true).arr = D.arr := by unfold Dk.callD; split <;> (try rfl); split <;> (try rfl); split <;> (try rfl); split <;> rfl
    rw [this]
    simp [Dk.callR] at hc; omega
  · exact (h.callD i true).mono (by omega)

def Dk.sync (D : Dk) : Dk := if D.callE 0 true = 0 then (D.callD 0 true).arrive (fun _ => false) else D.callD 0 true

theorem Dk.Ok.sync {D : Dk} {K : Nat} (h : D.Ok K) : D.sync.Ok (K + 1) := by
  unfold Dk.sync
  split
  · exact (h.callD 0 true).arrive _
  · exact h.callD 0 true

theorem never_lost (v : List Int × Int) (w : World) (hv : okBlk v.1) : Calls Try.prog 86 (#[.agg (vcells v).toArray] ++ #[]) w fun e w' => e = .returned (.bool false) ∧ Upd (fun _ => False) w w' := by
  have hl := vcells_length hv.1
  generalize vcells v = cs at *
  have HL := Lib.hid hl
  clear hl
  show Calls Try.prog 86 #[.agg cs.toArray] w _
  go_enter Try.func86, Try.ntmps86
  go_wp2
  go_ret
  exact ⟨rfl, (Upd.refl _ w).alloc _⟩

theorem nothing (s : Nat) (w : World) : Calls Try.prog 87 (#[.pointer (some ⟨s, 0, none⟩)] ++ #[]) w fun e w' => e = .returned (.tuple #[]) ∧ w = w' := by
  show Calls Try.prog 87 #[.pointer (some ⟨s, 0, none⟩)] w _
  go_enter Try.func87, Try.ntmps87
  go_wp2
  go_returns
  exact ⟨rfl, rfl⟩

theorem arrives_all {p s bx : Nat} {D : Dk} {F : Nat → Prop} (w : World) (h : Dsk w p D F) (hok : D.Ok 1099511627774) (hb : w.heap[bx]? = some (.cells #[.pointer (some ⟨p, 0, none⟩)] 25 (0, 0))) :
    Calls Try.prog 84 (#[.pointer (some ⟨s, 0, none⟩)] ++ #[.pointer (some ⟨bx, 0, none⟩)]) w fun e w' => e = .returned (.tuple #[]) ∧ Left w p (D.arrive (fun _ => false)) F w' := by
  have HC := Lib.hid (arrive_any (lost := fun _ => false) 86 #[] w h hok callF_enters86 (fun W1 _ v hv _ => never_lost v W1 hv))
  have c0 := cells1_of hb
  clear h hok hb
  show Calls Try.prog 84 #[.pointer (some ⟨s, 0, none⟩), .pointer (some ⟨bx, 0, none⟩)] w _
  go_enter Try.func84, Try.ntmps84
  go_wp2_with fail
  refine HC.out.mono ?_
  rintro e w' ⟨rfl, h⟩
  go_wp2
  go_returns
  exact ⟨rfl, h⟩

end Go.Proofs.Ytbimkhdiplnbfaa
