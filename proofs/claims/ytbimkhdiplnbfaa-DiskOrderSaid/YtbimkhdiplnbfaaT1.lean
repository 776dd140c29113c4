/- Two disks beside one another. -/
import Derived.Test.YtbimkhdiplnbfaaD9
import Derived.Test.YtbimkhdiplnbfaaE1
import Derived.Test.YtbimkhdiplnbfaaB6
import Derived.Test.YtbimkhdiplnbfaaC2
namespace Go.Proofs.Ytbimkhdiplnbfaa
open Go.RowKit

/-- Two disks lie in memory, in blocks of their own, all made since w0. -/
def Two (G : Nat → Prop) (w0 wr : World) (p q : Nat) (X Y : Dk) (K : Nat) : Prop :=
  ∃ Fx Fy : Nat → Prop, Dsk wr p X Fx ∧ Dsk wr q Y Fy ∧ (∀ k, Fx k → ¬ Fy k) ∧ (∀ k, Fx k → G k ∨ w0.heap.size ≤ k) ∧ (∀ k, Fy k → G k ∨ w0.heap.size ≤ k) ∧ Upd G w0 wr ∧ X.Ok K ∧ Y.Ok K

theorem Two.symm {G : Nat → Prop} {w0 wr : World} {p q : Nat} {X Y : Dk} {K : Nat} (h : Two G w0 wr p q X Y K) : Two G w0 wr q p Y X K := by
  obtain ⟨Fx, Fy, h1, h2, h3, h4, h5, h6, h7, h8⟩ := h
  exact ⟨Fy, Fx, h2, h1, fun k hy hx => h3 k hx hy, h5, h4, h6, h8, h7⟩

theorem Two.upd {G : Nat → Prop} {w0 wr w' : World} {p q : Nat} {X Y : Dk} {K : Nat} (h : Two G w0 wr p q X Y K) (hu : Upd (fun _ => False) wr w') : Two G w0 w' p q X Y K := by
  obtain ⟨Fx, Fy, h1, h2, h3, h4, h5, h6, h7, h8⟩ := h
  exact ⟨Fx, Fy, h1.kept hu (fun _ _ e => e), h2.kept hu (fun _ _ e => e), h3, h4, h5, h6.trans (hu.mono (fun _ _ e => e.elim)), h7, h8⟩

theorem Two.since {G : Nat → Prop} {w0 wr : World} {p q : Nat} {X Y : Dk} {K : Nat} (h : Two G w0 wr p q X Y K) : Upd G w0 wr := by
  obtain ⟨Fx, Fy, h1, h2, h3, h4, h5, h6, h7, h8⟩ := h
  exact h6

theorem Two.mono {G : Nat → Prop} {w0 wr : World} {p q : Nat} {X Y : Dk} {K K' : Nat} (h : Two G w0 wr p q X Y K) (hk : K ≤ K') : Two G w0 wr p q X Y K' := by
  obtain ⟨Fx, Fy, h1, h2, h3, h4, h5, h6, h7, h8⟩ := h
  exact ⟨Fx, Fy, h1, h2, h3, h4, h5, h6, h7.mono hk, h8.mono hk⟩

theorem Two.oks {G : Nat → Prop} {w0 wr : World} {p q : Nat} {X Y : Dk} {K : Nat} (h : Two G w0 wr p q X Y K) : X.Ok K ∧ Y.Ok K := by
  obtain ⟨Fx, Fy, h1, h2, h3, h4, h5, h6, h7, h8⟩ := h
  exact ⟨h7, h8⟩

theorem Two.fst {G : Nat → Prop} {w0 wr : World} {p q : Nat} {X Y : Dk} {K : Nat} (h : Two G w0 wr p q X Y K) : ∃ F, Dsk wr p X F ∧ (∀ k, F k → G k ∨ w0.heap.size ≤ k) := by
  obtain ⟨Fx, Fy, h1, h2, h3, h4, h5, h6, h7, h8⟩ := h
  exact ⟨Fx, h1, h4⟩

/-- The first one has turned. -/
theorem Two.turn {G : Nat → Prop} {w0 wr : World} {p q : Nat} {X Y : Dk} {K : Nat} (h : Two G w0 wr p q X Y K) :
    ∃ F, Dsk wr p X F ∧ X.Ok K ∧ ∀ X' w' K', Left wr p X' F w' → X'.Ok K' → K ≤ K' → Two G w0 w' p q X' Y K' := by
  obtain ⟨Fx, Fy, h1, h2, h3, h4, h5, h6, h7, h8⟩ := h
  refine ⟨Fx, h1, h7, fun X' w' K' ⟨F', g1, g2, g3⟩ hX hK => ⟨F', Fy, g1, h2.kept g3 (fun k hy hx => h3 k hx hy), fun k hk hy => ?_, fun k hk => ?_, h5, ?_, hX, h8.mono hK⟩⟩
  · rcases g2 k hk with e | e
    · exact h3 k e hy
    · have := h2.lt k hy; omega
  · rcases g2 k hk with e | e
    · exact h4 k e
    · exact .inr (Nat.le_trans h6.size e)
  · exact h6.step g3 (fun k hk e => (h4 k e).resolve_right (by omega))

/-- From here on. -/
theorem Two.rebase {G : Nat → Prop} {w0 wr w1 : World} {p q : Nat} {X Y : Dk} {K : Nat} (h : Two G w0 wr p q X Y K) (hu : Upd (fun _ => False) wr w1) :
    ∃ G' : Nat → Prop, (∀ k, G' k → (G k ∨ w0.heap.size ≤ k) ∧ k < wr.heap.size) ∧ Two G' w1 w1 p q X Y K := by
  obtain ⟨Fx, Fy, h1, h2, h3, h4, h5, h6, h7, h8⟩ := h
  refine ⟨fun k => Fx k ∨ Fy k, fun k hk => ?_, Fx, Fy, h1.kept hu (fun _ _ e => e), h2.kept hu (fun _ _ e => e), h3, fun k hk => .inl (.inl hk), fun k hk => .inl (.inr hk), Upd.refl _ _, h7, h8⟩
  rcases hk with hk | hk
  · exact ⟨h4 k hk, h1.lt k hk⟩
  · exact ⟨h5 k hk, h2.lt k hk⟩

/-- And back to where it was counted from. -/
theorem Two.back {G G' : Nat → Prop} {w0 w1 w2 : World} {p q : Nat} {X Y : Dk} {K : Nat} (h : Two G' w1 w2 p q X Y K) (hu : Upd G w0 w1) (hg : ∀ k, G' k → G k ∨ w0.heap.size ≤ k) : Two G w0 w2 p q X Y K := by
  obtain ⟨Fx, Fy, h1, h2, h3, h4, h5, h6, h7, h8⟩ := h
  have hz := hu.size
  refine ⟨Fx, Fy, h1, h2, h3, fun k hk => ?_, fun k hk => ?_, hu.step h6 (fun k hk e => (hg k e).resolve_right (by omega)), h7, h8⟩
  · exact (h4 k hk).elim (hg k) (fun e => .inr (by omega))
  · exact (h5 k hk).elim (hg k) (fun e => .inr (by omega))

theorem Two.write {G : Nat → Prop} {w0 wr : World} {p q : Nat} {X Y : Dk} {K : Nat} (h : Two G w0 wr p q X Y K) (hK : K ≤ 1000000) (i : Int) {b : List Int} (hb : okBlk b) :
    Calls Try.prog 34 #[.pointer (some ⟨p, 0, none⟩), .int .i64 i, .agg (bcells b).toArray] wr fun e w' => e = .returned (.int .i64 (X.callE i true)) ∧ Two G w0 w' p q (X.write i b) Y (K + 2) := by
  obtain ⟨F, h1, h2, h3⟩ := h.turn
  refine (write_any i b wr h1 (h2.mono (by omega)) hb.1).mono ?_
  rintro e w' ⟨rfl, hl⟩
  exact ⟨rfl, h3 _ _ _ hl (h2.write i hb) (by omega)⟩

theorem Two.sync {G : Nat → Prop} {w0 wr : World} {p q : Nat} {X Y : Dk} {K : Nat} (h : Two G w0 wr p q X Y K) (hK : K ≤ 1000000) :
    Calls Try.prog 38 #[.pointer (some ⟨p, 0, none⟩)] wr fun e w' => e = .returned (.int .i64 (X.callE 0 true)) ∧ Two G w0 w' p q X.sync Y (K + 1) := by
  obtain ⟨F, h1, h2, h3⟩ := h.turn
  refine (sync_any wr h1 (h2.mono (by omega))).mono ?_
  rintro e w' ⟨rfl, hl⟩
  exact ⟨rfl, h3 _ _ _ hl h2.sync (by omega)⟩

theorem Two.crashNil {G : Nat → Prop} {w0 wr : World} {p q : Nat} {X Y : Dk} {K : Nat} (h : Two G w0 wr p q X Y K) (hK : K ≤ 1000000) :
    Calls Try.prog 40 #[.pointer (some ⟨p, 0, none⟩), .slice none 0 0] wr fun e w' => e = .returned (.int .i64 0) ∧ Two G w0 w' p q (X.crash []) Y K := by
  obtain ⟨F, h1, h2, h3⟩ := h.turn
  refine (crash_any wr none 0 [] (fun i b hb => by simp at hb) (by simp) h1 (h2.mono (by omega))).mono ?_
  rintro e w' ⟨rfl, hl⟩
  exact ⟨rfl, h3 _ _ _ hl (h2.crash _) (Nat.le_refl _)⟩

theorem Two.read {G : Nat → Prop} {w0 wr : World} {p q : Nat} {X Y : Dk} {K : Nat} (h : Two G w0 wr p q X Y K) (hK : K ≤ 1000000) (i : Int) :
    Calls Try.prog 42 #[.pointer (some ⟨p, 0, none⟩), .int .i64 i] wr fun e w' => e = .returned (.tuple #[.agg (bcells (X.reads i)).toArray, .int .i64 (X.callE i false)]) ∧ Two G w0 w' p q (X.callD i false) Y (K + 1) := by
  obtain ⟨F, h1, h2, h3⟩ := h.turn
  refine (read_any i wr h1 (h2.mono (by omega))).mono ?_
  rintro e w' ⟨rfl, hl, hu⟩
  exact ⟨rfl, h3 _ _ _ ⟨F, hl, fun _ hk => .inl hk, hu⟩ (h2.callD i false) (by omega)⟩

theorem Two.ops {G : Nat → Prop} {w0 wr : World} {p q : Nat} {X Y : Dk} {K : Nat} (h : Two G w0 wr p q X Y K) :
    Calls Try.prog 36 #[.pointer (some ⟨p, 0, none⟩)] wr fun e w' => e = .returned (.int .i64 X.ops) ∧ wr = w' := by
  obtain ⟨F, h1, _⟩ := h.fst
  exact ops_any wr h1

theorem Two.len {G : Nat → Prop} {w0 wr : World} {p q : Nat} {X Y : Dk} {K : Nat} (h : Two G w0 wr p q X Y K) :
    Calls Try.prog 41 #[.pointer (some ⟨p, 0, none⟩)] wr fun e w' => e = .returned (.int .i64 X.arr.length) ∧ wr = w' := by
  obtain ⟨F, h1, _⟩ := h.fst
  exact len_any wr h1

theorem end_sync {G : Nat → Prop} {w0 wr : World} {p q : Nat} {X Y : Dk} {K : Nat} (h : Two G w0 wr p q X Y K) (hK : K ≤ 1000000) (hc : X.Calm) :
    Calls Try.prog 37 #[.pointer (some ⟨p, 0, none⟩)] wr fun e w' => e = .returned (.int .i64 0) ∧ Two G w0 w' p q X.sync Y (K + 1) := by
  have h1 := h.sync hK
  have ho : ¬ X.off 0 := by have := h.oks.1.len; unfold Dk.off; omega
  rw [hc.callE, if_neg ho] at h1
  have H1 := Lib.hid h1
  clear h1 h hc
  go_enter Try.func37, Try.ntmps37
  go_wp2_with (go_at_call 38; refine H1.out.mono ?_; rintro e w' ⟨rfl, h2⟩)
  go_ret
  exact ⟨rfl, h2⟩

theorem end_crash {G : Nat → Prop} {w0 wr : World} {p q : Nat} {X Y : Dk} {K : Nat} (h : Two G w0 wr p q X Y K) (hK : K ≤ 1000000) :
    Calls Try.prog 39 #[.pointer (some ⟨p, 0, none⟩)] wr fun e w' => e = .returned (.int .i64 0) ∧ Two G w0 w' p q (X.crash []) Y (K + 1) := by
  have H1 := Lib.hid (h.crashNil hK)
  clear h
  go_enter Try.func39, Try.ntmps39
  go_wp2_with (go_at_call 40; refine H1.out.mono ?_; rintro e w' ⟨rfl, h2⟩)
  go_ret
  exact ⟨rfl, h2.mono (Nat.le_succ _)⟩

/-- What the closure at place k of DiskOrder's row does. -/
def endK (k : Nat) (D : Dk) : Dk := if k = 0 then D.sync else D.crash []
def endF (k : Nat) : Nat := if k = 0 then 37 else 39

theorem endF_enters (k : Nat) : ∀ args w, (callFunc (endF k) args).run Try.prog w = .ok (.enter (endF k) args) w := by
  unfold endF
  split
  · exact enters_of Try.func37 (by kernel_rfl) rfl
  · exact enters_of Try.func39 (by kernel_rfl) rfl

theorem end_any (k : Nat) {G : Nat → Prop} {w0 wr : World} {p q : Nat} {X Y : Dk} {K : Nat} (h : Two G w0 wr p q X Y K) (hK : K ≤ 1000000) (hc : X.Calm) :
    Calls Try.prog (endF k) #[.pointer (some ⟨p, 0, none⟩)] wr fun e w' => e = .returned (.int .i64 0) ∧ Two G w0 w' p q (endK k X) Y (K + 1) := by
  unfold endF endK
  split
  · exact end_sync h hK hc
  · exact end_crash h hK

theorem endK_length (k : Nat) (D : Dk) : (endK k D).arr.length = D.arr.length := by
  unfold endK Dk.sync Dk.crash Dk.arrive
  have h : (D.callD 0 true).arr = D.arr := by unfold Dk.callD; split <;> (try rfl); split <;> (try rfl); split <;> (try rfl); split <;> rfl
  split
  · split <;> simp [h]
  · simp

end Go.Proofs.Ytbimkhdiplnbfaa
