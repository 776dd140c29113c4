/- Walks of the laws: says, whatever is called. -/
import Derived.Test.YtbimkhdiplnbfaaU5
import Derived.Test.YtbimkhdiplnbfaaU17
import Derived.Test.YtbimkhdiplnbfaaU20
import Derived.Test.YtbimkhdiplnbfaaU21

namespace Go.Proofs.Ytbimkhdiplnbfaa
open Go.RowKit

/-- The reference's value of a disk, apart from the blocks F. -/
def RefAt (F : Nat → Prop) (w : World) (D : Dk) (v : Value) : Prop :=
  ∃ Aa Ac Ra Rc, v = refV Aa D.arr.length Ac Ra D.row.length Rc D.ops D.arm D.fail D.dead ∧ ArrS w Aa Ac D.arr ∧ RowR w Ra Rc D.row ∧ (∀ a, Aa = some a → ¬ F a.block) ∧ ∀ a, Ra = some a → ¬ F a.block

theorem ownBlock_slice {a : Option Addr} {n c k : Nat} (h : (Value.slice a n c).ownBlock = some k) : ∃ b, a = some b ∧ b.block = k := by
  cases a with
  | none => simp [Value.ownBlock] at h
  | some b => exact ⟨b, rfl, by simpa [Value.ownBlock] using h⟩

theorem RefAt.kept {F : Nat → Prop} {w w' : World} {D : Dk} {v : Value} (h : RefAt F w D v) (hu : Upd F w w') : RefAt F w' D v := by
  obtain ⟨Aa, Ac, Ra, Rc, h1, h2, h3, h4, h5⟩ := h
  refine ⟨Aa, Ac, Ra, Rc, h1, ownsRow_any h2 hu (fun k hk => ?_), ownsRow_any h3 hu (fun k hk => ?_), h4, h5⟩
  · obtain ⟨b, rfl, rfl⟩ := ownBlock_slice hk; exact h4 b rfl
  · obtain ⟨b, rfl, rfl⟩ := ownBlock_slice hk; exact h5 b rfl

theorem RefAt.part {F F' : Nat → Prop} {w : World} {D : Dk} {v : Value} (h : RefAt F w D v) (hF : ∀ k, F' k → F k ∨ w.heap.size ≤ k) : RefAt F' w D v := by
  obtain ⟨Aa, Ac, Ra, Rc, h1, h2, h3, h4, h5⟩ := h
  refine ⟨Aa, Ac, Ra, Rc, h1, h2, h3, fun a ha e => ?_, fun a ha e => ?_⟩
  · have := (h2.lt a.block (by rw [ha]; rfl)).2
    rcases hF _ e with e | e
    · exact h4 a ha e
    · omega
  · have := (h3.lt a.block (by rw [ha]; rfl)).2
    rcases hF _ e with e | e
    · exact h5 a ha e
    · omega

theorem RefAt.turn {F F' : Nat → Prop} {w w' : World} {D : Dk} {v : Value} (h : RefAt F w D v) (hu : Upd F w w') (hF : ∀ k, F' k → F k ∨ w.heap.size ≤ k) : RefAt F' w' D v := by
  have h0 := h.kept hu
  obtain ⟨Aa, Ac, Ra, Rc, h1, h2, h3, h4, h5⟩ := h.part hF
  obtain ⟨Ab, Bc, Rb, Rd, g1, g2, g3, g4, g5⟩ := h0
  have e := h1.symm.trans g1
  unfold refV at e
  simp at e
  obtain ⟨⟨rfl, rfl⟩, rfl, rfl⟩ := e
  exact ⟨Aa, Ac, Ra, Rc, h1, g2, g3, h4, h5⟩

theorem rowR_nil (w : World) : RowR w none 0 [] := World.ownsRow_nil w 0 150 65

theorem meets_callD {D : Dk} {i : Int} {wr : Bool} (h : whyE D.dead D.arr.length i = 0) :
    MeetsAs wr D.ops D.arm D.fail D.dead (D.callD i wr).ops (D.callD i wr).arm (D.callD i wr).fail (D.callE i wr) (D.callD i wr).dead ∧
      (D.callD i wr).arr = D.arr ∧ (D.callD i wr).row = D.row ∧ (D.callD i wr).sent = D.sent ∧ D.callR i wr = decide (D.callE i wr ≠ 8) ∧ D.dead = false ∧ 0 ≤ i ∧ i < D.arr.length := by
  unfold whyE at h
  cases hd : D.dead with
  | true => rw [hd] at h; simp at h
  | false =>
    rw [hd] at h
    have hi : ¬ (i < 0 ∨ (D.arr.length : Int) ≤ i) := by
      intro hi; simp [hi] at h
    unfold MeetsAs meetE Dk.callD Dk.callE Dk.callR
    rw [hd]
    simp only [Bool.false_eq_true, if_false, if_neg hi, Bool.not_false, Bool.true_and, decide_not, decide_eq_true hi]
    by_cases h1 : wr = true ∧ D.arm = 0
    · simp [h1]; omega
    · by_cases h2 : D.fail = 0
      · simp [h1, h2]; omega
      · simp [h1, h2]; omega

theorem why_no {D : Dk} {i : Int} (h : whyE D.dead D.arr.length i ≠ 0) (wr : Bool) : D.callD i wr = D ∧ D.callE i wr = whyE D.dead D.arr.length i ∧ D.callR i wr = false := by
  unfold whyE at h ⊢
  unfold Dk.callD Dk.callE Dk.callR
  cases hd : D.dead with
  | true => simp
  | false =>
    rw [hd] at h
    by_cases hi : i < 0 ∨ (D.arr.length : Int) ≤ i
    · simp [hi]
    · simp [hi] at h

theorem why_zero {D : Dk} (hn : 1 ≤ D.arr.length) : whyE D.dead D.arr.length 0 = D.awake := by
  unfold whyE Dk.awake
  split
  · rfl
  · rw [if_neg (by omega)]

def Said (F : Nat → Prop) (w : World) (D' : Dk) (B : List Int) (E : Int) (e : Ending) (w' : World) : Prop :=
  ∃ v', RefAt F w' D' v' ∧ e = .returned (.tuple #[v', .agg (bcells B).toArray, .int .i64 E]) ∧ Upd (fun _ => False) w w'

theorem says_any {F : Nat → Prop} {D : Dk} {K : Nat} (x : CallR) (Bk : Nat → Bool) (v : Value) (w : World) (hk : KeepIn w x.ka x.kn x.kc Bk) (h : RefAt F w D v) (hF : ∀ k, F k → k < w.heap.size) (hok : D.Ok K) (hK : K ≤ 1000000) :
    Calls Try.prog 45 #[.agg #[.int .i64 x.k, .int .i64 x.i, .int .i64 x.n, .int .u8 x.c, .slice x.ka x.kn x.kc], v] w (Said F w (D.next x Bk) (D.gotB x) (D.gotE x)) := by
  obtain ⟨Aa, Ac, Ra, Rc, rfl, hA, hR, hfA, hfR⟩ := h
  have hl : ∀ y ∈ D.row, y.2.1.length = 64 := fun y hy => (hok.rblks y hy).1.1
  have hal : ∀ b ∈ D.arr, b.length = 64 := fun b hb => (hok.blks b hb).1
  have hRl : D.row.length ≤ 1000000 := Nat.le_trans hok.rowlen hK
  have hlen := hok.len
  have ho : 0 ≤ D.ops ∧ D.ops ≤ 1000000 := by have := hok.ops; omega
  have hr := kindOf_range x.k
  unfold Dk.gotB Dk.gotE Dk.next
  by_cases h9 : kindOf x.k = 9
  · rw [if_pos h9, if_neg (by omega), if_pos h9]
    refine (says_crash x.k x.i x.n x.c x.ka x.kn x.kc Aa Ra Ac Rc D.arr D.row D.ops D.arm D.fail D.dead w Bk h9 hk hA hR hl hal hRl hlen).mono ?_
    rintro e w' ⟨g, c', hg, he, ha, hu⟩
    have hfg : ∀ a, some (⟨g, 0, none⟩ : Addr) = some a → ¬ F a.block := fun a e h => by
      have := Option.some.inj e
      subst this
      have := hF g h
      omega
    have hca := crash_arr hok (keeps x.kn Bk)
    refine ⟨_, ⟨some ⟨g, 0, none⟩, c', none, 0, rfl, ?_, rowR_nil w', hfg, fun a e => by cases e⟩, ?_, hu⟩
    · rw [hca]; exact ha
    · rw [he, hca]; simp [refV, Dk.crash, Dk.arrive]
  rw [if_neg h9, if_neg h9]
  by_cases h5 : 5 < kindOf x.k
  · by_cases hw : whyE D.dead D.arr.length 0 = 0
    · have haw : D.awake = 0 := by rw [← why_zero hlen.1]; exact hw
      have hdd : D.dead = false := by
        cases hd : D.dead with
        | false => rfl
        | true => unfold Dk.awake at haw; rw [hd] at haw; simp at haw
      by_cases h8 : kindOf x.k = 8
      · rw [if_pos h8, if_neg (by omega), if_pos h8, haw]
        refine (says_fail x.k x.i x.n x.c x.ka x.kn x.kc Aa Ra Ac Rc D.arr D.row D.ops D.arm D.fail D.dead w h8 hlen.2 (Lib.hid hw)).mono ?_
        rintro e w' ⟨he, hu⟩
        have hD : D.doFail x.n = { D with fail := max x.n (-1) } := by unfold Dk.doFail; rw [if_neg (by simp [hdd])]
        rw [hD]
        exact ⟨_, ⟨Aa, Ac, Ra, Rc, rfl, hA.kept hu, hR.kept hu, hfA, hfR⟩, he, hu⟩
      rw [if_neg h8, if_neg h8]
      by_cases h7 : kindOf x.k = 7
      · rw [if_pos h7, if_neg (by omega), if_pos h7, haw]
        refine (says_arm x.k x.i x.n x.c x.ka x.kn x.kc Aa Ra Ac Rc D.arr D.row D.ops D.arm D.fail D.dead w h7 hlen.2 (Lib.hid hw)).mono ?_
        rintro e w' ⟨he, hu⟩
        have hD : D.doArm x.n = { D with arm := max x.n (-1) } := by unfold Dk.doArm; rw [if_neg (by simp [hdd])]
        rw [hD]
        exact ⟨_, ⟨Aa, Ac, Ra, Rc, rfl, hA.kept hu, hR.kept hu, hfA, hfR⟩, he, hu⟩
      rw [if_neg h7, if_neg h7]
      have h6 : kindOf x.k = 6 := by omega
      rw [if_pos h6, if_neg (by omega), if_pos h6]
      obtain ⟨hm, m1, m2, m3, m4, m5, m6, m7⟩ := meets_callD (wr := true) hw
      by_cases hE : D.callE 0 true = 0
      · refine (says_all x.k x.i x.n x.c x.ka x.kn x.kc Aa Ra Ac Rc D.arr D.row D.ops D.arm D.fail D.dead w h6 hA hR hl hal hRl hlen (Lib.hid hw) ho hok.arm hok.fail (Lib.hid hm) hE).mono ?_
        rintro e w' ⟨g, c', hg, he, ha, hu⟩
        have hfg : ∀ a, some (⟨g, 0, none⟩ : Addr) = some a → ¬ F a.block := fun a e h => by
          have := Option.some.inj e
          subst this
          have := hF g h
          omega
        have hs : D.sync = (D.callD 0 true).arrive (fun _ => false) := by unfold Dk.sync; rw [if_pos hE]
        have haa := arrive_all_arr (D.callD 0 true)
        rw [m1, m2] at haa
        rw [hs, hE]
        refine ⟨_, ⟨some ⟨g, 0, none⟩, c', none, 0, rfl, ?_, rowR_nil w', hfg, fun a e => by cases e⟩, ?_, hu⟩
        · rw [haa]; exact ha
        · rw [he, haa]; simp [refV, Dk.arrive]
      · refine (says_stop6 x.k x.i x.n x.c x.ka x.kn x.kc Aa Ra Ac Rc D.arr D.row D.ops D.arm D.fail D.dead w h6 hA hR hl hal hRl hlen (Lib.hid hw) ho hok.arm hok.fail (Lib.hid hm) (by simpa using hE)).mono ?_
        rintro e w' ⟨he, hu⟩
        have hs : D.sync = D.callD 0 true := by unfold Dk.sync; rw [if_neg hE]
        rw [hs]
        refine ⟨_, ⟨Aa, Ac, Ra, Rc, rfl, ?_, ?_, hfA, hfR⟩, ?_, hu⟩
        · rw [m1]; exact hA.kept hu
        · rw [m2]; exact hR.kept hu
        · rw [he, m1, m2]; rfl
    · obtain ⟨w1, w2, w3⟩ := why_no hw true
      have haw : D.awake = whyE D.dead D.arr.length 0 := (why_zero hlen.1).symm
      have hdd : D.dead = true := by
        cases hd : D.dead with
        | true => rfl
        | false => unfold Dk.awake at haw; rw [hd] at haw; rw [hd] at hw; exact absurd haw.symm hw
      refine (says_whyb x.k x.i x.n x.c x.ka x.kn x.kc Aa Ra Ac Rc D.arr D.row D.ops D.arm D.fail D.dead w rfl (by omega) h5 hlen.2 (Lib.hid rfl) (by simpa using hw)).mono ?_
      rintro e w' ⟨he, hu⟩
      have e1 : D.doFail x.n = D := by unfold Dk.doFail; rw [if_pos hdd]
      have e2 : D.doArm x.n = D := by unfold Dk.doArm; rw [if_pos hdd]
      have e3 : D.sync = D := by unfold Dk.sync; rw [if_neg (by rw [w2]; exact hw), w1]
      have eB : (if kindOf x.k = 5 then D.reads x.i else zblk) = zblk := if_neg (by omega)
      rw [e1, e2, e3, haw, w2, eB]
      have e4 : (if kindOf x.k = 8 then D else if kindOf x.k = 7 then D else if kindOf x.k = 6 then D else if kindOf x.k = 5 then D.callD x.i false else D.write x.i (fill x.c)) = D := by
        by_cases h8 : kindOf x.k = 8
        · rw [if_pos h8]
        by_cases h7 : kindOf x.k = 7
        · rw [if_neg h8, if_pos h7]
        · rw [if_neg h8, if_neg h7, if_pos (by omega)]
      have e5 : (if kindOf x.k = 8 then whyE D.dead D.arr.length 0 else if kindOf x.k = 7 then whyE D.dead D.arr.length 0 else if kindOf x.k = 6 then whyE D.dead D.arr.length 0 else if kindOf x.k = 5 then D.callE x.i false else D.callE x.i true) = whyE D.dead D.arr.length 0 := by
        by_cases h8 : kindOf x.k = 8
        · rw [if_pos h8]
        by_cases h7 : kindOf x.k = 7
        · rw [if_neg h8, if_pos h7]
        · rw [if_neg h8, if_neg h7, if_pos (by omega)]
      rw [e4, e5]
      exact ⟨_, ⟨Aa, Ac, Ra, Rc, rfl, hA.kept hu, hR.kept hu, hfA, hfR⟩, he, hu⟩
  · have h8 : ¬ kindOf x.k = 8 := by omega
    have h7 : ¬ kindOf x.k = 7 := by omega
    have h6 : ¬ kindOf x.k = 6 := by omega
    simp only [if_neg h8, if_neg h7, if_neg h6]
    by_cases hw : whyE D.dead D.arr.length x.i = 0
    · by_cases hκ : kindOf x.k = 5
      · rw [if_pos hκ, if_pos hκ, if_pos hκ]
        obtain ⟨hm, m1, m2, m3, m4, m5, m6, m7⟩ := meets_callD (wr := false) hw
        obtain ⟨j, hj⟩ : ∃ j : Nat, x.i = j := ⟨x.i.toNat, by omega⟩
        by_cases hE : D.callE x.i false = 0
        · rw [hj] at hw hm hE m1 m2 m4 m7 ⊢
          refine (says_shows x.k x.n x.c j x.ka x.kn x.kc Aa Ra Ac Rc D.arr D.row D.ops D.arm D.fail D.dead w hκ hA hR hl hal hRl hlen (Lib.hid hw) ho hok.arm hok.fail (Lib.hid hm) hE (by omega)).mono ?_
          rintro e w' ⟨he, hu⟩
          have hrd : D.reads (j : Int) = shL j (D.arr.getD j []) D.row := by
            unfold Dk.reads
            rw [m4, hE, shL_shows]
            simp
          rw [hrd, hE]
          refine ⟨_, ⟨Aa, Ac, Ra, Rc, rfl, ?_, ?_, hfA, hfR⟩, ?_, hu⟩
          · rw [m1]; exact hA.kept hu
          · rw [m2]; exact hR.kept hu
          · rw [he, m1, m2]; rfl
        · refine (says_stop5 x.k x.i x.n x.c x.ka x.kn x.kc Aa Ra Ac Rc D.arr D.row D.ops D.arm D.fail D.dead w hκ hA hR hl hal hRl hlen (Lib.hid hw) ho hok.arm hok.fail (Lib.hid hm) (by simpa using hE)).mono ?_
          rintro e w' ⟨he, hu⟩
          have hE8 : D.callE x.i false = 8 := by
            have := hm.1
            unfold meetE at this
            simp at this
            omega
          have hrd : D.reads x.i = zblk := by
            unfold Dk.reads
            rw [m4, hE8]
            simp
          rw [hrd]
          refine ⟨_, ⟨Aa, Ac, Ra, Rc, rfl, ?_, ?_, hfA, hfR⟩, ?_, hu⟩
          · rw [m1]; exact hA.kept hu
          · rw [m2]; exact hR.kept hu
          · rw [he, m1, m2]; rfl
      · rw [if_neg hκ, if_neg hκ, if_neg hκ]
        obtain ⟨hm, m1, m2, m3, m4, m5, m6, m7⟩ := meets_callD (wr := true) hw
        obtain ⟨j, hj⟩ : ∃ j : Nat, x.i = j := ⟨x.i.toNat, by omega⟩
        by_cases hE : D.callE x.i true = 8
        · refine (says_fell x.k x.i x.n x.c x.ka x.kn x.kc Aa Ra Ac Rc D.arr D.row D.ops D.arm D.fail D.dead w rfl (by omega) hA hR hl hal hRl hlen (Lib.hid hw) ho hok.arm hok.fail (Lib.hid hm) hE).mono ?_
          rintro e w' ⟨he, hu⟩
          have hwr : D.write x.i (fill x.c) = D.callD x.i true := by
            unfold Dk.write
            rw [m4, hE]
            simp
          rw [hwr]
          refine ⟨_, ⟨Aa, Ac, Ra, Rc, rfl, ?_, ?_, hfA, hfR⟩, ?_, hu⟩
          · rw [m1]; exact hA.kept hu
          · rw [m2]; exact hR.kept hu
          · rw [he, m1, m2]; rfl
        · rw [hj] at hw hm hE m1 m2 m3 m4 m7 ⊢
          refine (says_send x.k x.n x.c j x.ka x.kn x.kc Aa Ra Ac Rc D.arr D.row D.ops D.arm D.fail D.dead w rfl (by omega) hA hR hl hal hRl hlen (Lib.hid hw) ho hok.arm hok.fail (D.sent + 1) (Lib.hid hm) (by simpa using hE)).mono ?_
          rintro e w' ⟨g, c', hg, he, ha, hu⟩
          have hfg : ∀ a, some (⟨g, 0, none⟩ : Addr) = some a → ¬ F a.block := fun a e h => by
            have := Option.some.inj e
            subst this
            have := hF g h
            omega
          have hwr : D.write (j : Int) (fill x.c) = (D.callD j true).send j (fill x.c) := by
            unfold Dk.write
            rw [m4]
            simp [hE]
          have hrow : (D.write (j : Int) (fill x.c)).row = D.row ++ [(j, fill x.c, D.sent + 1)] := by
            rw [hwr]
            show (D.callD j true).row ++ [(j, fill x.c, (D.callD j true).sent + 1)] = _
            rw [m2, m3]
          have harr : (D.write (j : Int) (fill x.c)).arr = D.arr := by rw [hwr]; exact m1
          refine ⟨_, ⟨Aa, Ac, some ⟨g, 0, none⟩, c', rfl, ?_, ?_, hfA, hfg⟩, ?_, hu⟩
          · rw [harr]; exact hA.kept hu
          · rw [hrow]; exact ha
          · rw [he, harr, hrow, hwr]; simp [refV, Dk.send]
    · refine (says_whya x.k x.i x.n x.c x.ka x.kn x.kc Aa Ra Ac Rc D.arr D.row D.ops D.arm D.fail D.dead w rfl (by omega) (by omega) hlen.2 (Lib.hid rfl) (by simpa using hw)).mono ?_
      rintro e w' ⟨he, hu⟩
      obtain ⟨a1, a2, a3⟩ := why_no hw true
      obtain ⟨b1, b2, b3⟩ := why_no hw false
      have e1 : D.write x.i (fill x.c) = D := by unfold Dk.write; rw [a3, a1]; simp
      have e2 : D.reads x.i = zblk := by unfold Dk.reads; rw [b3]; simp
      rw [e1, b1, e2, a2, b2]
      simp only [ite_self]
      exact ⟨_, ⟨Aa, Ac, Ra, Rc, rfl, hA.kept hu, hR.kept hu, hfA, hfR⟩, he, hu⟩

end Go.Proofs.Ytbimkhdiplnbfaa
