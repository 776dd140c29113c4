/- Walks of the laws: what wakes asks, in plain terms. -/
import Derived.Test.YtbimkhdiplnbfaaU5
import Derived.Test.YtbimkhdiplnbfaaU14
import Derived.Test.YtbimkhdiplnbfaaU15
import Derived.Test.YtbimkhdiplnbfaaU16
import Derived.Test.YtbimkhdiplnbfaaU18

section
namespace Go.Proofs.Ytbimkhdiplnbfaa
open Go.RowKit Go.Deep

def lit1 (c : Int) : List Int := c :: List.replicate 63 0

theorem lit1_ok {c : Int} (h : 0 ≤ c ∧ c ≤ 255) : okBlk (lit1 c) := ⟨by simp [lit1], fun x hx => by
  simp [lit1] at hx; omega⟩

def wk1 : Dk := (Dk.new 4).write 2 (lit1 5)
def wk2 : Dk := wk1.write 1 (lit1 6)
def wk3 : Dk := wk2.write 2 (lit1 7)
def wk4 : Dk := wk3.crash [true, false, false]

theorem wk_oks : wk1.Ok 100 ∧ wk2.Ok 100 ∧ wk3.Ok 100 ∧ wk4.Ok 100 := by
  have h0 : (Dk.new 4).Ok 0 := Dk.new_ok (by omega) 0
  have h1 := h0.write 2 (lit1_ok (c := 5) (by omega))
  have h2 := h1.write 1 (lit1_ok (c := 6) (by omega))
  have h3 := h2.write 2 (lit1_ok (c := 7) (by omega))
  exact ⟨h1.mono (by omega), h2.mono (by omega), h3.mono (by omega), (h3.crash _).mono (by omega)⟩

theorem wk_e1 : (Dk.new 4).callE 2 true = 0 := by decide +kernel
theorem wk_e2 : wk1.callE 1 true = 0 := by decide +kernel
theorem wk_e3 : wk2.callE 2 true = 0 := by decide +kernel
theorem wk_e4 : wk4.callE 2 false = 0 := by decide +kernel
theorem wk_r4 : wk4.reads 2 = lit1 5 := by decide +kernel
theorem wk_row : wk3.row.map (·.1) = [2, 1, 2] := by decide +kernel

/-- Another disk's blocks turned, or new ones came. -/
theorem Left.other {w w' : World} {p q : Nat} {D E : Dk} {F G : Nat → Prop} (h : Left w p D F w') (hE : Dsk w q E G) (hd : ∀ k, F k → ¬ G k) :
    Dsk w' q E G ∧ ∃ F', Dsk w' p D F' ∧ (∀ k, F' k → ¬ G k) ∧ (∀ k, F' k → F k ∨ w.heap.size ≤ k) ∧ Upd F w w' := by
  obtain ⟨F', h1, h2, h3⟩ := h
  refine ⟨hE.kept h3 (fun k hk hf => hd k hf hk), F', h1, fun k hk hg => ?_, h2, h3⟩
  rcases h2 k hk with e | e
  · exact hd k e hg
  · have := hE.lt k hg; omega

theorem write_ok {p : Nat} {D : Dk} {F : Nat → Prop} {K : Nat} (i : Int) (b : List Int) (w : World) (h : Dsk w p D F) (hok : D.Ok K) (hK : K ≤ 1099511627774) (hbl : b.length = 64) (he : D.callE i true = 0) :
    Calls Try.prog 34 #[.pointer (some ⟨p, 0, none⟩), .int .i64 i, .agg (bcells b).toArray] w fun e w' => e = .returned (.int .i64 0) ∧ Left w p (D.write i b) F w' := by
  have := write_any i b w h (hok.mono hK) hbl
  rwa [he] at this

set_option maxRecDepth 100000 in
set_option maxHeartbeats 2000000 in
theorem wakes_run (w : World) : Calls Try.prog 31 #[] w fun e w' => e = .returned (.bool true) ∧ Upd (fun _ => False) w w' := by
  have HO := Lib.hid wk_oks
  go_enter Try.func31, Try.ntmps31
  go_wp2_with (first | (go_at_call 32; refine (new_good 4 _ (by omega)).mono ?_; rintro e w1 ⟨rfl, hN⟩; obtain ⟨F1, hD1, hF1, hu1⟩ := hN.dsk (by omega); clear hN) | (go_at_call 34; fail))
  refine (write_ok 2 (lit1 5) w1 hD1 (Dk.new_ok (by omega) 0) (by omega) (by simp [lit1]) wk_e1).mono ?_
  rintro e w2 ⟨rfl, F2, hD2, hF2, hu2⟩
  have hB2 : ∀ k, F2 k → w.heap.size ≤ k := fun k hk => (hF2 k hk).elim (hF1 k) (fun e => Nat.le_trans hu1.size e)
  have hv2 : Upd (fun _ => False) w w2 := hu1.step hu2 (fun k hk e => by have := hF1 k e; omega)
  have HD := Lib.hid hD2; have HB := Lib.hid hB2; have HV := Lib.hid hv2
  clear hD1 hF1 hu1 hD2 hF2 hu2 hB2 hv2
  simp only []
  go_wp2_with (go_at_call 34; fail)
  refine (write_ok 1 (lit1 6) w2 HD.out HO.out.1 (by omega) (by simp [lit1]) wk_e2).mono ?_
  rintro e w3 ⟨rfl, F3, hD3, hF3, hu3⟩
  have hB3 : ∀ k, F3 k → w.heap.size ≤ k := fun k hk => (hF3 k hk).elim (HB.out k) (fun e => Nat.le_trans HV.out.size e)
  have hv3 : Upd (fun _ => False) w w3 := HV.out.step hu3 (fun k hk e => by have := HB.out k e; omega)
  clear HD HB HV
  have HD := Lib.hid hD3; have HB := Lib.hid hB3; have HV := Lib.hid hv3
  clear hD3 hF3 hu3 hB3 hv3
  simp only []
  go_wp2_with (go_at_call 34; fail)
  refine (write_ok 2 (lit1 7) w3 HD.out HO.out.2.1 (by omega) (by simp [lit1]) wk_e3).mono ?_
  rintro e w4 ⟨rfl, F4, hD4, hF4, hu4⟩
  have hB4 : ∀ k, F4 k → w.heap.size ≤ k := fun k hk => (hF4 k hk).elim (HB.out k) (fun e => Nat.le_trans HV.out.size e)
  have hv4 : Upd (fun _ => False) w w4 := HV.out.step hu4 (fun k hk e => by have := HB.out k e; omega)
  clear HD HB HV
  have HD := Lib.hid hD4; have HB := Lib.hid hB4; have HV := Lib.hid hv4
  clear hD4 hF4 hu4 hB4 hv4
  simp only []
  go_wp2_with fail
  refine (copy_run w4 HD.out (HO.out.2.2.1.mono (by omega))).mono ?_
  rintro e w5 ⟨rfl, g, c, hC⟩
  obtain ⟨Fc, hDc, hFc, hu5⟩ := hC.dsk
  have hD5 := HD.out.kept hu5 (fun _ _ e => e)
  have hL5 := HD.out.lt
  have hv5 : Upd (fun _ => False) w w5 := HV.out.trans hu5
  have hz5 := HV.out.size
  clear HD HV hC
  have HD := Lib.hid hD5; have HL := Lib.hid hL5; have HV := Lib.hid hv5; have HC := Lib.hid hDc; have HFC := Lib.hid hFc
  clear hD5 hL5 hv5 hDc hFc hu5
  simp only []
  go_wp2_with fail
  have hcr := crash_any (w5.alloc (.cells #[.bool true, .bool false, .bool false] 4)) (some ⟨w5.heap.size, 0, none⟩) 3 [true, false, false] (fun i b hb => by
    refine ⟨_, _, rfl, by simp, ?_⟩
    rw [cell_of_heap (alloc_at rfl)]
    have hi := (List.getElem?_eq_some_iff.1 hb).1
    simp only [List.length_cons, List.length_nil] at hi
    rcases i with _ | _ | _ | i
    · simp at hb ⊢; exact hb
    · simp at hb ⊢; exact hb
    · simp at hb ⊢; exact hb
    · omega) (by simp) (HC.out.kept (G := fun _ => False) ((Upd.refl _ _).alloc _) (fun _ _ e => e)) (HO.out.2.2.1.mono (by omega))
  refine hcr.mono ?_
  rintro e w6 ⟨rfl, F6, hD6, hF6, hu6⟩
  clear hcr
  have hu56 : Upd Fc w5 w6 := ((Upd.refl _ _).alloc _).trans hu6
  have hz6 := hu6.size
  have hs6 := World.size_alloc w5 (.cells #[.bool true, .bool false, .bool false] 4)
  have hDd := HD.out.kept hu56 (fun k hk e => by have := HL.out k hk; have := HFC.out k e; omega)
  have hB6 : ∀ k, F6 k → w4.heap.size ≤ k := fun k hk => (hF6 k hk).elim (HFC.out k) (fun e => by have := HV.out.size; have := HC.out.lt _ HC.out.mem; have := HFC.out _ HC.out.mem; omega)
  have hv6 : Upd (fun _ => False) w w6 := HV.out.step hu56 (fun k hk e => by have := HFC.out k e; omega)
  clear HD HV HC
  have HD := Lib.hid hDd; have HV := Lib.hid hv6; have HC := Lib.hid hD6; have HB6 := Lib.hid hB6
  clear hDd hv6 hD6 hu56 hu6 hF6 hB6 hz6 hs6
  simp only []
  go_wp2_with fail
  have hre := read_any (D := wk4) 2 w6 HC.out (HO.out.2.2.2.mono (by omega))
  have e4 : wk4.reads 2 = lit1 5 := wk_r4
  have e5 : wk4.callE 2 false = 0 := wk_e4
  rw [e4, e5] at hre
  have hle : (bcells (lit1 5)).length = 64 := by simp [bcells, lit1]
  have hi : (Try.prog.info? 56).map (·.size) = some (bcells (lit1 5)).length := by rw [Try.info56p, hle]
  have H1B := Lib.hid (all_oneCell_toArray (bcells_one (lit1 5)))
  have hget : (bcells (lit1 5))[0]? = some (.int .u8 5) := by simp [bcells, lit1]
  have HI := Lib.hid hi; have HLE := Lib.hid hle; have HG := Lib.hid hget
  clear hi hle hget e4 e5
  generalize bcells (lit1 5) = bs at *
  refine hre.mono ?_
  rintro e w7 ⟨rfl, hD7, hu7⟩
  clear hre
  have hDd := HD.out.kept hu7 (fun k hk e => by have := HL.out k hk; have := HB6.out k e; omega)
  have hv7 : Upd (fun _ => False) w w7 := HV.out.step hu7 (fun k hk e => by have := HB6.out k e; omega)
  clear HD HV HC hD7 hu7
  have HD := Lib.hid hDd; have HV := Lib.hid hv7
  clear hDd hv7
  simp only []
  iterate 13 go_step
  have hblk : (w7.alloc (.cells (bcells zblk).toArray 56)).heap[w7.heap.size]? = some (.cells (bcells zblk).toArray 56 (0, 0)) := alloc_at rfl
  have hzl : (bcells zblk).toArray.size = bs.toArray.size := by simp [bcells, zblk, HLE.out]
  have hth : (w7.alloc (.cells (bcells zblk).toArray 56)).there w7.heap.size 0 bs.toArray.size := by
    have := there_block hblk
    rwa [hzl] at this
  refine wpList_store_mid rfl 56 (.tmp 4) (.tmp 42) rfl w7.heap.size 0 bs.toArray rfl rfl hth (by rw [HI.out]; simp) H1B.out ?_
  have hb8 := heap_setCells_whole (vs := bs) hblk (by rw [hzl]; simp)
  have hu8 : Upd (fun _ => False) w7 ((w7.alloc (.cells (bcells zblk).toArray 56)).setCells w7.heap.size 0 bs) := by
    have := Upd.setCells (F := fun j => w7.heap.size ≤ j) (b := w7.heap.size) (Nat.le_refl _) bs 0 ((Upd.refl _ w7).alloc (.cells (bcells zblk).toArray 56))
    exact this.mono (fun j hj e => by omega)
  obtain ⟨w8, hw8⟩ : ∃ w8, w8 = (w7.alloc (.cells (bcells zblk).toArray 56)).setCells w7.heap.size 0 bs := ⟨_, rfl⟩
  rw [← hw8] at hb8 hu8
  refine (?_ : wpList _ _ _ _ _ ((w7.alloc (.cells (bcells zblk).toArray 56)).setCells w7.heap.size 0 bs))
  rw [← hw8]
  have c5 : w8.cell? ⟨w7.heap.size, 0, none⟩ = some (.int .u8 5) := by
    rw [cell_of_heap hb8]
    have := HG.out
    simpa using this
  have hD8 := HD.out.kept hu8 (fun _ _ e => e)
  have hv8 : Upd (fun _ => False) w w8 := HV.out.trans hu8
  clear HD HV hblk hth hb8 hu8 hw8 hzl
  have HD := Lib.hid hD8; have HV := Lib.hid hv8
  clear hD8 hv8
  go_wp2_with (go_at_call 52; fail)
  have hpe := pending_any (D := wk3) w8 HD.out (HO.out.2.2.1.mono (by omega))
  rw [wk_row, show wk3.row.length = 3 by rw [← List.length_map (f := (·.1)), wk_row]; rfl] at hpe
  refine hpe.mono ?_
  rintro e w9 ⟨u, rfl, hown, hu9⟩
  have HE := Lib.hid (equal_own (u := u) (v := .slice (some ⟨w9.heap.size, 0, none⟩) 3 3) (xs := [2, 1, 2]) (ys := [2, 1, 2]) (B' := 0) (ownsRow_any hown ((Upd.refl (fun _ => False) w9).alloc (.cells #[.int .i64 2, .int .i64 1, .int .i64 2] 3)) (fun _ _ e => e))
    ⟨rfl, .inr ⟨w9.heap.size, 3, _, rfl, Nat.zero_le _, alloc_at rfl, by simp, by decide, rfl, rfl⟩⟩)
  have HV9 := Lib.hid (HV.out.trans hu9)
  clear hpe hown hu9 HD HV
  simp only []
  go_wp2_with (go_at_call 80; fail)
  refine HE.out.mono ?_
  rintro e w10 ⟨rfl, hu10⟩
  have HV10 := Lib.hid (HV9.out.trans (((Upd.refl _ w9).alloc _).trans hu10))
  clear HE HV9 hu10
  simp only []
  go_wp2
  go_ret
  exact ⟨rfl, HV10.out⟩

end Go.Proofs.Ytbimkhdiplnbfaa
end

section
namespace Go.Proofs.Ytbimkhdiplnbfaa
open Go.RowKit

/-- What a crash keeps. -/
def keeps (kn : Nat) (Bk : Nat → Bool) : List Bool := (List.range (min kn 80)).map Bk

/-- A disk behind a call, what was read, and the number. -/
def Dk.next (D : Dk) (x : CallR) (Bk : Nat → Bool) : Dk :=
  if kindOf x.k = 9 then D.crash (keeps x.kn Bk) else if kindOf x.k = 8 then D.doFail x.n else if kindOf x.k = 7 then D.doArm x.n else
  if kindOf x.k = 6 then D.sync else if kindOf x.k = 5 then D.callD x.i false else D.write x.i (fill x.c)
def Dk.gotE (D : Dk) (x : CallR) : Int :=
  if kindOf x.k = 9 then 0 else if kindOf x.k = 8 then D.awake else if kindOf x.k = 7 then D.awake else
  if kindOf x.k = 6 then D.callE 0 true else if kindOf x.k = 5 then D.callE x.i false else D.callE x.i true
def Dk.gotB (D : Dk) (x : CallR) : List Int := if kindOf x.k = 5 then D.reads x.i else zblk

theorem Dk.Ok.doArm {D : Dk} {K : Nat} (h : D.Ok K) {n : Int} (hn : n ≤ 9223372036854775807) : (D.doArm n).Ok K := by
  unfold Dk.doArm
  split
  · exact h
  · exact ⟨h.len, h.blks, h.rblks, h.sorted, h.sent, h.ops, by show -1 ≤ max n (-1) ∧ max n (-1) ≤ _; omega, h.fail, h.rowlen⟩
theorem Dk.Ok.doFail {D : Dk} {K : Nat} (h : D.Ok K) {n : Int} (hn : n ≤ 9223372036854775807) : (D.doFail n).Ok K := by
  unfold Dk.doFail
  split
  · exact h
  · exact ⟨h.len, h.blks, h.rblks, h.sorted, h.sent, h.ops, h.arm, by show -1 ≤ max n (-1) ∧ max n (-1) ≤ _; omega, h.rowlen⟩

theorem Dk.Ok.next {D : Dk} {K : Nat} (h : D.Ok K) (x : CallR) (Bk : Nat → Bool) (hc : 0 ≤ x.c ∧ x.c ≤ 255) (hn : x.n ≤ 9223372036854775807) : (D.next x Bk).Ok (K + 2) := by
  unfold Dk.next
  split
  · exact (h.crash _).mono (by omega)
  split
  · exact (h.doFail hn).mono (by omega)
  split
  · exact (h.doArm hn).mono (by omega)
  split
  · exact h.sync.mono (by omega)
  split
  · exact (h.callD _ _).mono (by omega)
  · exact h.write _ (fill_ok hc)

theorem gotB_blk {D : Dk} {K : Nat} (h : D.Ok K) (x : CallR) : (D.gotB x).length = 64 := by
  unfold Dk.gotB
  split
  · exact (reads_blk h x.i).1
  · simp [zblk]

theorem on_any {p : Nat} {D : Dk} {F : Nat → Prop} {K : Nat} (x : CallR) (Bk : Nat → Bool) (w : World) (hk : KeepIn w x.ka x.kn x.kc Bk) (h : Dsk w p D F) (hok : D.Ok K) (hK : K ≤ 1000000) :
    Calls Try.prog 44 #[.agg #[.int .i64 x.k, .int .i64 x.i, .int .i64 x.n, .int .u8 x.c, .slice x.ka x.kn x.kc], .pointer (some ⟨p, 0, none⟩)] w fun e w' =>
      e = .returned (.tuple #[.agg (bcells (D.gotB x)).toArray, .int .i64 (D.gotE x)]) ∧ Left w p (D.next x Bk) F w' := by
  have hF := h.lt
  have hk2 : D.Ok 1099511627773 := hok.mono (by omega)
  have hr := kindOf_range x.k
  unfold Dk.gotB Dk.gotE Dk.next
  by_cases h9 : kindOf x.k = 9
  · rw [if_neg (by omega), if_pos h9, if_pos h9]
    refine (on_crash (F := F) x.k x.i x.n x.c x.ka x.kn x.kc Bk w hk hF 0 (fun W1 W2 => Left W1 p (D.crash (keeps x.kn Bk)) F W2) h9 (fun W ka' kc' hu hb => ?_)).mono ?_
    · have hl : (keeps x.kn Bk).length = min x.kn 80 := by simp [keeps]
      have := crash_any W ka' kc' (keeps x.kn Bk) hb (by rw [hl]; omega) (h.kept hu (fun _ _ e => e)) (hk2.mono (by omega))
      rw [hl] at this
      refine this.mono ?_
      rintro e w' ⟨g1, g2⟩
      exact ⟨g1, g2, g2.upd⟩
    · rintro e w' ⟨g1, g2⟩
      exact ⟨g1, g2.left hF⟩
  by_cases h8 : kindOf x.k = 8
  · rw [if_neg (by omega), if_neg h9, if_neg h9, if_pos h8, if_pos h8]
    refine (on_fail (F := F) x.k x.i x.n x.c x.ka x.kn x.kc w hF D.awake (fun W1 W2 => Left W1 p (D.doFail x.n) F W2) h8 (fun W hu => (doFail_any x.n W (h.kept hu (fun _ _ e => e))).mono ?_)).mono ?_
    · rintro e w' ⟨g1, g2, g3⟩
      have hu3 : Upd F W w' := g3.mono (fun k _ e => by rw [e]; exact h.mem)
      exact ⟨g1, ⟨F, g2, fun _ hk => .inl hk, hu3⟩, hu3⟩
    · rintro e w' ⟨g1, g2⟩
      exact ⟨g1, g2.left hF⟩
  by_cases h7 : kindOf x.k = 7
  · rw [if_neg (by omega), if_neg h9, if_neg h9, if_neg h8, if_neg h8, if_pos h7, if_pos h7]
    refine (on_arm (F := F) x.k x.i x.n x.c x.ka x.kn x.kc w hF D.awake (fun W1 W2 => Left W1 p (D.doArm x.n) F W2) h7 (fun W hu => (doArm_any x.n W (h.kept hu (fun _ _ e => e))).mono ?_)).mono ?_
    · rintro e w' ⟨g1, g2, g3⟩
      have hu3 : Upd F W w' := g3.mono (fun k _ e => by rw [e]; exact h.mem)
      exact ⟨g1, ⟨F, g2, fun _ hk => .inl hk, hu3⟩, hu3⟩
    · rintro e w' ⟨g1, g2⟩
      exact ⟨g1, g2.left hF⟩
  rw [if_neg h9, if_neg h9, if_neg h8, if_neg h8, if_neg h7, if_neg h7]
  by_cases h6 : kindOf x.k = 6
  · rw [if_neg (by omega), if_pos h6, if_pos h6]
    refine (on_sync (F := F) x.k x.i x.n x.c x.ka x.kn x.kc w hF (D.callE 0 true) (fun W1 W2 => Left W1 p D.sync F W2) h6 (fun W hu => (sync_any W (h.kept hu (fun _ _ e => e)) hk2).mono ?_)).mono ?_
    · rintro e w' ⟨g1, g2⟩
      exact ⟨g1, g2, g2.upd⟩
    · rintro e w' ⟨g1, g2⟩
      exact ⟨g1, g2.left hF⟩
  rw [if_neg h6, if_neg h6]
  by_cases h5 : kindOf x.k = 5
  · rw [if_pos h5, if_pos h5, if_pos h5]
    refine (on_read (F := F) x.k x.i x.n x.c x.ka x.kn x.kc w hF (D.callE x.i false) (D.reads x.i) (reads_blk hok x.i).1 (fun W1 W2 => Left W1 p (D.callD x.i false) F W2) h5 (fun W hu => (read_any x.i W (h.kept hu (fun _ _ e => e)) (hk2.mono (by omega))).mono ?_)).mono ?_
    · rintro e w' ⟨g1, g2, g3⟩
      exact ⟨g1, ⟨F, g2, fun _ hk => .inl hk, g3⟩, g3⟩
    · rintro e w' ⟨g1, g2⟩
      exact ⟨g1, g2.left hF⟩
  · rw [if_neg h5, if_neg h5, if_neg h5]
    refine (on_write (F := F) x.k x.i x.n x.c x.ka x.kn x.kc (κ := kindOf x.k) (by omega) w hF (D.callE x.i true) (fun W1 W2 => Left W1 p (D.write x.i (fill x.c)) F W2) rfl (fun W hu => (write_any x.i (fill x.c) W (h.kept hu (fun _ _ e => e)) (hk2.mono (by omega)) (by simp [fill])).mono ?_)).mono ?_
    · rintro e w' ⟨g1, g2⟩
      exact ⟨g1, g2, g2.upd⟩
    · rintro e w' ⟨g1, g2⟩
      exact ⟨g1, g2.left hF⟩

end Go.Proofs.Ytbimkhdiplnbfaa
end

