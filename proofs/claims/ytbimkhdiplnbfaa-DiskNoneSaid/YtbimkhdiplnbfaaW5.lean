/- Walks of the laws: DiskNone. -/
import Derived.Test.YtbimkhdiplnbfaaW3
import Derived.Test.YtbimkhdiplnbfaaE2
import Derived.Test.YtbimkhdiplnbfaaK4
import Derived.Test.YtbimkhdiplnbfaaK5
import Derived.Test.YtbimkhdiplnbfaaK6
namespace Go.Proofs.Ytbimkhdiplnbfaa
open Go.RowKit Go.Deep

theorem fresh56b (W : World) (bs : List Value) (hb : bs.length = 64) : (W.alloc (.cells (bcells zblk).toArray 56)).there W.heap.size 0 bs.toArray.size ∧ ((W.alloc (.cells (bcells zblk).toArray 56)).setCells W.heap.size 0 bs).heap[W.heap.size]? = some (.cells bs.toArray 56 (0, 0)) ∧
    Upd (fun _ => False) W ((W.alloc (.cells (bcells zblk).toArray 56)).setCells W.heap.size 0 bs) := by
  have hblk : (W.alloc (.cells (bcells zblk).toArray 56)).heap[W.heap.size]? = some (.cells (bcells zblk).toArray 56 (0, 0)) := alloc_at rfl
  have hzl : (bcells zblk).toArray.size = bs.toArray.size := by simp [bcells, zblk, hb]
  refine ⟨?_, heap_setCells_whole (vs := bs) hblk (by rw [hzl]; simp), ?_⟩
  · have := there_block hblk
    rwa [hzl] at this
  · have := Upd.setCells (F := fun j => W.heap.size ≤ j) (b := W.heap.size) (Nat.le_refl _) bs 0 ((Upd.refl _ W).alloc (.cells (bcells zblk).toArray 56))
    exact this.mono (fun j hj e => by omega)

theorem wpList_execIf {P : Program} {ops : Array Oper} {rest : List Oper} {o : Oper} {a : Act} {w w' : World} {v : Value} {Q : Exit → Act → World → Prop} (hw : Region.wanted o (yielded ops a.tmps) = true) (hr : (execOp a.eval o).run P w = .ok (.value v) w')
    (hK : wpList P ops Q rest (a.put o.dst v) w') : wpList P ops Q (o :: rest) a w := by
  unfold wpList
  simp only [hw, if_true]
  refine .inl ?_
  unfold Oper.wp
  rw [hr]
  exact hK

theorem run_exec_eql {o : Oper} {a : Act} {w : World} {x y : Operand} {rt : TypeId} {xs ys : Array Value} {v : Value} (ho : o.op = .binOp .eql 56 x y rt) (hx : a.eval x = .agg xs) (hy : a.eval y = .agg ys)
    (hr : (binOp .eql 56 (.agg xs) (.agg ys)).run Try.prog w = .ok v w) : (execOp a.eval o).run Try.prog w = .ok (.value v) w := by
  have hg := run_eqGuard_agg (P := Try.prog) w .eql 56 x y xs ys (by kernel_rfl)
  simp [execOp, ho, hx, hy, hg, hr, Result.andThen]

/-- A row of numbers that lies in memory. -/
def IntsAt (w : World) (sa : Option Addr) (sn : Nat) (Z : Nat → Int) : Prop := ∀ i, i < sn → ∃ b o, sa = some ⟨b, o, none⟩ ∧ b < w.heap.size ∧ w.cell? ⟨b, o + i, none⟩ = some (.int .i64 (Z i))

theorem IntsAt.kept {w w' : World} {sa : Option Addr} {sn : Nat} {Z : Nat → Int} (h : IntsAt w sa sn Z) (hu : Upd (fun _ => False) w w') : IntsAt w' sa sn Z := fun i hi => by
  obtain ⟨b, o, h1, h2, h3⟩ := h i hi
  refine ⟨b, o, h1, Nat.lt_of_lt_of_le h2 hu.size, ?_⟩
  rw [← h3]
  simp only [World.cell?]
  rw [hu.block b h2 (fun e => e)]

/-- tells of a new disk. -/
theorem tells_new {p N : Nat} {F : Nat → Prop} (hN : 1 ≤ N ∧ N ≤ 2048) (Aa : Option Addr) (w : World) (hd : Dsk w p (Dk.new N) F) :
    Calls Try.prog 46 #[.pointer (some ⟨p, 0, none⟩), .agg #[.slice Aa N N, .slice none 0 0, .int .i64 0, .int .i64 (-1), .int .i64 (-1), .bool false]] w fun e w' => e = .returned (.bool true) ∧ Upd (fun _ => False) w w' := by
  have hl : (Dk.new N).arr.length = N := by simp [Dk.new]
  have := tells_run (D := Dk.new N) Aa none N 0 0 (-1) (-1) w hd (Dk.new_ok hN _) (fun W _ => by
    rw [hl]
    exact (refPending_nil Aa N N 0 (-1) (-1) false W).mono fun e w' ⟨h1, h2⟩ => ⟨.slice none 0 0, h1, ⟨rfl, .inl ⟨rfl, rfl⟩⟩, h2⟩)
  rw [hl] at this
  exact this

set_option maxRecDepth 100000 in
set_option maxHeartbeats 4000000 in
theorem none_run (sa : Option Addr) (sn sc : Nat) (Z : Nat → Int) (k i n c : Int) (ka : Option Addr) (kn kc : Nat) (Bk : Nat → Bool) (hc : 0 ≤ c ∧ c ≤ 255) (w : World) (hs : IntsAt w sa sn Z) (hsn : sn ≤ 9223372036854775807) (hk : KeepIn w ka kn kc Bk) :
    Calls Try.prog 8 #[.slice sa sn sc, callV k i n c ka kn kc] w fun e w' => e = .returned (.bool true) ∧ Upd (fun _ => False) w w' := by
  have HC0 := Lib.hid hc; have HKI := Lib.hid hk; have HSI := Lib.hid hs
  clear hc hk hs
  obtain ⟨w0, hw0⟩ : ∃ w0, w0 = w.alloc (callBox k i n c ka kn kc) := ⟨_, rfl⟩
  have HB0 : RowKit.Hid (w0.heap[w.heap.size]? = some (callBox k i n c ka kn kc)) := Lib.hid (by rw [hw0]; exact alloc_at rfl)
  have HU0 : RowKit.Hid (Upd (fun _ => False) w w0) := Lib.hid (by rw [hw0]; exact (Upd.refl _ _).alloc _)
  have HBX : RowKit.Hid (∀ W, Upd (fun _ => False) w0 W → W.heap[w.heap.size]? = some (callBox k i n c ka kn kc)) := Lib.hid (fun W hu => (hu.block _ (lt_of_heap HB0.out) (fun e => e)).trans HB0.out)
  have HW0 := Lib.hid hw0
  clear hw0 HB0
  unfold callV
  go_enter Try.func8, Try.ntmps8
  go_wp2_with (go_at_call 31; fail)
  have hwk := wakes_run w0
  rw [HW0.out] at hwk
  refine hwk.mono ?_
  rintro e w1 ⟨rfl, hu1⟩
  rw [← show w0 = _ from HW0.out] at hu1
  have HU1 := Lib.hid hu1
  clear hwk hu1 HW0
  simp only []
  go_wp2
  go_loopg [16] sn (fun g i wr => ∃ j : Nat, j ≤ sn ∧ j ≤ 8 ∧ g = sn - j ∧ i = .int .i64 j ∧ Upd (fun _ => False) w0 wr)
  case atStart => exact ⟨0, Nat.zero_le _, by omega, rfl, rfl, HU1.out⟩
  case round =>
    clear HU1
    obtain ⟨j, hj, hj8, rfl, rfl, hu⟩ := hrel
    have HUL := Lib.hid hu
    clear hu
    obtain ⟨wo, rfl⟩ : ∃ wo, wo = wr := ⟨_, rfl⟩
    by_cases hjn : j < sn
    · have hjn2 : (j : Int) < sn := by omega
      obtain ⟨b, o, rfl, _, hz⟩ := (HSI.out.kept (HU0.out.trans HUL.out)) j hjn
      by_cases h8 : j = 8
      · subst h8
        have hx := HBX.out _ HUL.out
        obtain ⟨x0, x1, x2, x3, x4⟩ := box_cells hx
        clear hx
        go_wp2_with (go_at_call 44; fail)
        have hon := on_nil k i n c ka kn kc Bk HC0.out _ (HKI.out.kept (HU0.out.trans HUL.out))
        refine hon.mono ?_
        rintro e wa ⟨rfl, hua⟩
        have HUA := Lib.hid ((HU0.out.trans HUL.out).trans hua)
        clear hon hua x0 x1 x2 x3 x4
        have hbl : (bcells zblk).length = 64 := by simp [bcells, zblk]
        have hi : (Try.prog.info? 56).map (·.size) = some (bcells zblk).length := by rw [Try.info56p, hbl]
        have H1B := Lib.hid (all_oneCell_toArray (bcells_one zblk))
        have HEQ : RowKit.Hid (∀ W, (binOp .eql 56 (.agg (bcells zblk).toArray) (.agg (bcells zblk).toArray)).run Try.prog W = .ok (.bool true) W) := Lib.hid (fun W => by rw [run_eql_struct, eq_bytes W (by simp [zblk]) (by simp [zblk])]; simp)
        have HI := Lib.hid hi; have HLE := Lib.hid hbl
        clear hbl hi
        simp only []
        iterate 13 go_step
        obtain ⟨f1, f2, f3⟩ := fresh56b wa (bcells zblk) HLE.out
        refine wpList_store_mid rfl 56 (.tmp 10) (.tmp 54) rfl wa.heap.size 0 (bcells zblk).toArray rfl rfl f1 (by rw [HI.out]; simp) H1B.out ?_
        obtain ⟨wb, hwb⟩ : ∃ wb, wb = (wa.alloc (.cells (bcells zblk).toArray 56)).setCells wa.heap.size 0 (bcells zblk) := ⟨_, rfl⟩
        refine (?_ : wpList _ _ _ _ _ ((wa.alloc (.cells (bcells zblk).toArray 56)).setCells wa.heap.size 0 (bcells zblk)))
        rw [← hwb] at f2 f3 ⊢
        have HB := Lib.hid f2; have HUB := Lib.hid (HUA.out.trans f3)
        clear f1 f2 f3 hwb HUA
        go_upto_region 16 with fail
        iterate 10 go_step
        refine wpList_execIf rfl (run_load_mid' rfl rfl (bcells zblk) (rangeAt_block HB.out) Try.underlying56 rfl HI.out) ?_
        iterate 2 go_step
        refine wpList_execIf rfl (run_exec_eql (xs := (bcells zblk).toArray) (ys := (bcells zblk).toArray) rfl rfl rfl (HEQ.out _)) ?_
        go_wp2_with (first | (go_at_call 47; refine (copy_nil _).mono ?_; rintro e wz ⟨rfl, rfl⟩) | (go_at_call 41; refine (len_nil _).mono ?_; rintro e wz ⟨rfl, rfl⟩) | (go_at_call 36; refine (ops_nil _).mono ?_; rintro e wz ⟨rfl, rfl⟩) | (go_at_call 51; refine (dead_nil _).mono ?_; rintro e wz ⟨rfl, rfl⟩) | (go_at_call 52; fail))
        refine (pending_nil _).mono ?_
        rintro e wz ⟨rfl, huz⟩
        have HUZ := Lib.hid (HUB.out.trans huz)
        clear huz HUB
        simp only []
        go_wp2
        go_ret
        exact ⟨rfl, HUZ.out⟩
      · have h82 : ¬ ((j : Int) = 8) := by omega
        generalize Z j = z at *
        by_cases hbad : z < 1 ∨ 2048 < z
        · have HBAD := Lib.hid hbad
          rcases hbad with hlo | hhi
          · go_wp2_with (go_at_call 32; refine (new_bad z _ HBAD.out).mono ?_; rintro e w2 ⟨rfl, rfl⟩)
            go_roundg (sn - (j + 1))
            case measure => omega
            case rel => exact ⟨j + 1, by omega, by omega, rfl, congrArg _ (by omega), HUL.out⟩
          · have hnl : ¬ z < 1 := by omega
            go_wp2_with (go_at_call 32; refine (new_bad z _ HBAD.out).mono ?_; rintro e w2 ⟨rfl, rfl⟩)
            go_roundg (sn - (j + 1))
            case measure => omega
            case rel => exact ⟨j + 1, by omega, by omega, rfl, congrArg _ (by omega), HUL.out⟩
        · obtain ⟨N, rfl⟩ : ∃ N : Nat, z = N := ⟨z.toNat, by omega⟩
          have hN : 1 ≤ N ∧ N ≤ 2048 := by omega
          have hn1 : ¬ ((N : Int) < 1) := by omega
          have hn2 : ¬ (2048 < (N : Int)) := by omega
          go_wp2_with (go_at_call 32; fail)
          refine (new_good N _ hN).mono ?_
          rintro e w2 ⟨rfl, hN2⟩
          obtain ⟨F2, hD2, hF2, hu2⟩ := hN2.dsk hN
          have HD2 := Lib.hid hD2; have HU2 := Lib.hid (HUL.out.trans hu2)
          clear hN2 hD2 hF2 hu2
          simp only []
          go_wp2_with (go_at_call 43; fail)
          refine (refNew_run N w2 hN).mono ?_
          rintro e w3 ⟨⟨g, rfl, _, _⟩, hu3⟩
          have HD3 := Lib.hid (HD2.out.kept hu3 (fun _ _ e => e)); have HU3 := Lib.hid (HU2.out.trans hu3)
          clear hu3 HD2 HU2
          simp only []
          go_wp2_with (go_at_call 46; fail)
          refine (tells_new hN (some ⟨g, 0, none⟩) w3 HD3.out).mono ?_
          rintro e w4 ⟨rfl, hu4⟩
          have HU4 := Lib.hid (HU3.out.trans hu4)
          clear hu4 HD3 HU3
          simp only []
          go_wp2
          go_roundg (sn - (j + 1))
          case measure => omega
          case rel => exact ⟨j + 1, by omega, by omega, rfl, congrArg _ (by omega), HU4.out⟩
    · obtain rfl : j = sn := by omega
      have hx := HBX.out _ HUL.out
      obtain ⟨x0, x1, x2, x3, x4⟩ := box_cells hx
      clear hx
      go_wp2_with (go_at_call 44; fail)
      have hon := on_nil k i n c ka kn kc Bk HC0.out _ (HKI.out.kept (HU0.out.trans HUL.out))
      refine hon.mono ?_
      rintro e wa ⟨rfl, hua⟩
      have HUA := Lib.hid ((HU0.out.trans HUL.out).trans hua)
      clear hon hua x0 x1 x2 x3 x4
      have hbl : (bcells zblk).length = 64 := by simp [bcells, zblk]
      have hi : (Try.prog.info? 56).map (·.size) = some (bcells zblk).length := by rw [Try.info56p, hbl]
      have H1B := Lib.hid (all_oneCell_toArray (bcells_one zblk))
      have HEQ : RowKit.Hid (∀ W, (binOp .eql 56 (.agg (bcells zblk).toArray) (.agg (bcells zblk).toArray)).run Try.prog W = .ok (.bool true) W) := Lib.hid (fun W => by rw [run_eql_struct, eq_bytes W (by simp [zblk]) (by simp [zblk])]; simp)
      have HI := Lib.hid hi; have HLE := Lib.hid hbl
      clear hbl hi
      simp only []
      iterate 13 go_step
      obtain ⟨f1, f2, f3⟩ := fresh56b wa (bcells zblk) HLE.out
      refine wpList_store_mid rfl 56 (.tmp 10) (.tmp 54) rfl wa.heap.size 0 (bcells zblk).toArray rfl rfl f1 (by rw [HI.out]; simp) H1B.out ?_
      obtain ⟨wb, hwb⟩ : ∃ wb, wb = (wa.alloc (.cells (bcells zblk).toArray 56)).setCells wa.heap.size 0 (bcells zblk) := ⟨_, rfl⟩
      refine (?_ : wpList _ _ _ _ _ ((wa.alloc (.cells (bcells zblk).toArray 56)).setCells wa.heap.size 0 (bcells zblk)))
      rw [← hwb] at f2 f3 ⊢
      have HB := Lib.hid f2; have HUB := Lib.hid (HUA.out.trans f3)
      clear f1 f2 f3 hwb HUA
      go_upto_region 16 with fail
      iterate 10 go_step
      refine wpList_execIf rfl (run_load_mid' rfl rfl (bcells zblk) (rangeAt_block HB.out) Try.underlying56 rfl HI.out) ?_
      iterate 2 go_step
      refine wpList_execIf rfl (run_exec_eql (xs := (bcells zblk).toArray) (ys := (bcells zblk).toArray) rfl rfl rfl (HEQ.out _)) ?_
      go_wp2_with (first | (go_at_call 47; refine (copy_nil _).mono ?_; rintro e wz ⟨rfl, rfl⟩) | (go_at_call 41; refine (len_nil _).mono ?_; rintro e wz ⟨rfl, rfl⟩) | (go_at_call 36; refine (ops_nil _).mono ?_; rintro e wz ⟨rfl, rfl⟩) | (go_at_call 51; refine (dead_nil _).mono ?_; rintro e wz ⟨rfl, rfl⟩) | (go_at_call 52; fail))
      refine (pending_nil _).mono ?_
      rintro e wz ⟨rfl, huz⟩
      have HUZ := Lib.hid (HUB.out.trans huz)
      clear huz HUB
      simp only []
      go_wp2
      go_ret
      exact ⟨rfl, HUZ.out⟩

end Go.Proofs.Ytbimkhdiplnbfaa
