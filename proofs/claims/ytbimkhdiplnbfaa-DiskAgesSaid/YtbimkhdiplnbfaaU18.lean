/- Walks of the laws: Call.kind, Call.keep. -/
import Derived.Test.YtbimkhdiplnbfaaU3
import Derived.Test.YtbimkhdiplnbfaaU5
import Derived.Test.YtbimkhdiplnbfaaU10
import Derived.Test.YtbimkhdiplnbfaaU15
import Derived.Lib.SliceRun

section
namespace Go.Proofs.Ytbimkhdiplnbfaa
open Go.RowKit Go.Deep

def kindOf (k : Int) : Int := (IntKind.u64.wrap k).tmod 10
theorem kindOf_range (k : Int) : 0 ≤ kindOf k ∧ kindOf k < 10 := wide_range k

set_option maxHeartbeats 400000 in
theorem kind_run (k i n c : Int) (ka : Option Addr) (kn kc : Nat) (w : World) :
    Calls Try.prog 57 #[callV k i n c ka kn kc] w fun e w' => e = .returned (.int .u64 (kindOf k)) ∧ Upd (fun _ => False) w w' := by
  unfold callV
  go_enter Try.func57, Try.ntmps57
  go_wp2
  go_ret
  exact ⟨rfl, (Upd.refl _ w).alloc _⟩

theorem cell_kept {w w' : World} (hu : Upd (fun _ => False) w w') {x : Addr} {v : Value} (h : w.cell? x = some v) : w'.cell? x = some v := by
  have hlt : x.block < w.heap.size := by
    rcases Nat.lt_or_ge x.block w.heap.size with h' | h'
    · exact h'
    · simp [World.cell?, Array.getElem?_eq_none h'] at h
  rw [← h]
  simp only [World.cell?]
  rw [hu.block x.block hlt (fun e => e)]

/-- The truth values of a call's Keep. -/
def KeepIn (w : World) (ka : Option Addr) (kn kc : Nat) (B : Nat → Bool) : Prop :=
  (ka = none ∧ kn = 0 ∧ kc = 0) ∨ ∃ a : Addr, ka = some a ∧ kn ≤ kc ∧ kc ≤ maxLen ∧ ∀ i, i < kc → w.cell? (a.add i) = some (.bool (B i))

theorem KeepIn.kept {w w' : World} {ka : Option Addr} {kn kc : Nat} {B : Nat → Bool} (h : KeepIn w ka kn kc B) (hu : Upd (fun _ => False) w w') : KeepIn w' ka kn kc B := by
  rcases h with h | ⟨a, h1, h3, h4, h5⟩
  · exact .inl h
  · exact .inr ⟨a, h1, h3, h4, fun i hi => cell_kept hu (h5 i hi)⟩

theorem Try.info4p : (Try.prog.info? 4).map (fun i => (i.zero, i.size, i.bytes)) = some (some (.bool false), 1, 1) := by kernel_rfl

set_option maxRecDepth 8000 in
set_option maxHeartbeats 400000 in
theorem cloneBools_run {a : Addr} {len cap : Nat} (B : Nat → Bool) (w : World) (hl : len ≤ 1000) (hc : ∀ i, i < len → w.cell? (a.add i) = some (.bool (B i))) :
    Calls Try.prog 49 #[.slice (some a) len cap] w fun e w' => (∃ ka' kc', e = .returned (.slice ka' len kc') ∧ BoolsAt w' ka' ((List.range len).map B)) ∧ Upd (fun _ => False) w w' := by
  have HC := Lib.hid hc
  clear hc
  have q22 : (binOp .eql 49 (.slice (some a) len cap) (.slice none 0 0)).run Try.prog w = .ok (.bool false) w := Lib.run_eql_slice_nil w _ _ _ _ _ _ _ Try.underlying49
  go_enter Try.func49, Try.ntmps49
  go_upto_region 3 with fail
  clear q22
  iterate 7 go_step
  obtain ⟨i0, hi0, hz0, hz1, hz2⟩ := info_parts Try.info4p
  have hown0 : (w.alloc (.cells #[] 4)).ownsRow w.heap.size 4 1 (.slice (some ⟨w.heap.size, 0, none⟩) 0 0) 0 [] :=
    ⟨by simp, .inr ⟨w.heap.size, 0, #[], rfl, Nat.le_refl _, alloc_at rfl, Nat.le_refl _, Nat.zero_le _, rfl, rfl⟩⟩
  refine wpList_append_own _ rfl (.tmp 5) (.tmp 6) 49 rfl w.heap.size 4 i0 (.bool false) 1 1 Try.underlying49 hi0 hz0 hz1 hz2 rfl (by omega) _ 0 [] rfl hown0 a len cap ((List.range len).map fun i => .bool (B i)) rfl (by simp) (by
    intro j u hj
    have hjl : j < len := by have := (List.getElem?_eq_some_iff.1 hj).1; simpa using this
    simp [hjl] at hj
    subst hj
    exact cell_kept ((Upd.refl _ w).alloc _) (HC.out j hjl)) (by simp [Value.oneCell']) (by unfold maxLen; omega) (by omega) (by simp) ?_
  intro v' w1 hown hgrow hnil
  have hv : ∃ g c, v' = .slice (some ⟨g, 0, none⟩) len c := by
    rcases hown.2 with ⟨e, _⟩ | ⟨g, c, cur, e, _⟩
    · have he := (hnil.1 e).1
      cases he
    · exact ⟨g, c, by simpa using e⟩
  obtain ⟨g, c, rfl⟩ := hv
  have HO := Lib.hid hown
  have HG := Lib.hid hgrow
  clear hown hgrow hnil hi0 hz0 hz1 hz2 hown0
  go_wp2
  go_ret
  refine ⟨⟨_, _, rfl, fun i x hx => ?_⟩, ?_⟩
  · have hil : i < len := by have := (List.getElem?_eq_some_iff.1 hx).1; simpa using this
    have ho := HO.out
    simp only [Nat.zero_add, List.nil_append] at ho
    refine ⟨g, 0, rfl, (ho.lt g rfl).2, ?_⟩
    rw [Nat.zero_add, ho.cellAt i (by omega)]
    simp [hil] at hx ⊢
    exact hx
  · have h2 : Upd (fun j => w.heap.size ≤ j) w w1 := (((Upd.refl _ w).alloc _).step (Upd.of_grown (F := fun j => w.heap.size ≤ j) HG.out (fun k hk => Nat.le_of_eq (Option.some.inj hk))) (fun _ _ e => e))
    exact h2.mono (fun j hj e => by omega)

set_option maxHeartbeats 400000 in
theorem cloneBools_nil (w : World) : Calls Try.prog 49 #[.slice none 0 0] w fun e w' => e = .returned (.slice none 0 0) ∧ w = w' := by
  have q22 : (binOp .eql 49 (.slice none 0 0) (.slice none 0 0)).run Try.prog w = .ok (.bool true) w := Lib.run_eql_slice_nil w _ _ _ _ _ _ _ Try.underlying49
  go_enter Try.func49, Try.ntmps49
  go_wp2
  go_ret
  exact ⟨rfl, rfl⟩

set_option maxHeartbeats 400000 in
theorem keep_run (k i n c : Int) (ka : Option Addr) (kn kc : Nat) (B : Nat → Bool) (w : World) (hk : KeepIn w ka kn kc B) :
    Calls Try.prog 91 #[callV k i n c ka kn kc] w fun e w' => (∃ ka' kc', e = .returned (.slice ka' (min kn 80) kc') ∧ BoolsAt w' ka' ((List.range (min kn 80)).map B)) ∧ Upd (fun _ => False) w w' := by
  have hk' := hk.kept ((Upd.refl _ w).alloc (.cells #[.int .i64 k, .int .i64 i, .int .i64 n, .int .u8 c, .slice ka kn kc] 51))
  unfold callV
  rcases hk' with ⟨rfl, rfl, rfl⟩ | ⟨a, rfl, hl, hm, hc⟩
  · go_enter Try.func91, Try.ntmps91
    go_wp2_with (go_at_call 49; refine (cloneBools_nil _).mono ?_; rintro e w' ⟨rfl, rfl⟩)
    go_ret
    exact ⟨⟨none, 0, rfl, fun i x hx => by simp at hx⟩, (Upd.refl _ w).alloc _⟩
  · have HCL := Lib.hid (cloneBools_run (len := min kn 80) (cap := kc) B _ (by omega) (fun i hi => hc i (by omega)))
    have HL := Lib.hid hl
    unfold maxLen at hm
    clear hk hc
    go_enter Try.func91, Try.ntmps91
    go_wp2_with fail
    have e80 : (min (kn : Int) 80).toNat = min kn 80 := by omega
    rw [e80]
    refine HCL.out.mono ?_
    rintro e w' ⟨⟨ka', kc', rfl, hb'⟩, hu⟩
    have HBB := Lib.hid hb'; have HU := Lib.hid hu
    clear hb' hu
    go_wp2
    go_ret
    exact ⟨⟨ka', kc', rfl, HBB.out⟩, ((Upd.refl _ w).alloc _).trans HU.out⟩

end Go.Proofs.Ytbimkhdiplnbfaa
end

section
namespace Go.Proofs.Ytbimkhdiplnbfaa
open Go.RowKit Go.Deep

theorem kind_run' {k κ : Int} (hκ : kindOf k = κ) (i n c : Int) (ka : Option Addr) (kn kc : Nat) (w : World) :
    Calls Try.prog 57 #[callV k i n c ka kn kc] w fun e w' => e = .returned (.int .u64 κ) ∧ Upd (fun _ => False) w w' := by
  rw [← hκ]; exact kind_run k i n c ka kn kc w

def callBox (k i n c : Int) (ka : Option Addr) (kn kc : Nat) : Obj := .cells #[.int .i64 k, .int .i64 i, .int .i64 n, .int .u8 c, .slice ka kn kc] 51 (0, 0)

theorem box_cells {w : World} {b : Nat} {k i n c : Int} {ka : Option Addr} {kn kc : Nat} (h : w.heap[b]? = some (callBox k i n c ka kn kc)) :
    w.cell? ⟨b, 0, none⟩ = some (.int .i64 k) ∧ w.cell? ⟨b, 1, none⟩ = some (.int .i64 i) ∧ w.cell? ⟨b, 2, none⟩ = some (.int .i64 n) ∧ w.cell? ⟨b, 3, none⟩ = some (.int .u8 c) ∧ w.cell? ⟨b, 4, none⟩ = some (.slice ka kn kc) := by
  unfold callBox at h
  refine ⟨?_, ?_, ?_, ?_, ?_⟩ <;> rw [cell_of_heap h] <;> rfl

theorem Try.size51 : (Try.prog.info? 51).map (·.size) = some 5 := by kernel_rfl

/-- What a call of a disk leaves: On's own two blocks are behind w. -/
def OnLeft (w : World) (F : Nat → Prop) (Post : World → World → Prop) (w' : World) : Prop :=
  ∃ W1 W2, Upd (fun _ => False) w W1 ∧ w.heap.size + 1 < W1.heap.size ∧ Post W1 W2 ∧ Upd F W1 W2 ∧ Upd (fun j => j = w.heap.size + 1) W2 w'

set_option maxRecDepth 100000 in
set_option maxHeartbeats 2000000 in
theorem on_sync {ptr : Value} {F : Nat → Prop} (k i n c : Int) (ka : Option Addr) (kn kc : Nat) (w : World) (hF : ∀ j, F j → j < w.heap.size) (E : Int) (Post : World → World → Prop) (hκ : kindOf k = 6)
    (hc : ∀ W, Upd (fun _ => False) w W → Calls Try.prog 38 #[ptr] W fun e w' => e = .returned (.int .i64 E) ∧ Post W w' ∧ Upd F W w') :
    Calls Try.prog 44 #[callV k i n c ka kn kc, ptr] w fun e w' => e = .returned (.tuple #[.agg (bcells zblk).toArray, .int .i64 E]) ∧ OnLeft w F Post w' := by
  have HC := Lib.hid hc
  have HF := Lib.hid hF
  have hle : (bcells zblk).length = 64 := by simp [bcells, zblk]
  have hi : (Try.prog.info? 56).map (·.size) = some (bcells zblk).length := by rw [Try.info56p, hle]
  have H1B := Lib.hid (all_oneCell_toArray (bcells_one zblk))
  have HI := Lib.hid hi; have HLE := Lib.hid hle
  clear hc hle hi hF
  unfold callV
  go_enter Try.func44, Try.ntmps44
  go_wp2_with (go_at_call 57; refine (kind_run' hκ i n c ka kn kc _).mono ?_; rintro e w1 ⟨rfl, hu1⟩
               have hb1 : w1.heap[w.heap.size + 1]? = some (.cells (bcells zblk).toArray 56 (0, 0)) := (hu1.block _ (by simp) (fun e => e)).trans (alloc_at (by simp))
               have hx1 : w1.heap[w.heap.size]? = some (callBox k i n c ka kn kc) := (hu1.block _ (by simp; omega) (fun e => e)).trans ((alloc_lt (by simp)).trans (alloc_at rfl))
               have HU1 : RowKit.Hid (Upd (fun _ => False) w w1) := Lib.hid ((((Upd.refl _ w).alloc _).alloc _).trans hu1)
               have HB1 := Lib.hid hb1
               obtain ⟨x0, x1, x2, x3, x4⟩ := box_cells hx1
               have HX1 := Lib.hid hx1
               clear hu1 hb1 hx1)
  generalize hbs : bcells zblk = bs at *
  refine (HC.out w1 HU1.out).mono ?_
  rintro e w2 ⟨rfl, hp, hu2⟩
  have hb2 := (hu2.block _ (lt_of_heap HB1.out) (fun e => by have := HF.out _ e; omega)).trans HB1.out
  have HB2 := Lib.hid hb2; have HP := Lib.hid hp; have HU2 := Lib.hid hu2
  clear hb2 hp hu2 HC
  simp only []
  go_upto_region 13 with fail
  go_step
  refine wpList_load_mid rfl 56 (.tmp 4) rfl (w.heap.size + 1) 0 rfl bs _ (rangeAt_block HB2.out) Try.underlying56 rfl HI.out ?_
  iterate 3 go_step
  refine wpList_store_mid rfl 56 (.tmp 4) (.tmp 44) rfl (w.heap.size + 1) 0 bs.toArray rfl rfl (there_block HB2.out) (by rw [HI.out]; simp) H1B.out ?_
  go_wp2
  have hl3 := run_loadVar_mid (P := Try.prog) (w2.setCells (w.heap.size + 1) 0 bs) (w.heap.size + 1) 0 56 bs _ (rangeAt_block (heap_setCells_whole (vs := bs) HB2.out (by simp))) Try.underlying56 rfl HI.out
  refine bodyPost_ret (results_cell_tmp Try.results44 rfl hl3) rfl ⟨by rw [hbs]; rfl, w1, w2, HU1.out, lt_of_heap HB1.out, HP.out, HU2.out, Upd.setCells (F := fun k => k = w.heap.size + 1) rfl bs 0 (Upd.refl _ w2)⟩

set_option maxRecDepth 100000 in
set_option maxHeartbeats 2000000 in
theorem on_arm {ptr : Value} {F : Nat → Prop} (k i n c : Int) (ka : Option Addr) (kn kc : Nat) (w : World) (hF : ∀ j, F j → j < w.heap.size) (E : Int) (Post : World → World → Prop) (hκ : kindOf k = 7)
    (hc : ∀ W, Upd (fun _ => False) w W → Calls Try.prog 55 #[ptr, .int .i64 n] W fun e w' => e = .returned (.int .i64 E) ∧ Post W w' ∧ Upd F W w') :
    Calls Try.prog 44 #[callV k i n c ka kn kc, ptr] w fun e w' => e = .returned (.tuple #[.agg (bcells zblk).toArray, .int .i64 E]) ∧ OnLeft w F Post w' := by
  have HC := Lib.hid hc
  have HF := Lib.hid hF
  have hle : (bcells zblk).length = 64 := by simp [bcells, zblk]
  have hi : (Try.prog.info? 56).map (·.size) = some (bcells zblk).length := by rw [Try.info56p, hle]
  have H1B := Lib.hid (all_oneCell_toArray (bcells_one zblk))
  have HI := Lib.hid hi; have HLE := Lib.hid hle
  clear hc hle hi hF
  unfold callV
  go_enter Try.func44, Try.ntmps44
  go_wp2_with (go_at_call 57; refine (kind_run' hκ i n c ka kn kc _).mono ?_; rintro e w1 ⟨rfl, hu1⟩
               have hb1 : w1.heap[w.heap.size + 1]? = some (.cells (bcells zblk).toArray 56 (0, 0)) := (hu1.block _ (by simp) (fun e => e)).trans (alloc_at (by simp))
               have hx1 : w1.heap[w.heap.size]? = some (callBox k i n c ka kn kc) := (hu1.block _ (by simp; omega) (fun e => e)).trans ((alloc_lt (by simp)).trans (alloc_at rfl))
               have HU1 : RowKit.Hid (Upd (fun _ => False) w w1) := Lib.hid ((((Upd.refl _ w).alloc _).alloc _).trans hu1)
               have HB1 := Lib.hid hb1
               obtain ⟨x0, x1, x2, x3, x4⟩ := box_cells hx1
               have HX1 := Lib.hid hx1
               clear hu1 hb1 hx1)
  generalize hbs : bcells zblk = bs at *
  refine (HC.out w1 HU1.out).mono ?_
  rintro e w2 ⟨rfl, hp, hu2⟩
  have hb2 := (hu2.block _ (lt_of_heap HB1.out) (fun e => by have := HF.out _ e; omega)).trans HB1.out
  have HB2 := Lib.hid hb2; have HP := Lib.hid hp; have HU2 := Lib.hid hu2
  clear hb2 hp hu2 HC
  simp only []
  go_upto_region 13 with fail
  go_step
  refine wpList_load_mid rfl 56 (.tmp 4) rfl (w.heap.size + 1) 0 rfl bs _ (rangeAt_block HB2.out) Try.underlying56 rfl HI.out ?_
  iterate 3 go_step
  refine wpList_store_mid rfl 56 (.tmp 4) (.tmp 44) rfl (w.heap.size + 1) 0 bs.toArray rfl rfl (there_block HB2.out) (by rw [HI.out]; simp) H1B.out ?_
  go_wp2
  have hl3 := run_loadVar_mid (P := Try.prog) (w2.setCells (w.heap.size + 1) 0 bs) (w.heap.size + 1) 0 56 bs _ (rangeAt_block (heap_setCells_whole (vs := bs) HB2.out (by simp))) Try.underlying56 rfl HI.out
  refine bodyPost_ret (results_cell_tmp Try.results44 rfl hl3) rfl ⟨by rw [hbs]; rfl, w1, w2, HU1.out, lt_of_heap HB1.out, HP.out, HU2.out, Upd.setCells (F := fun k => k = w.heap.size + 1) rfl bs 0 (Upd.refl _ w2)⟩

set_option maxRecDepth 100000 in
set_option maxHeartbeats 2000000 in
theorem on_fail {ptr : Value} {F : Nat → Prop} (k i n c : Int) (ka : Option Addr) (kn kc : Nat) (w : World) (hF : ∀ j, F j → j < w.heap.size) (E : Int) (Post : World → World → Prop) (hκ : kindOf k = 8)
    (hc : ∀ W, Upd (fun _ => False) w W → Calls Try.prog 56 #[ptr, .int .i64 n] W fun e w' => e = .returned (.int .i64 E) ∧ Post W w' ∧ Upd F W w') :
    Calls Try.prog 44 #[callV k i n c ka kn kc, ptr] w fun e w' => e = .returned (.tuple #[.agg (bcells zblk).toArray, .int .i64 E]) ∧ OnLeft w F Post w' := by
  have HC := Lib.hid hc
  have HF := Lib.hid hF
  have hle : (bcells zblk).length = 64 := by simp [bcells, zblk]
  have hi : (Try.prog.info? 56).map (·.size) = some (bcells zblk).length := by rw [Try.info56p, hle]
  have H1B := Lib.hid (all_oneCell_toArray (bcells_one zblk))
  have HI := Lib.hid hi; have HLE := Lib.hid hle
  clear hc hle hi hF
  unfold callV
  go_enter Try.func44, Try.ntmps44
  go_wp2_with (go_at_call 57; refine (kind_run' hκ i n c ka kn kc _).mono ?_; rintro e w1 ⟨rfl, hu1⟩
               have hb1 : w1.heap[w.heap.size + 1]? = some (.cells (bcells zblk).toArray 56 (0, 0)) := (hu1.block _ (by simp) (fun e => e)).trans (alloc_at (by simp))
               have hx1 : w1.heap[w.heap.size]? = some (callBox k i n c ka kn kc) := (hu1.block _ (by simp; omega) (fun e => e)).trans ((alloc_lt (by simp)).trans (alloc_at rfl))
               have HU1 : RowKit.Hid (Upd (fun _ => False) w w1) := Lib.hid ((((Upd.refl _ w).alloc _).alloc _).trans hu1)
               have HB1 := Lib.hid hb1
               obtain ⟨x0, x1, x2, x3, x4⟩ := box_cells hx1
               have HX1 := Lib.hid hx1
               clear hu1 hb1 hx1)
  generalize hbs : bcells zblk = bs at *
  refine (HC.out w1 HU1.out).mono ?_
  rintro e w2 ⟨rfl, hp, hu2⟩
  have hb2 := (hu2.block _ (lt_of_heap HB1.out) (fun e => by have := HF.out _ e; omega)).trans HB1.out
  have HB2 := Lib.hid hb2; have HP := Lib.hid hp; have HU2 := Lib.hid hu2
  clear hb2 hp hu2 HC
  simp only []
  go_upto_region 13 with fail
  go_step
  refine wpList_load_mid rfl 56 (.tmp 4) rfl (w.heap.size + 1) 0 rfl bs _ (rangeAt_block HB2.out) Try.underlying56 rfl HI.out ?_
  iterate 3 go_step
  refine wpList_store_mid rfl 56 (.tmp 4) (.tmp 44) rfl (w.heap.size + 1) 0 bs.toArray rfl rfl (there_block HB2.out) (by rw [HI.out]; simp) H1B.out ?_
  go_wp2
  have hl3 := run_loadVar_mid (P := Try.prog) (w2.setCells (w.heap.size + 1) 0 bs) (w.heap.size + 1) 0 56 bs _ (rangeAt_block (heap_setCells_whole (vs := bs) HB2.out (by simp))) Try.underlying56 rfl HI.out
  refine bodyPost_ret (results_cell_tmp Try.results44 rfl hl3) rfl ⟨by rw [hbs]; rfl, w1, w2, HU1.out, lt_of_heap HB1.out, HP.out, HU2.out, Upd.setCells (F := fun k => k = w.heap.size + 1) rfl bs 0 (Upd.refl _ w2)⟩

set_option maxRecDepth 100000 in
set_option maxHeartbeats 2000000 in
theorem on_read {ptr : Value} {F : Nat → Prop} (k i n c : Int) (ka : Option Addr) (kn kc : Nat) (w : World) (hF : ∀ j, F j → j < w.heap.size) (E : Int) (B : List Int) (hB : B.length = 64) (Post : World → World → Prop) (hκ : kindOf k = 5)
    (hc : ∀ W, Upd (fun _ => False) w W → Calls Try.prog 42 #[ptr, .int .i64 i] W fun e w' => e = .returned (.tuple #[.agg (bcells B).toArray, .int .i64 E]) ∧ Post W w' ∧ Upd F W w') :
    Calls Try.prog 44 #[callV k i n c ka kn kc, ptr] w fun e w' => e = .returned (.tuple #[.agg (bcells B).toArray, .int .i64 E]) ∧ OnLeft w F Post w' := by
  have HC := Lib.hid hc
  have HF := Lib.hid hF
  have hle : (bcells B).length = 64 := by simp [bcells, hB]
  have hi : (Try.prog.info? 56).map (·.size) = some (bcells B).length := by rw [Try.info56p, hle]
  have H1B := Lib.hid (all_oneCell_toArray (bcells_one B))
  have HI := Lib.hid hi; have HLE := Lib.hid hle
  clear hc hle hi hF
  unfold callV
  go_enter Try.func44, Try.ntmps44
  go_wp2_with (go_at_call 57; refine (kind_run' hκ i n c ka kn kc _).mono ?_; rintro e w1 ⟨rfl, hu1⟩
               have hb1 : w1.heap[w.heap.size + 1]? = some (.cells (bcells zblk).toArray 56 (0, 0)) := (hu1.block _ (by simp) (fun e => e)).trans (alloc_at (by simp))
               have hx1 : w1.heap[w.heap.size]? = some (callBox k i n c ka kn kc) := (hu1.block _ (by simp; omega) (fun e => e)).trans ((alloc_lt (by simp)).trans (alloc_at rfl))
               have HU1 : RowKit.Hid (Upd (fun _ => False) w w1) := Lib.hid ((((Upd.refl _ w).alloc _).alloc _).trans hu1)
               have HB1 := Lib.hid hb1
               obtain ⟨x0, x1, x2, x3, x4⟩ := box_cells hx1
               have HX1 := Lib.hid hx1
               clear hu1 hb1 hx1)
  generalize hbs : bcells B = bs at *
  refine (HC.out w1 HU1.out).mono ?_
  rintro e w2 ⟨rfl, hp, hu2⟩
  have hb2 := (hu2.block _ (lt_of_heap HB1.out) (fun e => by have := HF.out _ e; omega)).trans HB1.out
  have hzl : (bcells zblk).toArray.size = bs.toArray.size := by simp [bcells, zblk, HLE.out]
  have hth : w2.there (w.heap.size + 1) 0 bs.toArray.size := by
    have := there_block hb2
    rwa [hzl] at this
  have hb3 := heap_setCells_whole (vs := bs) hb2 (by rw [hzl]; simp)
  have HP := Lib.hid hp; have HU2 := Lib.hid hu2
  clear hb2 hp hu2 HC hzl
  simp only []
  iterate 7 go_step
  refine wpList_store_mid rfl 56 (.tmp 4) (.tmp 20) rfl (w.heap.size + 1) 0 bs.toArray rfl rfl hth (by rw [HI.out]; simp) H1B.out ?_
  have hu3 : Upd (fun k => k = w.heap.size + 1) w2 (w2.setCells (w.heap.size + 1) 0 bs) := Upd.setCells (F := fun k => k = w.heap.size + 1) rfl bs 0 (Upd.refl _ w2)
  have HB2 := Lib.hid hb3; have HU3 := Lib.hid hu3
  clear hth hb3 hu3
  generalize w2.setCells (w.heap.size + 1) 0 bs = w3 at *
  go_wp2
  have hl3 := run_loadVar_mid (P := Try.prog) w3 (w.heap.size + 1) 0 56 bs _ (rangeAt_block HB2.out) Try.underlying56 rfl HI.out
  refine bodyPost_ret (results_cell_tmp Try.results44 rfl hl3) rfl ⟨by rw [hbs]; rfl, w1, w2, HU1.out, lt_of_heap HB1.out, HP.out, HU2.out, HU3.out⟩

set_option maxRecDepth 100000 in
set_option maxHeartbeats 2000000 in
theorem on_crash {ptr : Value} {F : Nat → Prop} (k i n c : Int) (ka : Option Addr) (kn kc : Nat) (Bk : Nat → Bool) (w : World) (hk : KeepIn w ka kn kc Bk) (hF : ∀ j, F j → j < w.heap.size) (E : Int) (Post : World → World → Prop) (hκ : kindOf k = 9)
    (hc : ∀ W ka' kc', Upd (fun _ => False) w W → BoolsAt W ka' ((List.range (min kn 80)).map Bk) → Calls Try.prog 40 #[ptr, .slice ka' (min kn 80) kc'] W fun e w' => e = .returned (.int .i64 E) ∧ Post W w' ∧ Upd F W w') :
    Calls Try.prog 44 #[callV k i n c ka kn kc, ptr] w fun e w' => e = .returned (.tuple #[.agg (bcells zblk).toArray, .int .i64 E]) ∧ OnLeft w F Post w' := by
  have HC := Lib.hid hc
  have HF := Lib.hid hF
  have hle : (bcells zblk).length = 64 := by simp [bcells, zblk]
  have hi : (Try.prog.info? 56).map (·.size) = some (bcells zblk).length := by rw [Try.info56p, hle]
  have H1B := Lib.hid (all_oneCell_toArray (bcells_one zblk))
  have HI := Lib.hid hi; have HLE := Lib.hid hle
  clear hc hle hi hF
  unfold callV
  go_enter Try.func44, Try.ntmps44
  go_wp2_with (go_at_call 57; refine (kind_run' hκ i n c ka kn kc _).mono ?_; rintro e w1 ⟨rfl, hu1⟩
               have hb1 : w1.heap[w.heap.size + 1]? = some (.cells (bcells zblk).toArray 56 (0, 0)) := (hu1.block _ (by simp) (fun e => e)).trans (alloc_at (by simp))
               have hx1 : w1.heap[w.heap.size]? = some (callBox k i n c ka kn kc) := (hu1.block _ (by simp; omega) (fun e => e)).trans ((alloc_lt (by simp)).trans (alloc_at rfl))
               have HU1 : RowKit.Hid (Upd (fun _ => False) w w1) := Lib.hid ((((Upd.refl _ w).alloc _).alloc _).trans hu1)
               have HB1 := Lib.hid hb1
               obtain ⟨x0, x1, x2, x3, x4⟩ := box_cells hx1
               have HX1 := Lib.hid hx1
               clear hu1 hb1 hx1)
  generalize hbs : bcells zblk = bs at *
  refine (keep_run k i n c ka kn kc Bk w1 (hk.kept HU1.out)).mono ?_
  rintro e wk ⟨⟨ka', kc', rfl, hbk⟩, huk⟩
  have HUK := Lib.hid (HU1.out.trans huk)
  have HBB := Lib.hid ((huk.block _ (lt_of_heap HB1.out) (fun e => e)).trans HB1.out)
  have HBK := Lib.hid hbk
  clear huk hbk HU1 HB1 HX1
  simp only []
  go_wp2_with fail
  refine (HC.out wk ka' kc' HUK.out HBK.out).mono ?_
  rintro e w2 ⟨rfl, hp, hu2⟩
  have hb2 := (hu2.block _ (lt_of_heap HBB.out) (fun e => by have := HF.out _ e; omega)).trans HBB.out
  have HB2 := Lib.hid hb2; have HP := Lib.hid hp; have HU2 := Lib.hid hu2
  clear hb2 hp hu2 HC
  simp only []
  go_upto_region 13 with fail
  go_step
  refine wpList_load_mid rfl 56 (.tmp 4) rfl (w.heap.size + 1) 0 rfl bs _ (rangeAt_block HB2.out) Try.underlying56 rfl HI.out ?_
  iterate 3 go_step
  refine wpList_store_mid rfl 56 (.tmp 4) (.tmp 44) rfl (w.heap.size + 1) 0 bs.toArray rfl rfl (there_block HB2.out) (by rw [HI.out]; simp) H1B.out ?_
  go_wp2
  have hl3 := run_loadVar_mid (P := Try.prog) (w2.setCells (w.heap.size + 1) 0 bs) (w.heap.size + 1) 0 56 bs _ (rangeAt_block (heap_setCells_whole (vs := bs) HB2.out (by simp))) Try.underlying56 rfl HI.out
  refine bodyPost_ret (results_cell_tmp Try.results44 rfl hl3) rfl ⟨by rw [hbs]; rfl, wk, w2, HUK.out, lt_of_heap HBB.out, HP.out, HU2.out, Upd.setCells (F := fun k => k = w.heap.size + 1) rfl bs 0 (Upd.refl _ w2)⟩

set_option maxRecDepth 100000 in
set_option maxHeartbeats 2000000 in
theorem on_write {ptr : Value} {F : Nat → Prop} (k i n c : Int) (ka : Option Addr) (kn kc : Nat) {κ : Int} (h5 : κ < 5) (w : World) (hF : ∀ j, F j → j < w.heap.size) (E : Int) (Post : World → World → Prop) (hκ : kindOf k = κ)
    (hc : ∀ W, Upd (fun _ => False) w W → Calls Try.prog 34 #[ptr, .int .i64 i, .agg (bcells (fill c)).toArray] W fun e w' => e = .returned (.int .i64 E) ∧ Post W w' ∧ Upd F W w') :
    Calls Try.prog 44 #[callV k i n c ka kn kc, ptr] w fun e w' => e = .returned (.tuple #[.agg (bcells zblk).toArray, .int .i64 E]) ∧ OnLeft w F Post w' := by
  have HC := Lib.hid hc
  have n5 : ¬ κ = 5 := by omega
  have n6 : ¬ κ = 6 := by omega
  have n7 : ¬ κ = 7 := by omega
  have n8 : ¬ κ = 8 := by omega
  have n9 : ¬ κ = 9 := by omega
  clear h5
  have HF := Lib.hid hF
  have hle : (bcells zblk).length = 64 := by simp [bcells, zblk]
  have hi : (Try.prog.info? 56).map (·.size) = some (bcells zblk).length := by rw [Try.info56p, hle]
  have H1B := Lib.hid (all_oneCell_toArray (bcells_one zblk))
  have HI := Lib.hid hi; have HLE := Lib.hid hle
  clear hc hle hi hF
  unfold callV
  go_enter Try.func44, Try.ntmps44
  go_upto_region 2 with (go_at_call 57; refine (kind_run' hκ i n c ka kn kc _).mono ?_; rintro e w1 ⟨rfl, hu1⟩
                         have hb1 : w1.heap[w.heap.size + 1]? = some (.cells (bcells zblk).toArray 56 (0, 0)) := (hu1.block _ (by simp) (fun e => e)).trans (alloc_at (by simp))
                         have hx1 : w1.heap[w.heap.size]? = some (callBox k i n c ka kn kc) := (hu1.block _ (by simp; omega) (fun e => e)).trans ((alloc_lt (by simp)).trans (alloc_at rfl))
                         have HU1 : RowKit.Hid (Upd (fun _ => False) w w1) := Lib.hid ((((Upd.refl _ w).alloc _).alloc _).trans hu1)
                         have HB1 := Lib.hid hb1
                         obtain ⟨x0, x1, x2, x3, x4⟩ := box_cells hx1
                         have HX1 := Lib.hid hx1
                         clear hu1 hb1 hx1)
  generalize hbs : bcells zblk = bs at *
  have hA : w1.drew.heap[w.heap.size]? = some (callBox k i n c ka kn kc) := HX1.out
  refine wp_region_G 6 (fun W => W.heap[w.heap.size]? = some (callBox k i n c ka kn kc)) [false, false, false, false, false, false, false] rfl (by kernel_rfl) ?_
  refine wpG_take (i := 0) (v := ptr) rfl (by kernel_rfl) (fun _ _ _ h => h) hA (.inl ⟨rfl, fun w5 q1 => ?_⟩) ?_
  · go_simp
  simp only [Act.put, List.setIfInBounds_toArray, List.set]
  refine wpG_take (i := 1) (v := .pointer (some ⟨w.heap.size, 1, none⟩)) rfl (by kernel_rfl) (fun _ _ _ h => h) hA (.inl ⟨rfl, fun w5 q1 => ?_⟩) ?_
  · go_simp
  simp only [Act.put, List.setIfInBounds_toArray, List.set]
  refine wpG_take (i := 2) (v := .int .i64 i) rfl (by kernel_rfl) (fun _ _ _ h => h) hA (.inl ⟨rfl, fun w5 q1 => ?_⟩) ?_
  · have q2 := (box_cells q1).2.1
    go_simp
  simp only [Act.put, List.setIfInBounds_toArray, List.set]
  refine wpG_take (i := 3) (v := .agg [.int .i64 k, .int .i64 i, .int .i64 n, .int .u8 c, .slice ka kn kc].toArray) rfl (by kernel_rfl) (fun _ _ _ h => h) hA (.inl ⟨rfl, fun w5 q1 => ?_⟩) ?_
  · exact run_load_mid' rfl rfl [.int .i64 k, .int .i64 i, .int .i64 n, .int .u8 c, .slice ka kn kc] (rangeAt_block (cs := [.int .i64 k, .int .i64 i, .int .i64 n, .int .u8 c, .slice ka kn kc]) q1) Try.underlying51 rfl Try.size51
  simp only [Act.put, List.setIfInBounds_toArray, List.set]
  clear x0 x1 x2 x3 x4
  refine wpG_do (i := 4) rfl (by kernel_rfl) rfl (fun K hK => ?_)
  have HK := Lib.hid hK
  clear hK
  go_step
  refine (block_run k i n c ka kn kc w1.drew).mono ?_
  rintro e wk ⟨rfl, huk⟩
  have hA : wk.heap[w.heap.size]? = some (callBox k i n c ka kn kc) := (huk.block _ (lt_of_heap HX1.out) (fun e => e)).trans HX1.out
  have HUK : RowKit.Hid (Upd (fun _ => False) w wk) := Lib.hid (HU1.out.drew.trans huk)
  have HBB : RowKit.Hid (wk.heap[w.heap.size + 1]? = some (.cells bs.toArray 56 (0, 0))) := Lib.hid ((huk.block _ (lt_of_heap HB1.out) (fun e => e)).trans HB1.out)
  clear huk HX1 HB1 HU1
  simp only []
  refine HK.out _ _ hA ?_
  clear HK
  simp only [List.setIfInBounds_toArray, List.set]
  refine wpG_do (i := 5) rfl (by kernel_rfl) rfl (fun K hK => ?_)
  have HK := Lib.hid hK
  clear hK
  go_step
  refine (HC.out wk HUK.out).mono ?_
  rintro e w2 ⟨rfl, hp, hu2⟩
  have hA : w2.heap[w.heap.size]? = some (callBox k i n c ka kn kc) := (hu2.block _ (lt_of_heap hA) (fun e => by have := HF.out _ e; omega)).trans hA
  have hb2 := (hu2.block _ (lt_of_heap HBB.out) (fun e => by have := HF.out _ e; omega)).trans HBB.out
  have HB2 := Lib.hid hb2; have HP := Lib.hid hp; have HU2 := Lib.hid hu2
  clear hb2 hp hu2 HC
  simp only []
  refine HK.out _ _ hA ?_
  clear HK
  simp only [List.setIfInBounds_toArray, List.set]
  refine wpG_tail_lit (k := 6) rfl rfl (by kernel_rfl) ?_
  simp only [List.drop]
  go_upto_region 13 with fail
  go_step
  refine wpList_load_mid rfl 56 (.tmp 4) rfl (w.heap.size + 1) 0 rfl bs _ (rangeAt_block HB2.out) Try.underlying56 rfl HI.out ?_
  iterate 3 go_step
  refine wpList_store_mid rfl 56 (.tmp 4) (.tmp 44) rfl (w.heap.size + 1) 0 bs.toArray rfl rfl (there_block HB2.out) (by rw [HI.out]; simp) H1B.out ?_
  go_wp2
  have hl3 := run_loadVar_mid (P := Try.prog) (w2.setCells (w.heap.size + 1) 0 bs) (w.heap.size + 1) 0 56 bs _ (rangeAt_block (heap_setCells_whole (vs := bs) HB2.out (by simp))) Try.underlying56 rfl HI.out
  refine bodyPost_ret (results_cell_tmp Try.results44 rfl hl3) rfl ⟨by rw [hbs]; rfl, wk, w2, HUK.out, lt_of_heap HBB.out, HP.out, HU2.out, Upd.setCells (F := fun k => k = w.heap.size + 1) rfl bs 0 (Upd.refl _ w2)⟩

end Go.Proofs.Ytbimkhdiplnbfaa
end

section
namespace Go.Proofs.Ytbimkhdiplnbfaa
open Go.RowKit Go.Deep

/-- A call. -/
structure CallR where
  k : Int
  i : Int
  n : Int
  c : Int
  ka : Option Addr
  kn : Nat
  kc : Nat

def cells5 (x : CallR) : List Value := [.int .i64 x.k, .int .i64 x.i, .int .i64 x.n, .int .u8 x.c, .slice x.ka x.kn x.kc]
def CallR.v (x : CallR) : Value := callV x.k x.i x.n x.c x.ka x.kn x.kc
theorem CallR.v_eq (x : CallR) : x.v = .agg (cells5 x).toArray := rfl
theorem cells5_length (x : CallR) : (cells5 x).length = 5 := rfl
theorem cells5_one (x : CallR) : ∀ u ∈ cells5 x, u.oneCell' = true := by
  intro u hu
  simp [cells5] at hu
  rcases hu with rfl | rfl | rfl | rfl | rfl <;> rfl
theorem flat5_length (L : List CallR) : (L.flatMap cells5).length = L.length * 5 := by
  induction L with
  | nil => rfl
  | cons x L ih => simp only [List.flatMap_cons, List.length_append, ih, cells5_length, List.length_cons]; omega
theorem flat5_one (L : List CallR) : ∀ u ∈ L.flatMap cells5, u.oneCell' = true := by
  intro u hu
  obtain ⟨x, _, hx⟩ := List.mem_flatMap.1 hu
  exact cells5_one x u hx

/-- The cells of the element at j. -/
theorem flat5_at : ∀ (L : List CallR) (j t : Nat) (x : CallR), L[j]? = some x → t < 5 → (L.flatMap cells5)[j * 5 + t]? = (cells5 x)[t]?
  | [], _, _, _, h, _ => by simp at h
  | y :: L, 0, t, x, h, ht => by
    simp at h; subst h
    simp only [List.flatMap_cons, Nat.zero_mul, Nat.zero_add]
    rw [List.getElem?_append_left (by rw [cells5_length]; exact ht)]
  | y :: L, j + 1, t, x, h, ht => by
    simp only [List.flatMap_cons]
    rw [List.getElem?_append_right (by rw [cells5_length]; omega), cells5_length, show (j + 1) * 5 + t - 5 = j * 5 + t by omega]
    exact flat5_at L j t x (by simpa using h) ht

theorem Try.info51p : (Try.prog.info? 51).map (fun i => (i.zero, i.size, i.bytes)) = some (some (.agg #[.int .i64 0, .int .i64 0, .int .i64 0, .int .u8 0, .slice none 0 0]), 5, 56) := by kernel_rfl

theorem Try.size51c : (Try.prog.info? 51).map (·.size) = some 5 := by kernel_rfl

/-- A row of calls of ours. -/
def RowC (w : World) (g cap : Nat) (L : List CallR) : Prop := w.ownsRow 0 51 5 (.slice (some ⟨g, 0, none⟩) L.length cap) L.length (L.flatMap cells5)

theorem RowC.cell {w : World} {g cap : Nat} {L : List CallR} (h : RowC w g cap L) {j t : Nat} {x : CallR} (hx : L[j]? = some x) (ht : t < 5) : w.cell? ⟨g, j * 5 + t, none⟩ = (cells5 x)[t]? := by
  have hj : j < L.length := (List.getElem?_eq_some_iff.1 hx).1
  rw [World.ownsRow.cellAt h _ (by omega)]
  exact flat5_at L j t x hx ht

theorem RowC.kept {w w' : World} {g cap : Nat} {L : List CallR} {G : Nat → Prop} (h : RowC w g cap L) (hu : Upd G w w') (hg : ¬ G g) : RowC w' g cap L :=
  ownsRow_any h hu (fun k hk => by simp [Value.ownBlock] at hk; subst hk; exact hg)

theorem RowC.lt {w : World} {g cap : Nat} {L : List CallR} (h : RowC w g cap L) : g < w.heap.size := (World.ownsRow.lt h g rfl).2

set_option maxHeartbeats 400000 in
theorem calmF_run (x : CallR) (w : World) : Calls Try.prog 100 #[.agg #[.int .i64 x.k, .int .i64 x.i, .int .i64 x.n, .int .u8 x.c, .slice x.ka x.kn x.kc]] w fun e w' => e = .returned (.bool (decide (6 < kindOf x.k))) ∧ Upd (fun _ => False) w w' := by
  go_enter Try.func100, Try.ntmps100
  go_wp2_with (go_at_call 57; refine (kind_run x.k x.i x.n x.c x.ka x.kn x.kc _).mono ?_; rintro e w' ⟨rfl, hu⟩)
  go_ret
  exact ⟨rfl, ((Upd.refl _ w).alloc _).trans hu⟩

set_option maxRecDepth 8000 in
set_option maxHeartbeats 1000000 in
theorem indexF_run {g cap : Nat} {L : List CallR} (w : World) (h : RowC w g cap L) (hL : L.length ≤ 1000) :
    Calls Try.prog 118 #[.slice (some ⟨g, 0, none⟩) L.length cap, .func (.func 100) #[] #[]] w fun e w' =>
      ((e = .returned (.int .i64 (-1)) ∧ ∀ x ∈ L, kindOf x.k ≤ 6) ∨ ∃ q : Nat, q < L.length ∧ e = .returned (.int .i64 q) ∧ ∀ j x, j < q → L[j]? = some x → kindOf x.k ≤ 6) ∧ Upd (fun _ => False) w w' := by
  have HR := Lib.hid h
  clear h
  go_enter Try.func118, Try.ntmps118
  go_wp2
  go_loopg [8] L.length (fun gk i wr => ∃ q : Nat, q ≤ L.length ∧ gk = L.length - q ∧ i = .int .i64 q ∧ (∀ j x, j < q → L[j]? = some x → kindOf x.k ≤ 6) ∧ Upd (fun _ => False) w wr)
  case atStart => exact ⟨0, Nat.zero_le _, rfl, rfl, fun j x hj => by omega, Upd.refl _ _⟩
  case round =>
    obtain ⟨q, hq, rfl, rfl, hall, hu⟩ := hrel
    have HA := Lib.hid hall; have HU := Lib.hid hu
    clear hall hu
    obtain ⟨wo, rfl⟩ : ∃ wo, wo = wr := ⟨_, rfl⟩
    by_cases hqn : q < L.length
    · have hqn2 : (q : Int) < L.length := by omega
      obtain ⟨x, hx⟩ : ∃ x, L[q]? = some x := ⟨L[q], by simp [hqn]⟩
      have hr := HR.out.kept HU.out (fun e => e)
      have hrg : wo.rangeAt g (q * 5) (cells5 x) := fun t u hu => by
        have ht : t < 5 := by have := (List.getElem?_eq_some_iff.1 hu).1; simpa [cells5_length] using this
        rw [hr.cell hx ht]; exact hu
      have HRG := Lib.hid hrg
      clear hrg
      have HX := Lib.hid hx
      clear hr hx
      go_upto_region 4 with fail
      iterate 13 go_step
      refine wpList_load_mid rfl 51 (.tmp 14) rfl g (q * 5) rfl (cells5 x) _ HRG.out Try.underlying51 rfl Try.size51c ?_
      go_wp2_with fail
      refine (calmF_run x wo).mono ?_
      rintro e w2 ⟨rfl, hu2⟩
      have HU2 := Lib.hid (HU.out.trans hu2)
      clear hu2 HU HRG
      by_cases h6 : 6 < kindOf x.k
      · simp only [h6, decide_true]
        go_wp2
        go_ret
        exact ⟨.inr ⟨q, hqn, rfl, HA.out⟩, HU2.out⟩
      · simp only [h6, decide_false]
        go_wp2
        go_roundg (L.length - (q + 1))
        case measure => omega
        case rel =>
          refine ⟨q + 1, by omega, rfl, congrArg _ (by omega), fun j y hj hy => ?_, HU2.out⟩
          by_cases hjq : j = q
          · subst hjq
            have e := Option.some.inj (hy.symm.trans HX.out)
            subst e; omega
          · exact HA.out j y (by omega) hy
    · obtain rfl : q = L.length := by omega
      go_wp2
      go_ret
      refine ⟨.inl ⟨rfl, fun x hx => ?_⟩, HU.out⟩
      obtain ⟨j, hj, hjx⟩ := List.getElem_of_mem hx
      exact HA.out j x hj (by simp [hj, hjx])

end Go.Proofs.Ytbimkhdiplnbfaa
end

section
namespace Go.Proofs.Ytbimkhdiplnbfaa
open Go.RowKit

theorem OnLeft.left {w w' : World} {p : Nat} {D : Dk} {F : Nat → Prop} (hF : ∀ j, F j → j < w.heap.size) (h : OnLeft w F (fun W1 W2 => Left W1 p D F W2) w') : Left w p D F w' := by
  obtain ⟨W1, W2, h1, h2, ⟨F', g1, g2, g3⟩, h4, h5⟩ := h
  have hz := h1.size
  refine ⟨F', g1.kept h5 (fun k hk e => ?_), fun k hk => (g2 k hk).imp id (fun e => by omega), ?_⟩
  · rcases g2 k hk with hk | hk
    · have := hF k hk; omega
    · omega
  · exact ((h1.mono (fun _ _ e => e.elim)).trans h4).step h5 (fun k hk e => by omega)

/-- Which sector a call means, and whether it writes. -/
def CallR.tgt (x : CallR) : Int := if kindOf x.k = 6 then 0 else x.i
def CallR.wr (x : CallR) : Bool := decide (kindOf x.k ≠ 5)

theorem Left.upd {w w' : World} {p : Nat} {D : Dk} {F : Nat → Prop} (h : Left w p D F w') : Upd F w w' := h.choose_spec.2.2

theorem on_calm {p : Nat} {D : Dk} {F : Nat → Prop} {K : Nat} (x : CallR) (hc : 0 ≤ x.c ∧ x.c ≤ 255) (h6 : kindOf x.k ≤ 6) (w : World) (h : Dsk w p D F) (hok : D.Ok K) (hK : K ≤ 1000000) :
    Calls Try.prog 44 #[.agg #[.int .i64 x.k, .int .i64 x.i, .int .i64 x.n, .int .u8 x.c, .slice x.ka x.kn x.kc], .pointer (some ⟨p, 0, none⟩)] w fun e w' =>
      ∃ (B : List Int) (D' : Dk), e = .returned (.tuple #[.agg (bcells B).toArray, .int .i64 (D.callE x.tgt x.wr)]) ∧ B.length = 64 ∧ SameNums D' (D.callD x.tgt x.wr) ∧ D'.Ok (K + 2) ∧ Left w p D' F w' := by
  have hF := h.lt
  have hk2 : D.Ok 1099511627773 := hok.mono (by omega)
  by_cases h5 : kindOf x.k = 5
  · have e1 : x.tgt = x.i := by unfold CallR.tgt; rw [if_neg (by omega)]
    have e2 : x.wr = false := by unfold CallR.wr; simp [h5]
    rw [e1, e2]
    refine (on_read (F := F) x.k x.i x.n x.c x.ka x.kn x.kc w hF (D.callE x.i false) (D.reads x.i) (reads_blk hok x.i).1 (fun W1 W2 => Left W1 p (D.callD x.i false) F W2) h5 (fun W hu => (read_any x.i W (h.kept hu (fun _ _ e => e)) (hk2.mono (by omega))).mono ?_)).mono ?_
    · rintro e w' ⟨g1, g2, g3⟩
      exact ⟨g1, ⟨F, g2, fun _ hk => .inl hk, g3⟩, g3⟩
    · rintro e w' ⟨g1, g2⟩
      exact ⟨_, _, g1, (reads_blk hok x.i).1, ⟨rfl, rfl, rfl, rfl, rfl⟩, (hok.callD _ _).mono (by omega), g2.left hF⟩
  have e2 : x.wr = true := by unfold CallR.wr; simp [h5]
  rw [e2]
  by_cases hs : kindOf x.k = 6
  · have e1 : x.tgt = 0 := by unfold CallR.tgt; rw [if_pos hs]
    rw [e1]
    refine (on_sync (F := F) x.k x.i x.n x.c x.ka x.kn x.kc w hF (D.callE 0 true) (fun W1 W2 => Left W1 p D.sync F W2) hs (fun W hu => (sync_any W (h.kept hu (fun _ _ e => e)) hk2).mono ?_)).mono ?_
    · rintro e w' ⟨g1, g2⟩
      exact ⟨g1, g2, g2.upd⟩
    · rintro e w' ⟨g1, g2⟩
      exact ⟨_, _, g1, by simp [zblk], sync_nums D, hok.sync.mono (by omega), g2.left hF⟩
  · have e1 : x.tgt = x.i := by unfold CallR.tgt; rw [if_neg hs]
    rw [e1]
    refine (on_write (F := F) x.k x.i x.n x.c x.ka x.kn x.kc (κ := kindOf x.k) (by omega) w hF (D.callE x.i true) (fun W1 W2 => Left W1 p (D.write x.i (fill x.c)) F W2) rfl (fun W hu => (write_any x.i (fill x.c) W (h.kept hu (fun _ _ e => e)) (hk2.mono (by omega)) (by simp [fill])).mono ?_)).mono ?_
    · rintro e w' ⟨g1, g2⟩
      exact ⟨g1, g2, g2.upd⟩
    · rintro e w' ⟨g1, g2⟩
      exact ⟨_, _, g1, by simp [zblk], write_nums D x.i _, hok.write _ (fill_ok hc), g2.left hF⟩

end Go.Proofs.Ytbimkhdiplnbfaa
end

section
namespace Go.Proofs.Ytbimkhdiplnbfaa
open Go.RowKit Go.Deep

def spl (xs : List Value) : Nat → List Value → List Value
  | _, [] => xs
  | o, v :: r => spl (xs.set o v) (o + 1) r

theorem spl_length : ∀ (vs : List Value) (xs : List Value) (o : Nat), (spl xs o vs).length = xs.length
  | [], _, _ => rfl
  | v :: r, xs, o => by rw [spl, spl_length r]; simp

theorem spl_at : ∀ (vs : List Value) (xs : List Value) (o p : Nat), o + vs.length ≤ xs.length → (spl xs o vs)[p]? = if o ≤ p ∧ p < o + vs.length then vs[p - o]? else xs[p]?
  | [], xs, o, p, _ => by
    rw [spl, if_neg]
    simp
  | v :: r, xs, o, p, h => by
    simp only [List.length_cons] at h ⊢
    rw [spl, spl_at r _ _ _ (by simp; omega)]
    by_cases h1 : p = o
    · subst h1
      rw [if_neg (by omega), if_pos (by omega)]
      simp [show p < xs.length by omega]
    · by_cases h2 : o + 1 ≤ p ∧ p < o + 1 + r.length
      · rw [if_pos h2, if_pos (by omega), show p - o = (p - (o + 1)) + 1 by omega]
        simp
      · rw [if_neg h2, if_neg (by omega), List.getElem?_set_ne (by omega)]

theorem ownsRow_setCells {base : Nat} {e : TypeId} {size g cap n : Nat} : ∀ (vs : List Value) (o : Nat) (w : World) (xs : List Value), w.ownsRow base e size (.slice (some ⟨g, 0, none⟩) n cap) n xs →
    (w.setCells g o vs).ownsRow base e size (.slice (some ⟨g, 0, none⟩) n cap) n (spl xs o vs)
  | [], _, _, _, h => h
  | v :: r, o, _, _, h => ownsRow_setCells r (o + 1) _ _ (h.stored o v).1

theorem upd_setCells (w : World) (g o : Nat) (vs : List Value) : Upd (fun k => k = g) w (w.setCells g o vs) := Upd.setCells (F := fun k => k = g) rfl vs o (Upd.refl _ w)

theorem flat5_set (M : List CallR) (i : Nat) (x : CallR) (hi : i < M.length) : spl (M.flatMap cells5) (i * 5) (cells5 x) = (M.set i x).flatMap cells5 := by
  have hl := flat5_length M
  apply List.ext_getElem?
  intro p
  rw [spl_at _ _ _ _ (by rw [hl, cells5_length]; omega), cells5_length]
  by_cases hp : p < M.length * 5
  · have hj : p / 5 < M.length := by omega
    have ht : p % 5 < 5 := by omega
    have hpp : p = p / 5 * 5 + p % 5 := by omega
    obtain ⟨j, hjd⟩ : ∃ j, j = p / 5 := ⟨_, rfl⟩
    obtain ⟨t, htd⟩ : ∃ t, t = p % 5 := ⟨_, rfl⟩
    rw [← hjd] at hpp hj; rw [← htd] at hpp ht
    clear hjd htd
    subst hpp
    by_cases hji : j = i
    · subst hji
      rw [if_pos (by omega), flat5_at (M.set j x) j t x (by simp [hj]) ht, show j * 5 + t - j * 5 = t by omega]
    · rw [if_neg (by omega), flat5_at M j t M[j] (by simp [hj]) ht, flat5_at (M.set i x) j t M[j] (by rw [List.getElem?_set_ne (Ne.symm hji)]; simp [hj]) ht]
  · rw [if_neg (by omega), List.getElem?_eq_none (by rw [hl]; omega), List.getElem?_eq_none (by rw [flat5_length]; simp; omega)]

theorem RowC.store {w : World} {g cap : Nat} {M : List CallR} (h : RowC w g cap M) {i : Nat} (hi : i < M.length) (x : CallR) : RowC (w.setCells g (i * 5) (cells5 x)) g cap (M.set i x) := by
  have := ownsRow_setCells (cells5 x) (i * 5) w _ h
  rw [flat5_set M i x hi] at this
  unfold RowC
  rw [List.length_set]
  exact this

theorem RowC.there {w : World} {g cap : Nat} {M : List CallR} (h : RowC w g cap M) {i : Nat} (hi : i < M.length) : w.there g (i * 5) 5 := fun j hj => by
  refine ⟨?_, World.ownsRow.frozenAt h _⟩
  rw [h.cell (x := M[i]) (by simp [hi]) hj]
  have : j < (cells5 M[i]).length := hj
  simp [this]

theorem ownsRow_less {w : World} {base : Nat} {e : TypeId} {size g cap n m : Nat} {xs : List Value} (h : w.ownsRow base e size (.slice (some ⟨g, 0, none⟩) n cap) n xs) (hm : m ≤ n) :
    w.ownsRow base e size (.slice (some ⟨g, 0, none⟩) m cap) m (xs.take (m * size)) := by
  obtain ⟨h1, h2⟩ := h
  have hms : m * size ≤ n * size := Nat.mul_le_mul_right _ hm
  refine ⟨by rw [List.length_take, h1]; omega, ?_⟩
  rcases h2 with ⟨e, _⟩ | ⟨g', c', cur, e, hb, hh, hc, hc2, hs, ht⟩
  · cases e
  · simp only [Value.slice.injEq, Option.some.injEq, Addr.mk.injEq, and_true, true_and] at e
    obtain ⟨rfl, rfl⟩ := e
    refine .inr ⟨g, cap, cur, rfl, hb, hh, by omega, hc2, hs, ?_⟩
    rw [← ht, List.take_take]
    congr 1
    omega

/-- What stands behind place i has been cleared; the first i are a row. -/
theorem RowC.cut {w : World} {g cap : Nat} {M : List CallR} (h : RowC w g cap M) {i : Nat} (hi : i ≤ M.length) (vs : List Value) (hv : i * 5 + vs.length ≤ M.length * 5) : RowC (w.setCells g (i * 5) vs) g cap (M.take i) := by
  have hl := flat5_length M
  have h1 := ownsRow_less (ownsRow_setCells vs (i * 5) w _ h) hi
  have e : (spl (M.flatMap cells5) (i * 5) vs).take (i * 5) = (M.take i).flatMap cells5 := by
    apply List.ext_getElem?
    intro p
    rw [List.getElem?_take]
    split
    · rename_i hp
      rw [spl_at _ _ _ _ (by rw [hl]; omega), if_neg (by omega)]
      have ht : p % 5 < 5 := by omega
      have hpp : p = p / 5 * 5 + p % 5 := by omega
      have hj : p / 5 < i := by omega
      obtain ⟨j, hjd⟩ : ∃ j, j = p / 5 := ⟨_, rfl⟩
      obtain ⟨t, htd⟩ : ∃ t, t = p % 5 := ⟨_, rfl⟩
      rw [← hjd] at hpp hj; rw [← htd] at hpp ht
      clear hjd htd
      subst hpp
      have hjm : j < M.length := by omega
      rw [flat5_at M j t M[j] (by simp [hjm]) ht, flat5_at (M.take i) j t M[j] (by rw [List.getElem?_take, if_pos hj]; simp [hjm]) ht]
    · rename_i hp
      rw [List.getElem?_eq_none (by rw [flat5_length]; simp; omega)]
  rw [e] at h1
  unfold RowC
  rw [List.length_take, Nat.min_eq_left hi]
  exact h1

theorem run_clear5 (w : World) (ty : TypeId) {g cap : Nat} {M : List CallR} (h : RowC w g cap M) {i : Nat} (hi : i < M.length) (c : Nat) :
    ∃ vs : List Value, vs.length = (M.length - i) * 5 ∧ (Builtin.clear_ #[65] ty #[.slice (some ⟨g, i * 5, none⟩) (M.length - i) c]).run Try.prog w = .ok (.tuple #[]) (w.setCells g (i * 5) vs) := by
  obtain ⟨inf, hinf, hz⟩ := Option.map_eq_some_iff.1 Try.info51p
  simp only [Prod.mk.injEq] at hz
  obtain ⟨hz1, hz2, hz3⟩ := hz
  obtain ⟨z, hz⟩ : ∃ z : Value, z = .agg #[.int .i64 0, .int .i64 0, .int .i64 0, .int .u8 0, .slice none 0 0] := ⟨_, rfl⟩
  rw [← hz] at hz1
  have hzv : (zeroValue 51).run Try.prog w = .ok z w := by rw [hz]; kernel_rfl
  have hzc : z.cells = #[.int .i64 0, .int .i64 0, .int .i64 0, .int .u8 0, .slice none 0 0] := by rw [hz]; rfl
  have hl : (Builtin.zeroCells z.cells (M.length - i)).toList.length = (M.length - i) * 5 := by simp [Builtin.zeroCells, hzc]
  have hone : ∀ v ∈ (Builtin.zeroCells z.cells (M.length - i)).toList, v.oneCell' = true := by
    intro v hv
    simp only [Builtin.zeroCells, hzc, Array.toList_map, List.mem_map] at hv
    obtain ⟨k, _, rfl⟩ := hv
    have hk : k % 5 < 5 := Nat.mod_lt _ (by omega)
    show ((#[Value.int .i64 0, .int .i64 0, .int .i64 0, .int .u8 0, .slice none 0 0] : Array Value)[k % 5]!).oneCell' = true
    generalize k % 5 = t at hk
    rcases t with _ | _ | _ | _ | _ | t
    · rfl
    · rfl
    · rfl
    · rfl
    · rfl
    · omega
  have hcell : ∀ j, j < (M.length - i) * 5 → (w.cell? ⟨g, i * 5 + j, none⟩).isSome = true := fun j hj => by
    have hjm : i + j / 5 < M.length := by omega
    have := h.cell (j := i + j / 5) (t := j % 5) (x := M[i + j / 5]) (by simp [hjm]) (by omega)
    rw [show i * 5 + j = (i + j / 5) * 5 + j % 5 by omega, this]
    have h5 : j % 5 < (cells5 M[i + j / 5]).length := by rw [cells5_length]; omega
    simp [h5]
  have hst := run_storeCells_cells (P := Try.prog) g (i * 5) (Builtin.zeroCells z.cells (M.length - i)).toList 0 w (fun j hj => by rw [hl] at hj; simpa using hcell j hj) (fun j _ => by simpa using World.ownsRow.frozenAt h (i * 5 + j)) hone
  simp only [Nat.add_zero] at hst
  refine ⟨_, hl, ?_⟩
  obtain ⟨m, hm⟩ : ∃ m, M.length - i = m + 1 := ⟨M.length - i - 1, by omega⟩
  rw [hm] at hst ⊢
  simp [Builtin.clear_, run_underlying Try.underlying65, hzv, hst]

end Go.Proofs.Ytbimkhdiplnbfaa
end

section
namespace Go.Proofs.Ytbimkhdiplnbfaa
open Go.RowKit Go.Deep

theorem flat_length {α : Type} (f : α → List Value) (n : Nat) : ∀ (L : List α), (∀ y ∈ L, (f y).length = n) → (L.flatMap f).length = L.length * n
  | [], _ => by simp
  | x :: L, h => by
    have hx := h x List.mem_cons_self
    simp only [List.flatMap_cons, List.length_append, List.length_cons, flat_length f n L (fun y hy => h y (List.mem_cons_of_mem _ hy)), hx, Nat.succ_mul]
    omega

theorem flat_get {α : Type} (f : α → List Value) (n : Nat) (L : List α) (j t : Nat) (x : α) (hx : L[j]? = some x) (hl : ∀ y ∈ L, (f y).length = n) (ht : t < n) : (L.flatMap f)[j * n + t]? = (f x)[t]? := by
  have h := flat_at f n L j x hx hl
  rw [← h, List.getElem?_take, if_pos ht, List.getElem?_drop]

theorem flat_set {α : Type} (f : α → List Value) (n : Nat) (hn : 0 < n) (M : List α) (i : Nat) (x : α) (hi : i < M.length) (hl : ∀ y ∈ M, (f y).length = n) (hx : (f x).length = n) : spl (M.flatMap f) (i * n) (f x) = (M.set i x).flatMap f := by
  have hfl := flat_length f n M hl
  have hl2 : ∀ y ∈ M.set i x, (f y).length = n := fun y hy => by
    rcases List.mem_or_eq_of_mem_set hy with hy | rfl
    · exact hl y hy
    · exact hx
  have hfl2 := flat_length f n (M.set i x) hl2
  rw [List.length_set] at hfl2
  have hin : i * n + n ≤ M.length * n := by
    have := Nat.mul_le_mul_right n (show i + 1 ≤ M.length by omega)
    rwa [Nat.succ_mul] at this
  apply List.ext_getElem?
  intro p
  rw [spl_at _ _ _ _ (by rw [hfl, hx]; exact hin), hx]
  by_cases hp : p < M.length * n
  · have hj : p / n < M.length := Nat.div_lt_of_lt_mul (by rwa [Nat.mul_comm])
    have ht : p % n < n := Nat.mod_lt _ hn
    have hpp : p = p / n * n + p % n := by rw [Nat.mul_comm]; exact (Nat.div_add_mod p n).symm
    obtain ⟨j, hjd⟩ : ∃ j, j = p / n := ⟨_, rfl⟩
    obtain ⟨t, htd⟩ : ∃ t, t = p % n := ⟨_, rfl⟩
    rw [← hjd, ← htd] at hpp
    rw [← hjd] at hj; rw [← htd] at ht
    clear hjd htd
    subst hpp
    by_cases hji : j = i
    · subst hji
      rw [if_pos ⟨by omega, by omega⟩, flat_get f n (M.set j x) j t x (by simp [hj]) hl2 ht, show j * n + t - j * n = t by omega]
    · have hne : ¬ (i * n ≤ j * n + t ∧ j * n + t < i * n + n) := by
        rintro ⟨h1, h2⟩
        rcases Nat.lt_or_ge j i with h | h
        · have := Nat.mul_le_mul_right n (show j + 1 ≤ i by omega)
          rw [Nat.succ_mul] at this; omega
        · have := Nat.mul_le_mul_right n (show i + 1 ≤ j by omega)
          rw [Nat.succ_mul] at this; omega
      rw [if_neg hne, flat_get f n M j t M[j] (by simp [hj]) hl ht, flat_get f n (M.set i x) j t M[j] (by rw [List.getElem?_set_ne (Ne.symm hji)]; simp [hj]) hl2 ht]
  · rw [if_neg (by omega), List.getElem?_eq_none (by rw [hfl]; omega), List.getElem?_eq_none (by rw [hfl2]; omega)]

/-- A block of the row is stored anew. -/
theorem ArrS.store {w : World} {g Ac : Nat} {arr : List (List Int)} (h : ArrS w (some ⟨g, 0, none⟩) Ac arr) (hl : ∀ b ∈ arr, b.length = 64) {i : Nat} (hi : i < arr.length) {b : List Int} (hb : b.length = 64) : ArrS (w.setCells g (i * 64) (bcells b)) (some ⟨g, 0, none⟩) Ac (arr.set i b) := by
  have h1 := ownsRow_setCells (bcells b) (i * 64) w _ h
  rw [flat_set bcells 64 (by omega) arr i b hi (fun y hy => by rw [bcells_length]; exact hl y hy) (by rw [bcells_length]; exact hb)] at h1
  unfold ArrS
  rw [List.length_set]
  exact h1

end Go.Proofs.Ytbimkhdiplnbfaa
end

section
namespace Go.Proofs.Ytbimkhdiplnbfaa
open Go.RowKit Go.Deep

theorem run_exec_clear {o : Oper} {a : Act} {w w' : World} {s : Operand} {v u : Value} (ho : o.op = .call { callee := .builtin .clear, args := #[s], argTypes := #[65] }) (hs : a.eval s = v)
    (hr : (Builtin.clear_ #[65] o.type #[v]).run Try.prog w = .ok u w') : (execOp a.eval o).run Try.prog w = .ok (.value u) w' := by
  simp [execOp, ho, resolve, invoke, builtin, hs, hr, Result.andThen]

/-- What holds in DeleteFunc's loop: the first i stay. -/
structure DelAt (w wr : World) (g cap : Nat) (L M : List CallR) (i : Nat) : Prop where
  row : RowC wr g cap M
  len : M.length = L.length
  calm : ∀ p x, p < i → M[p]? = some x → kindOf x.k ≤ 6
  mem : ∀ x ∈ M, x ∈ L
  upd : Upd (fun k => k = g) w wr

theorem DelAt.kept {w wr W : World} {g cap : Nat} {L M : List CallR} {i : Nat} (h : DelAt w wr g cap L M i) (hu : Upd (fun _ => False) wr W) : DelAt w W g cap L M i :=
  ⟨h.row.kept hu (fun e => e), h.len, h.calm, h.mem, h.upd.trans (hu.mono (fun _ _ e => e.elim))⟩

theorem DelAt.store {w wr : World} {g cap : Nat} {L M : List CallR} {i : Nat} (h : DelAt w wr g cap L M i) (hi : i < M.length) {x : CallR} (hx : x ∈ M) (hk : kindOf x.k ≤ 6) :
    DelAt w (wr.setCells g (i * 5) (cells5 x)) g cap L (M.set i x) (i + 1) := by
  refine ⟨h.row.store hi x, by rw [List.length_set]; exact h.len, fun p y hp hy => ?_, fun y hy => ?_, h.upd.trans (upd_setCells _ _ _ _)⟩
  · by_cases hpi : p = i
    · subst hpi
      simp [hi] at hy
      subst hy; exact hk
    · rw [List.getElem?_set_ne (Ne.symm hpi)] at hy
      exact h.calm p y (by omega) hy
  · rcases List.mem_or_eq_of_mem_set hy with hy | rfl
    · exact h.mem y hy
    · exact h.mem _ hx

set_option maxRecDepth 8000 in
set_option maxHeartbeats 2000000 in
theorem delete_run {g cap : Nat} {L : List CallR} (w : World) (h : RowC w g cap L) (hL : L.length ≤ 1000) (hcap : L.length ≤ cap ∧ cap ≤ maxLen) :
    Calls Try.prog 98 #[.slice (some ⟨g, 0, none⟩) L.length cap, .func (.func 100) #[] #[]] w fun e w' =>
      ∃ L' : List CallR, e = .returned (.slice (some ⟨g, 0, none⟩) L'.length cap) ∧ RowC w' g cap L' ∧ L'.length ≤ L.length ∧ (∀ x ∈ L', kindOf x.k ≤ 6 ∧ x ∈ L) ∧ Upd (fun k => k = g) w w' := by
  have HR := Lib.hid h
  have hi0 := indexF_run w h hL
  have hml := hcap.2
  unfold maxLen at hml
  clear h
  go_enter Try.func98, Try.ntmps98
  go_wp2_with (go_at_call 118; fail)
  refine hi0.mono ?_
  rintro e w1 ⟨he, hu1⟩
  have HU1 := Lib.hid hu1
  clear hi0 hu1
  rcases he with ⟨rfl, hall⟩ | ⟨q, hq, rfl, hall⟩
  · have HALL := Lib.hid hall
    clear hall
    simp only []
    go_wp2
    go_ret
    exact ⟨L, rfl, HR.out.kept HU1.out (fun e => e), Nat.le_refl _, fun x hx => ⟨HALL.out x hx, hx⟩, HU1.out.mono (fun _ _ e => e.elim)⟩
  · have hq1 : ¬ ((q : Int) = -1) := by omega
    have HD : RowKit.Hid (DelAt w w1 g cap L L q) := Lib.hid ⟨HR.out.kept HU1.out (fun e => e), rfl, hall, fun x hx => hx, HU1.out.mono (fun _ _ e => e.elim)⟩
    clear hall HR HU1
    simp only []
    go_wp2
    go_loopg [5, 6] (L.length - (q + 1)) (fun gk i j wr => ∃ i' j' : Nat, ∃ M, i' < j' ∧ j' ≤ L.length ∧ gk = L.length - j' ∧ i = .int .i64 i' ∧ j = .int .i64 j' ∧ DelAt w wr g cap L M i')
    case atStart => exact ⟨q, q + 1, L, by omega, by omega, rfl, rfl, congrArg _ (by omega), HD.out⟩
    case round =>
      clear HD
      obtain ⟨i', j', M, hij, hjl, rfl, rfl, rfl, hd⟩ := hrel
      have hml2 := hd.len
      have HD := Lib.hid hd
      clear hd
      obtain ⟨wo, rfl⟩ : ∃ wo, wo = wr := ⟨_, rfl⟩
      by_cases hjn : j' < L.length
      · have hjn2 : (j' : Int) < L.length := by omega
        obtain ⟨x, hx⟩ : ∃ x, M[j']? = some x := ⟨M[j'], by simp [hml2, hjn]⟩
        have hr := HD.out.row
        have y0 : wo.cell? ⟨g, j' * 5, none⟩ = some (.int .i64 x.k) := hr.cell (t := 0) hx (by omega)
        have y1 : wo.cell? ⟨g, j' * 5 + 1, none⟩ = some (.int .i64 x.i) := hr.cell (t := 1) hx (by omega)
        have y2 : wo.cell? ⟨g, j' * 5 + 2, none⟩ = some (.int .i64 x.n) := hr.cell (t := 2) hx (by omega)
        have y3 : wo.cell? ⟨g, j' * 5 + 3, none⟩ = some (.int .u8 x.c) := hr.cell (t := 3) hx (by omega)
        have y4 : wo.cell? ⟨g, j' * 5 + 4, none⟩ = some (.slice x.ka x.kn x.kc) := hr.cell (t := 4) hx (by omega)
        have HX := Lib.hid hx
        clear hr hx
        go_wp2_with (go_at_call 100; fail)
        refine (calmF_run x _).mono ?_
        rintro e w2 ⟨rfl, hu2⟩
        have hbx : w2.heap[wo.heap.size]? = some (.cells (cells5 x).toArray 51 (0, 0)) := (hu2.block _ (by simp) (fun e => e)).trans (alloc_at rfl)
        have HD2 := Lib.hid (HD.out.kept (((Upd.refl _ wo).alloc _).trans hu2))
        have HBX := Lib.hid hbx
        clear hu2 hbx HD y0 y1 y2 y3 y4
        by_cases h6 : 6 < kindOf x.k
        · simp only [h6, decide_true]
          go_wp2
          go_roundg (L.length - (j' + 1))
          case measure => omega
          case rel => exact ⟨i', j' + 1, M, by omega, by omega, rfl, rfl, congrArg _ (by omega), HD2.out⟩
        · simp only [h6, decide_false]
          have hil : i' < M.length := by omega
          have hib : (i' : Int) < L.length := by omega
          go_upto_region 9 with fail
          iterate 7 go_step
          refine wpList_load_mid rfl 51 (.tmp 7) rfl wo.heap.size 0 rfl (cells5 x) _ (rangeAt_block HBX.out) Try.underlying51 rfl Try.size51c ?_
          iterate 3 go_step
          refine wpList_store_mid rfl 51 (.tmp 33) (.tmp 32) rfl g (i' * 5) (cells5 x).toArray rfl rfl (HD2.out.row.there hil) Try.size51c (all_oneCell_toArray (cells5_one x)) ?_
          have HD3 := Lib.hid (HD2.out.store hil (List.mem_of_getElem? HX.out) (by omega))
          refine (?_ : wpList _ _ _ _ _ (w2.setCells g (i' * 5) (cells5 x)))
          generalize w2.setCells g (i' * 5) (cells5 x) = w3 at *
          go_wp2
          go_roundg (L.length - (j' + 1))
          case measure => omega
          case rel => exact ⟨i' + 1, j' + 1, M.set i' x, by omega, by omega, rfl, congrArg _ (by omega), congrArg _ (by omega), HD3.out⟩
      · obtain rfl : j' = L.length := by omega
        have hi1 : (i' : Int) ≤ L.length := by omega
        have hi2 : (i' : Int) ≤ cap := by omega
        have hc2 : (L.length : Int) ≤ cap := by omega
        have hic : ¬ cap - i' = 0 := by omega
        go_upto_region 11 with fail
        iterate 10 go_step
        obtain ⟨vs, hvl, hcl⟩ := run_clear5 wo 0 HD.out.row (i := i') (by omega) (cap - i')
        have hcut := HD.out.row.cut (i := i') (by omega) vs (by rw [hvl]; omega)
        have hup := HD.out.upd.trans (upd_setCells wo g (i' * 5) vs)
        rw [hml2] at hcl
        refine wpList_exec rfl (run_exec_clear rfl rfl hcl) ?_
        have HCU := Lib.hid hcut; have HUP := Lib.hid hup
        clear hcl hcut hup hvl
        refine (?_ : wpList _ _ _ _ _ (wo.setCells g (i' * 5) vs))
        generalize wo.setCells g (i' * 5) vs = w3 at *
        go_wp2
        go_ret
        have htl : (M.take i').length = i' := by rw [List.length_take]; omega
        refine ⟨M.take i', by rw [htl]; rfl, HCU.out, by omega, fun x hx => ?_, HUP.out⟩
        obtain ⟨p, hp, hpx⟩ := List.getElem_of_mem hx
        rw [htl] at hp
        refine ⟨HD.out.calm p x hp ?_, HD.out.mem x (List.mem_of_mem_take hx)⟩
        rw [← hpx]
        simp

end Go.Proofs.Ytbimkhdiplnbfaa
end

section
namespace Go.Proofs.Ytbimkhdiplnbfaa
open Go.RowKit Go.Deep

/-- A row of calls that comes in. -/
def CallsIn (w : World) (sa : Option Addr) (sc : Nat) (L : List CallR) : Prop := (sa = none ∧ L = [] ∧ sc = 0) ∨ ∃ a : Addr, sa = some a ∧ L.length ≤ sc ∧ sc ≤ maxLen ∧ ∀ j u, (L.flatMap cells5)[j]? = some u → w.cell? (a.add j) = some u

theorem CallsIn.kept {w w' : World} {sa : Option Addr} {sc : Nat} {L : List CallR} (h : CallsIn w sa sc L) (hu : Upd (fun _ => False) w w') : CallsIn w' sa sc L := by
  rcases h with h | ⟨a, h1, h2, h3, h4⟩
  · exact .inl h
  · exact .inr ⟨a, h1, h2, h3, fun j u hj => cell_kept hu (h4 j u hj)⟩

theorem flat5_take (L : List CallR) (m j : Nat) (u : Value) (h : ((L.take m).flatMap cells5)[j]? = some u) : (L.flatMap cells5)[j]? = some u := by
  have hl := (List.getElem?_eq_some_iff.1 h).1
  rw [← List.take_append_drop m L, List.flatMap_append, List.getElem?_append_left (by simpa [List.take_append_drop] using hl)]
  simpa [List.take_append_drop] using h

/-- What calm hands back. -/
def CalmAt (w w' : World) (v : Value) (L : List CallR) : Prop := (v = .slice none 0 0 ∧ L = []) ∨ ∃ g cap, v = .slice (some ⟨g, 0, none⟩) L.length cap ∧ RowC w' g cap L ∧ w.heap.size ≤ g

set_option maxRecDepth 8000 in
set_option maxHeartbeats 1000000 in
theorem cloneC_run {a : Addr} {cap : Nat} {L : List CallR} (w : World) (hL : L.length ≤ 1000) (hc : ∀ j u, (L.flatMap cells5)[j]? = some u → w.cell? (a.add j) = some u) :
    Calls Try.prog 99 #[.slice (some a) L.length cap] w fun e w' => ∃ g c, e = .returned (.slice (some ⟨g, 0, none⟩) L.length c) ∧ RowC w' g c L ∧ w.heap.size ≤ g ∧ L.length ≤ c ∧ c ≤ maxLen ∧ Upd (fun _ => False) w w' := by
  have HC := Lib.hid hc
  clear hc
  have q22 : (binOp .eql 65 (.slice (some a) L.length cap) (.slice none 0 0)).run Try.prog w = .ok (.bool false) w := Lib.run_eql_slice_nil w _ _ _ _ _ _ _ Try.underlying65
  go_enter Try.func99, Try.ntmps99
  go_upto_region 3 with fail
  clear q22
  iterate 7 go_step
  obtain ⟨i0, hi0, hz0, hz1, hz2⟩ := info_parts Try.info51p
  have hown0 : (w.alloc (.cells #[] 51)).ownsRow w.heap.size 51 5 (.slice (some ⟨w.heap.size, 0, none⟩) 0 0) 0 [] :=
    ⟨by simp, .inr ⟨w.heap.size, 0, #[], rfl, Nat.le_refl _, alloc_at rfl, Nat.le_refl _, Nat.zero_le _, rfl, rfl⟩⟩
  refine wpList_append_own _ rfl (.tmp 5) (.tmp 6) 65 rfl w.heap.size 51 i0 (.agg #[.int .i64 0, .int .i64 0, .int .i64 0, .int .u8 0, .slice none 0 0]) 5 56 Try.underlying65 hi0 hz0 hz1 hz2 rfl (by omega) _ 0 [] rfl hown0 a L.length cap (L.flatMap cells5) rfl (flat5_length L) (fun j u hj =>
    cell_kept ((Upd.refl _ w).alloc _) (HC.out j u hj)) (flat5_one L) (by unfold maxLen; omega) (by omega) (by simp) ?_
  intro v' w1 hown hgrow hnil
  have hv : ∃ g c, v' = .slice (some ⟨g, 0, none⟩) L.length c ∧ w.heap.size ≤ g ∧ L.length ≤ c ∧ c ≤ maxLen := by
    rcases hown.2 with ⟨e, _⟩ | ⟨g, c, cur, e, hb, _, h1, h2, _⟩
    · have he := (hnil.1 e).1
      cases he
    · exact ⟨g, c, by simpa using e, hb, by simpa using h1, h2⟩
  obtain ⟨g, c, rfl, hb, hc1, hc2⟩ := hv
  have HO := Lib.hid hown
  have HG := Lib.hid hgrow
  clear hown hgrow hnil hi0 hz0 hz1 hz2 hown0
  go_wp2
  go_ret
  refine ⟨g, c, rfl, ?_, hb, hc1, hc2, ?_⟩
  · have ho := HO.out
    simp only [Nat.zero_add, List.nil_append] at ho
    unfold RowC
    obtain ⟨h1, h2⟩ := ho
    refine ⟨h1, ?_⟩
    rcases h2 with ⟨e, _⟩ | ⟨g', c', cur, e, _, r⟩
    · cases e
    · exact .inr ⟨g', c', cur, e, Nat.zero_le _, r⟩
  · have h2 : Upd (fun j => w.heap.size ≤ j) w w1 := (((Upd.refl _ w).alloc _).step (Upd.of_grown (F := fun j => w.heap.size ≤ j) HG.out (fun k hk => Nat.le_of_eq (Option.some.inj hk))) (fun _ _ e => e))
    exact h2.mono (fun j hj e => by omega)

set_option maxHeartbeats 400000 in
theorem cloneC_nil (w : World) : Calls Try.prog 99 #[.slice none 0 0] w fun e w' => e = .returned (.slice none 0 0) ∧ w = w' := by
  have q22 : (binOp .eql 65 (.slice none 0 0) (.slice none 0 0)).run Try.prog w = .ok (.bool true) w := Lib.run_eql_slice_nil w _ _ _ _ _ _ _ Try.underlying65
  go_enter Try.func99, Try.ntmps99
  go_wp2
  go_ret
  exact ⟨rfl, rfl⟩

set_option maxHeartbeats 400000 in
theorem indexF_nil (w : World) : Calls Try.prog 118 #[.slice none 0 0, .func (.func 100) #[] #[]] w fun e w' => e = .returned (.int .i64 (-1)) ∧ w = w' := by
  go_enter Try.func118, Try.ntmps118
  go_wp2
  go_loopg [8] 0 (fun g i wr => g = 0 ∧ i = .int .i64 0 ∧ w = wr)
  case atStart => exact ⟨rfl, rfl, rfl⟩
  case round =>
    obtain ⟨rfl, rfl, rfl⟩ := hrel
    go_wp2
    go_ret
    exact ⟨rfl, rfl⟩

set_option maxHeartbeats 400000 in
theorem delete_nil (w : World) : Calls Try.prog 98 #[.slice none 0 0, .func (.func 100) #[] #[]] w fun e w' => e = .returned (.slice none 0 0) ∧ w = w' := by
  go_enter Try.func98, Try.ntmps98
  go_wp2_with (go_at_call 118; refine (indexF_nil _).mono ?_; rintro e w' ⟨rfl, rfl⟩)
  go_ret
  exact ⟨rfl, rfl⟩

set_option maxHeartbeats 400000 in
theorem calm_run {sa : Option Addr} {sc : Nat} {L : List CallR} (w : World) (h : CallsIn w sa sc L) :
    Calls Try.prog 54 #[.slice sa L.length sc] w fun e w' => ∃ (v : Value) (L' : List CallR), e = .returned v ∧ CalmAt w w' v L' ∧ L'.length ≤ 60 ∧ (∀ x ∈ L', kindOf x.k ≤ 6 ∧ x ∈ L) ∧ Upd (fun _ => False) w w' := by
  rcases h with ⟨rfl, rfl, rfl⟩ | ⟨a, rfl, hl, hm, hc⟩
  · go_enter Try.func54, Try.ntmps54
    go_wp2_with (first | (go_at_call 99; refine (cloneC_nil _).mono ?_; rintro e w' ⟨rfl, rfl⟩) | (go_at_call 98; refine (delete_nil _).mono ?_; rintro e w' ⟨rfl, rfl⟩))
    go_ret
    exact ⟨_, [], rfl, .inl ⟨rfl, rfl⟩, by simp, fun x hx => by simp at hx, Upd.refl _ _⟩
  · have hlt : (L.take 60).length = min L.length 60 := by rw [List.length_take, Nat.min_comm]
    have hcl := cloneC_run (a := a) (cap := sc) (L := L.take 60) w (by omega) (fun j u hj => hc j u (flat5_take L 60 j u hj))
    rw [hlt] at hcl
    have HCL := Lib.hid hcl
    have hm2 := hm
    unfold maxLen at hm2
    have HLT := Lib.hid hlt
    clear hcl hc hlt
    go_enter Try.func54, Try.ntmps54
    go_wp2_with fail
    have e60 : (min (L.length : Int) 60).toNat = min L.length 60 := by omega
    rw [e60]
    refine HCL.out.mono ?_
    rintro e w1 ⟨g, c, rfl, hr, hg, hc1, hc2, hu1⟩
    have hde := delete_run w1 hr (by rw [HLT.out]; omega) ⟨by rw [HLT.out]; exact hc1, hc2⟩
    rw [HLT.out] at hde
    have HDE := Lib.hid hde; have HU1 := Lib.hid hu1
    clear hde hr hu1 HCL
    simp only []
    go_wp2_with (go_at_call 98; fail)
    refine HDE.out.mono ?_
    rintro e w2 ⟨L', rfl, hr2, hl2, hall, hu2⟩
    have HR2 := Lib.hid hr2; have HA2 := Lib.hid hall; have HU2 : RowKit.Hid (Upd (fun _ => False) w w2) := Lib.hid (HU1.out.step hu2 (fun k hk e => by omega))
    clear hr2 hall hu2 HDE
    simp only []
    go_wp2
    go_ret
    exact ⟨_, L', rfl, .inr ⟨g, c, rfl, HR2.out, hg⟩, by omega, fun x hx => ⟨(HA2.out x hx).1, List.mem_of_mem_take (HA2.out x hx).2⟩, HU2.out⟩

end Go.Proofs.Ytbimkhdiplnbfaa
end

