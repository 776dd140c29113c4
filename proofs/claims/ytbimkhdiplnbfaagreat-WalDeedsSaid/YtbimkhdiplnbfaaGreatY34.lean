/- Walks: deeds (kind, bytes, keep); Broken and Turn of a log. -/
import Derived.Test.YtbimkhdiplnbfaaGreatY18
import Derived.Test.YtbimkhdiplnbfaaGreatY21
import Derived.Test.YtbimkhdiplnbfaaGreatY26
import Derived.Test.YtbimkhdiplnbfaaGreatY27
import Derived.Test.YtbimkhdiplnbfaaGreatY29
import Derived.Test.YtbimkhdiplnbfaaGreatY30
import Derived.Test.YtbimkhdiplnbfaaGreatY32
import Derived.Test.YtbimkhdiplnbfaaGreatY33
import Derived.LaidEqlPtr
set_option linter.unusedVariables false
set_option linter.unusedSimpArgs false
namespace Go.Proofs.YtbimkhdiplnbfaaGreat
set_option maxRecDepth 1000000
set_option maxHeartbeats 16000000
section
open Go.RowKit Go.Shelf
theorem bytes_head {w : World} {sa : Option Addr} {n c m : Nat} {bs : List Int} (hb : BytesIn w (.slice sa n c) bs) (hm : m ≤ n) :
  ∃ sb cb, (∀ W, (Instr.slice 39 (.slice sa n c) none (some (.int .i64 (m : Int))) none).run Tryz.prog W = .ok (.slice sb m cb) W) ∧ BytesIn w (.slice sb m cb) (bs.take m) := by
 have hz : ∀ W : World, (sizeOf (Tryz.prog.elem 39)).run Tryz.prog W = .ok 1 W := fun W => by kernel_rfl
 have hnc : n ≤ c := by
  rcases hb with ⟨e, _⟩ | ⟨a, c', e, h2, _⟩
  ·injection e with _ e1 e2; omega
  ·injection e with _ e1 e2; omega
 refine ⟨if c = 0 then sa else sa.map (·.add (0 * 1)), c - 0, fun W => ?_, ?_⟩
 ·rw [run_slice_h W 39 sa n c elem28 .i64 m (by omega) (by omega), hz]
  rfl
 ·rcases hb with ⟨e, rfl⟩ | ⟨a, c', e, h2, h3, h4⟩
  ·injection e with e0 e1 e2
   subst e0 e1 e2
   obtain rfl : m = 0 := by omega
   exact .inl ⟨rfl, rfl⟩
  ·injection e with e0 e1 e2
   subst e0 e2
   refine .inr ⟨a, c - 0, ?_, by simp; omega, by omega, fun i u hi => ?_⟩
   ·congr 1
    ·split
     ·rfl
     ·simp [Addr.add]
    ·simp; omega
   ·have hi2 : (bcells bs)[i]? = some u := by
     have e3 : bcells (bs.take m) = (bcells bs).take m := by simp [bcells]
     rw [e3] at hi
     have hlt := (List.getElem?_eq_some_iff.1 hi).1
     simp only [List.length_take] at hlt
     rwa [List.getElem?_take_of_lt (by omega)] at hi
    exact h4 i u hi2
structure DeedR where
 k : Int
 n : Int
 ba : Option Addr
 bn : Nat
 bc : Nat
 ka : Option Addr
 kn : Nat
 kc : Nat
def cellsD (x : DeedR) : List Value := [.int .i64 x.k, .int .i64 x.n, .slice x.ba x.bn x.bc, .slice x.ka x.kn x.kc]
def deedV (x : DeedR) : Value := .agg #[.int .i64 x.k, .int .i64 x.n, .slice x.ba x.bn x.bc, .slice x.ka x.kn x.kc]
def DeedR.kd (x : DeedR) : Int := (IntKind.u64.wrap x.k).tmod 12
theorem DeedR.kd_range (x : DeedR) : 0 ≤ x.kd ∧ x.kd < 12 := by
 unfold DeedR.kd
 have h : 0 ≤ IntKind.u64.wrap x.k := by rw [IntKind.wrap_u64]; omega
 rw [Int.tmod_eq_emod_of_nonneg h]
 omega
structure DeedIn (w : World) (x : DeedR) (bs : List Int) (B : Nat → Bool) : Prop where
 bytes : BytesIn w (.slice x.ba x.bn x.bc) bs
 len : bs.length = x.bn
 byte : Bytes bs
 keep : KeepIn w x.ka x.kn x.kc B
 spot : ∀ a, x.ka = some a → 0 < x.kc → a.spot = none ∧ a.block < w.heap.size
 bmax : x.bn ≤ 9223372036854775807
 kmax : x.kn ≤ 9223372036854775807
 n64 : -9223372036854775808 ≤ x.n ∧ x.n ≤ 9223372036854775807
theorem DeedIn.kept {w w' : World} {x : DeedR} {bs : List Int} {B : Nat → Bool} (h : DeedIn w x bs B) (hu : Upd (fun _ => False) w w') : DeedIn w' x bs B :=
 ⟨h.bytes.kept hu, h.len, h.byte, h.keep.kept hu, fun a e hc => ⟨(h.spot a e hc).1, Nat.lt_of_lt_of_le (h.spot a e hc).2 hu.size⟩, h.bmax, h.kmax, h.n64⟩
theorem kindD_run (x : DeedR) (w : World) :
  Calls Tryz.prog 57 #[deedV x] w fun e w' => e = .returned (.int .u64 x.kd) ∧ Upd (fun _ => False) w w' := by
 unfold deedV
 go_enter Tryz.func57, Tryz.ntmps57
 go_wp2
 go_ret
 exact ⟨rfl, (Upd.refl _ w).alloc _⟩
theorem clone119_any {v : Value} {bs : List Int} (w : World) (hl : bs.length ≤ 1099511627776) (hv : BytesIn w v bs) :
  Calls Tryz.prog 125 #[v] w fun e w' => ∃ u, e = .returned u ∧ OwnB w' w.heap.size u bs ∧ Upd (fun _ => False) w w' := by
 rcases hv with ⟨rfl, rfl⟩ | ⟨a, c, rfl, h1, h2, h3⟩
 ·have q22 : (binOp .eql 39 (.slice none 0 0) (.slice none 0 0)).run Tryz.prog w = .ok (.bool true) w := by kernel_rfl
  go_enter Tryz.func125, Tryz.ntmps125
  go_wp2
  go_ret
  exact ⟨.slice none 0 0, rfl, World.ownsRow_nil _ _ _ _, Upd.refl _ _⟩
 ·have HC := Lib.hid h3
  clear h3
  have q22 : (binOp .eql 39 (.slice (some a) bs.length c) (.slice none 0 0)).run Tryz.prog w = .ok (.bool false) w := Lib.run_eql_slice_nil w _ _ _ _ _ _ _ Tryz.underlying39
  go_enter Tryz.func125, Tryz.ntmps125
  go_upto_region 3 with fail
  clear q22
  iterate 7 go_step
  obtain ⟨i0, hi0, hz0, hz1, hz2⟩ := info_parts Tryz.info5p
  have hown0 : (w.alloc (.cells #[] 5)).ownsRow w.heap.size 5 1 (.slice (some ⟨w.heap.size, 0, none⟩) 0 0) 0 [] :=
   ⟨by simp, .inr ⟨w.heap.size, 0, #[], rfl, Nat.le_refl _, alloc_at rfl, Nat.le_refl _, Nat.zero_le _, rfl, rfl⟩⟩
  refine wpList_append_own _ rfl (.tmp 5) (.tmp 6) 39 rfl w.heap.size 5 i0 (.int .u8 0) 1 1 Tryz.underlying39 hi0 hz0 hz1 hz2 rfl (by omega) _ 0 [] rfl hown0 a bs.length c (bcells bs) rfl (by simp [bcells]) (fun j u hj => cell_keptF (G := fun _ => False) ((Upd.refl _ w).alloc _) (fun e => e) (HC.out j u hj)) (bcells_one bs) (by unfold maxLen; omega) (by omega) (by simp) ?_
  intro v' w1 hown hgrow _
  have HO := Lib.hid hown
  have hu : Upd (fun _ => False) w w1 := ((Upd.refl _ w).alloc _).step (Upd.of_grown (F := fun k => k = w.heap.size) hgrow (fun k hk => (Option.some.inj hk).symm)) (fun k hk e => by omega)
  have HU := Lib.hid hu
  clear hown hgrow hi0 hz0 hz1 hz2 hown0 hu
  go_wp2
  go_ret
  refine ⟨_, rfl, ?_, HU.out⟩
  have := HO.out
  simpa using this
theorem bytesD_any {x : DeedR} {bs : List Int} {B : Nat → Bool} (w : World) (h : DeedIn w x bs B) :
  Calls Tryz.prog 56 #[deedV x] w fun e w' => ∃ u, e = .returned u ∧ OwnB w' w.heap.size u (bs.take 500) ∧ Upd (fun _ => False) w w' := by
 obtain ⟨m, hm⟩ : ∃ m : Nat, m = min x.bn 500 := ⟨_, rfl⟩
 have hlen := h.len
 have htk : bs.take 500 = bs.take m := by
  rw [hm]
  by_cases hx : x.bn ≤ 500
  ·rw [List.take_of_length_le (by omega), List.take_of_length_le (by omega)]
  ·rw [show min x.bn 500 = 500 by omega]
 obtain ⟨sb, cb, hs, hb⟩ := bytes_head (m := m) h.bytes (by omega)
 have hmax := h.bmax
 have hmm : (min (x.bn : Int) 500) = (m : Int) := by omega
 have hu1 : Upd (fun _ => False) w (w.alloc (.cells #[.int .i64 x.k, .int .i64 x.n, .slice x.ba x.bn x.bc, .slice x.ka x.kn x.kc] 42)) := (Upd.refl _ w).alloc _
 have hcl := clone119_any (w.alloc (.cells #[.int .i64 x.k, .int .i64 x.n, .slice x.ba x.bn x.bc, .slice x.ka x.kn x.kc] 42)) (by simp; omega) (hb.kept hu1)
 rw [htk]
 have HCL := Lib.hid hcl; have HU1 := Lib.hid hu1; have HM := Lib.hid hmm
 have HS := Lib.hid hs
 unfold deedV
 clear h hb hu1 hcl htk hlen hm hmm hs
 go_enter Tryz.func56, Tryz.ntmps56
 go_upto_region 1 with fail
 iterate 19 go_step
 rw [HM.out]
 have hs := HS.out
 go_wp2_with (go_at_call 125; fail)
 refine HCL.out.mono ?_
 rintro e w' ⟨u, rfl, hou, hu⟩
 have HO := Lib.hid hou; have HU := Lib.hid (HU1.out.trans hu)
 clear hou hu HCL hs
 simp only []
 go_wp2
 go_ret
 exact ⟨u, rfl, HO.out.mono (by simp), HU.out⟩
theorem keepD_any {x : DeedR} {bs : List Int} {B : Nat → Bool} (w : World) (h : DeedIn w x bs B) :
  Calls Tryz.prog 60 #[deedV x] w fun e w' => (∃ ka' kc', e = .returned (.slice ka' (min x.kn 60) kc') ∧ BoolsAt w' ka' ((List.range (min x.kn 60)).map B)) ∧ Upd (fun _ => False) w w' := by
 have hk' := h.keep.kept ((Upd.refl _ w).alloc (.cells #[.int .i64 x.k, .int .i64 x.n, .slice x.ba x.bn x.bc, .slice x.ka x.kn x.kc] 42))
 have hkm := h.kmax
 unfold deedV
 clear h
 obtain ⟨xk, xn, xba, xbn, xbc, xka, xkn, xkc⟩ := x
 simp only at hk' hkm ⊢
 rcases hk' with ⟨rfl, rfl, rfl⟩ | ⟨a, rfl, hl, hm, hc⟩
 ·go_enter Tryz.func60, Tryz.ntmps60
  go_wp2_with (go_at_call 129; refine (cloneBools_nil _).mono ?_; rintro e w' ⟨rfl, rfl⟩)
  go_ret
  exact ⟨⟨none, 0, rfl, fun i x hx => by simp at hx⟩, (Upd.refl _ w).alloc _⟩
 ·have HCL := Lib.hid (cloneBools_run (len := min xkn 60) (cap := xkc) B _ (by omega) (fun i hi => hc i (by omega)))
  have HL := Lib.hid hl
  unfold maxLen at hm
  clear hc
  go_enter Tryz.func60, Tryz.ntmps60
  go_wp2_with fail
  have e80 : (min (xkn : Int) 60).toNat = min xkn 60 := by omega
  rw [e80]
  refine HCL.out.mono ?_
  rintro e w' ⟨⟨ka', kc', rfl, hb'⟩, hu⟩
  have HBB := Lib.hid hb'; have HU := Lib.hid hu
  clear hb' hu
  go_wp2
  go_ret
  exact ⟨⟨ka', kc', rfl, HBB.out⟩, ((Upd.refl _ w).alloc _).trans HU.out⟩
theorem broken_any {q p : Nat} {X : Lg} {G : Nat → Prop} (w : World) (h : Log w q p X G) :
  Calls Tryz.prog 74 #[.pointer (some ⟨q, 0, none⟩)] w fun e w' => e = .returned (.bool X.broken) ∧ Upd (fun _ => False) w w' := by
 obtain ⟨PV, vs, h1, _⟩ := h
 obtain ⟨c0, c1, c2, c3, c4, c5, c6, c7⟩ := cells8_of h1.main
 clear h1 c0 c1 c2 c3 c4 c5 c6
 go_enter Tryz.func74, Tryz.ntmps74
 go_wp2
 go_ret
 exact ⟨rfl, Upd.refl _ w⟩
theorem turn_any {q p : Nat} {X : Lg} {G : Nat → Prop} (w : World) (h : Log w q p X G) (ht : 0 ≤ X.h.turn ∧ X.h.turn < 4294967296) :
  Calls Tryz.prog 73 #[.pointer (some ⟨q, 0, none⟩)] w fun e w' => e = .returned (.int .u32 X.h.turn) ∧ Upd (fun _ => False) w w' := by
 obtain ⟨PV, vs, h1, _⟩ := h
 obtain ⟨c0, c1, c2, c3, c4, c5, c6, c7⟩ := cells8_of h1.main
 have hw : IntKind.u32.wrap X.h.turn = X.h.turn := by rw [IntKind.wrap_u32]; omega
 clear h1 c1 c2 c3 c4 c5 c6 c7
 go_enter Tryz.func73, Tryz.ntmps73
 go_wp2
 clear hw
 go_ret
 exact ⟨rfl, Upd.refl _ w⟩
end
section
open Go.RowKit Go.Shelf Go.Joins
theorem fmtR_err {D : Dk} {n : Int} (h : (fmtR D n).1 = none) : (fmtR D n).2.1 ≠ 0 := by
 unfold fmtR at h ⊢
 split at h
 ·rename_i hc
  rw [if_pos hc]
  show (2 : Int) ≠ 0
  omega
 ·rename_i hc
  rw [if_neg hc]
  unfold fmtG at h ⊢
  split at h
  ·rename_i h1
   rw [if_pos h1]
   split at h
   ·rename_i h2
    rw [if_pos h2]
    split at h
    ·cases h
    ·rename_i h3
     rw [if_neg h3]
     exact h3
   ·rename_i h2
    rw [if_neg h2]
    exact h2
  ·rename_i h1
   rw [if_neg h1]
   exact h1
theorem fmtR_some {D : Dk} {n : Int} {X : Lg} (h : (fmtR D n).1 = some X) : LgI D.arr.length X ∧ X.parts ≠ [] ∧ (fmtR D n).2.1 = 0 := by
 unfold fmtR at h ⊢
 split at h
 ·cases h
 ·rename_i hc
  rw [if_neg hc]
  unfold fmtG at h ⊢
  split at h
  ·rename_i h1
   rw [if_pos h1]
   split at h
   ·rename_i h2
    rw [if_pos h2]
    split at h
    ·rename_i h3
     rw [if_pos h3]
     injection h with h
     subst h
     refine ⟨⟨fmtX_ok (by omega), rfl, ?_, ?_⟩, by simp [fmtX], rfl⟩
     ·show (1 : Int) ≤ (n.toNat : Int)
      omega
     ·show 2 + 2 * ((n.toNat : Nat) : Int) ≤ D.arr.length
      omega
    ·cases h
   ·cases h
  ·cases h
theorem fmtR_len (D : Dk) (n : Int) : (fmtR D n).2.2.arr.length = D.arr.length := by
 have h3 : ∀ a k, (fmtD D a k).arr.length = D.arr.length := fun a k => by
  match k with
  | 0 => rfl
  | 1 => exact lays_len _ _
  | 2 => exact (lays_len _ _).trans (lays_len _ _)
  |k + 3 => exact ((lays_len _ _).trans (lays_len _ _)).trans (lays_len _ _)
 unfold fmtR
 split
 ·rfl
 ·unfold fmtG
  repeat' split
  all_goals exact h3 _ _
def X0 : Lg := ⟨⟨0, 0, 0, 0⟩, [], 0, false⟩
structure DdV (D : Dk) (X : Lg) (no : Bool) (t : Nat) : Prop where
 ok : D.Ok (1100000 * t)
 len : D.arr.length ≤ 40
 lg : no = false → LgI D.arr.length X ∧ X.parts ≠ []
 no : no = true → X = X0
structure DdM (W : World) (d o m : Nat) (wv : Value) (D : Dk) (X : Lg) (no : Bool) (G F F2 C : Nat → Prop) : Prop where
 d1 : Dsk W d D F
 d2 : Dsk W o D F2
 md : MdSt W m o X no C
 nil : no = true → wv = .pointer none
 log : no = false → ∃ q, wv = .pointer (some ⟨q, 0, none⟩) ∧ Log W q d X G
 aF : ∀ k, F k → ¬ F2 k ∧ ¬ C k ∧ k ≠ m
 aG : no = false → ∀ k, G k → ¬ F k ∧ ¬ F2 k ∧ ¬ C k ∧ k ≠ m
 aC : ∀ k, C k → ¬ F2 k
 aM : ¬ F2 m
def DdSt (w0 W : World) (d o m : Nat) (wv : Value) (t : Nat) : Prop :=
 ∃ D X no G F F2 C, DdM W d o m wv D X no G F F2 C ∧ DdV D X no t ∧ (∀ k, F k ∨ (no = false ∧ G k) ∨ F2 k ∨ C k ∨ k = m → w0.heap.size ≤ k) ∧ Upd (fun _ => False) w0 W
theorem MdSt.lt {W : World} {m p : Nat} {X : Lg} {no : Bool} {C : Nat → Prop} (h : MdSt W m p X no C) : m < W.heap.size ∧ ∀ k, C k → k < W.heap.size := by
 obtain ⟨⟨pa, pc, aa, an, ac, h1, h2, _⟩, _⟩ := h
 exact ⟨lt_of_heap h1, h2.1⟩
theorem DdM.lt {W : World} {d o m : Nat} {wv : Value} {D : Dk} {X : Lg} {no : Bool} {G F F2 C : Nat → Prop} (h : DdM W d o m wv D X no G F F2 C) : ∀ k, F k ∨ (no = false ∧ G k) ∨ F2 k ∨ C k ∨ k = m → k < W.heap.size := by
 intro k hk
 rcases hk with hk | ⟨hn, hk⟩ | hk | hk | rfl
 ·exact h.d1.lt k hk
 ·obtain ⟨q, _, hl⟩ := h.log hn
  exact hl.lt k hk
 ·exact h.d2.lt k hk
 ·exact h.md.lt.2 k hk
 ·exact h.md.lt.1
theorem DdM.kept {W W' : World} {d o m : Nat} {wv : Value} {D : Dk} {X : Lg} {no : Bool} {G F F2 C H : Nat → Prop} (h : DdM W d o m wv D X no G F F2 C) (hu : Upd H W W') (hH : ∀ k, F k ∨ (no = false ∧ G k) ∨ F2 k ∨ C k ∨ k = m → ¬ H k) : DdM W' d o m wv D X no G F F2 C :=
 ⟨h.d1.kept hu (fun k hk => hH k (.inl hk)), h.d2.kept hu (fun k hk => hH k (.inr (.inr (.inl hk)))), h.md.kept hu (fun k hk => hH k (.inr (.inr (.inr (.inl hk))))) (hH m (.inr (.inr (.inr (.inr rfl))))), h.nil,
  fun hn => by
   obtain ⟨q, e, hl⟩ := h.log hn
   exact ⟨q, e, hl.kept hu (fun k hk => hH k (.inr (.inl ⟨hn, hk⟩)))⟩, h.aF, h.aG, h.aC, h.aM⟩
theorem DdSt.kept {w0 W W' : World} {d o m t : Nat} {wv : Value} (h : DdSt w0 W d o m wv t) (hu : Upd (fun _ => False) W W') : DdSt w0 W' d o m wv t := by
 obtain ⟨D, X, no, G, F, F2, C, h1, h2, h3, h4⟩ := h
 exact ⟨D, X, no, G, F, F2, C, h1.kept hu (fun _ _ e => e), h2, h3, h4.trans hu⟩
theorem DdM.finish {W w3 w4 w5 : World} {d o m : Nat} {wv wv' : Value} {D D' : Dk} {X X' : Lg} {no no' : Bool} {G F F2 C G' F' F2' C' : Nat → Prop} (hM : DdM W d o m wv D X no G F F2 C)
  (p1 : Dsk w3 d D' F') (g1 : ∀ k, F' k → F k ∨ W.heap.size ≤ k) (hn : no' = true → wv' = .pointer none) (hl : no' = false → ∃ q, wv' = .pointer (some ⟨q, 0, none⟩) ∧ Log w3 q d X' G') (gG : no' = false → ∀ k, G' k → ((no = false ∧ G k) ∨ W.heap.size ≤ k) ∧ ¬ F' k)
  (u13 : Upd (fun k => F k ∨ (no = false ∧ G k)) W w3) (u34 : Upd (fun _ => False) w3 w4) (p2 : Dsk w5 o D' F2') (g2 : ∀ k, F2' k → F2 k ∨ w4.heap.size ≤ k) (md : MdSt w5 m o X' no' C') (gC : ∀ k, C' k → C k ∨ w3.heap.size ≤ k) (aC : ∀ k, C' k → ¬ F2' k) (u45 : Upd (fun k => F2 k ∨ k = m) w4 w5) :
  DdM w5 d o m wv' D' X' no' G' F' F2' C' ∧ Upd (fun k => k < W.heap.size) W w5 ∧ ∀ k, F' k ∨ (no' = false ∧ G' k) ∨ F2' k ∨ C' k ∨ k = m → (F k ∨ (no = false ∧ G k) ∨ F2 k ∨ C k ∨ k = m) ∨ W.heap.size ≤ k := by
 have hlt := hM.lt
 have s13 := u13.size; have s34 := u34.size; have s45 := u45.size
 have hF'3 := p1.lt
 have hmlt := hM.md.lt.1
 have x1 : ∀ k, F' k → ¬ (F2 k ∨ k = m) := fun k hk e => by
  rcases g1 k hk with q | q
  ·have := hM.aF k q
   exact e.elim this.1 this.2.2
  ·rcases e with e | e
   ·have := hlt k (.inr (.inr (.inl e))); omega
   ·omega
 have x2 : no' = false → ∀ k, G' k → ¬ (F2 k ∨ k = m) := fun hn' k hk e => by
  rcases (gG hn' k hk).1 with ⟨hn0, q⟩ | q
  ·have := hM.aG hn0 k q
   exact e.elim this.2.1 this.2.2.2
  ·rcases e with e | e
   ·have := hlt k (.inr (.inr (.inl e))); omega
   ·omega
 have y2 : ∀ k, k < w3.heap.size → ¬ (F2 k) → ¬ F2' k := fun k h1 h2 e => by
  rcases g2 k e with q | q
  ·exact h2 q
  ·omega
 have y3 : ∀ k, k < w3.heap.size → ¬ C k → ¬ C' k := fun k h1 h2 e => by
  rcases gC k e with q | q
  ·exact h2 q
  ·omega
 refine ⟨⟨(p1.kept u34 (fun _ _ e => e)).kept u45 x1, p2, md, hn, fun hn' => ?_, fun k hk => ?_, fun hn' k hk => ?_, aC, fun e => ?_⟩, ?_, fun k hk => ?_⟩
 ·obtain ⟨q, e, hlg⟩ := hl hn'
  exact ⟨q, e, (hlg.kept u34 (fun _ _ e => e)).kept u45 (x2 hn')⟩
 ·have h3 := hF'3 k hk
  refine ⟨y2 k h3 (fun e => x1 k hk (.inl e)), y3 k h3 (fun e => ?_), fun e => x1 k hk (.inr e)⟩
  rcases g1 k hk with q | q
  ·exact (hM.aF k q).2.1 e
  ·have := hlt k (.inr (.inr (.inr (.inl e)))); omega
 ·obtain ⟨q, e0, hlg⟩ := hl hn'
  have h3 := hlg.lt k hk
  refine ⟨(gG hn' k hk).2, y2 k h3 (fun e => x2 hn' k hk (.inl e)), y3 k h3 (fun e => ?_), fun e => x2 hn' k hk (.inr e)⟩
  rcases (gG hn' k hk).1 with ⟨hn0, q⟩ | q
  ·exact (hM.aG hn0 k q).2.2.1 e
  ·have := hlt k (.inr (.inr (.inr (.inl e)))); omega
 ·rcases g2 m e with q | q
  ·exact hM.aM q
  ·omega
 ·refine ((u13.mono (fun k h e => ?_)).trans (u34.mono (fun _ _ e => e.elim))).step u45 (fun k h e => ?_)
  ·exact h
  ·exact h
 ·rcases hk with hk | ⟨hn', hk⟩ | hk | hk | hk
  ·exact (g1 k hk).imp_left .inl
  ·exact (gG hn' k hk).1.imp_left (fun e => .inr (.inl e))
  ·exact (g2 k hk).elim (fun e => .inl (.inr (.inr (.inl e)))) (fun e => .inr (by omega))
  ·exact (gC k hk).elim (fun e => .inl (.inr (.inr (.inr (.inl e))))) (fun e => .inr (by omega))
  ·exact .inl (.inr (.inr (.inr (.inr hk))))
theorem OwnB.bIn {w : World} {B : Nat} {a : Option Addr} {c : Nat} {b : List Int} (h : OwnB w B (.slice a b.length c) b) : BIn (fun k => (Value.slice a b.length c).ownBlock = some k) w a c b := by
 refine ⟨fun k hk => (h.lt k hk).2, fun W hW => ?_, ?_⟩
 ·rcases h.bytesIn with ⟨e, e2⟩ | hb
  ·exact .inl ⟨e, e2⟩
  ·obtain ⟨ad, c', e, h1, h2, h3⟩ := hb
   rcases h.2 with ⟨e9, e8⟩ | ⟨g, cap, cur, e9, _⟩
   ·exact .inl ⟨e9, List.length_eq_zero_iff.1 e8⟩
   ·have hbi := h.bytesIn
    rw [e9] at hbi hW ⊢
    exact bytesIn_eqQ hbi (hW g rfl)
 ·rcases h.2 with ⟨e9, e8⟩ | ⟨g, cap, cur, e9, _, _, h4, _⟩
  ·omega
  ·injection e9 with _ _ e3
   omega
structure DdH (w0 W : World) (d o m : Nat) (wv : Value) (D : Dk) (X : Lg) (no : Bool) (G F F2 C : Nat → Prop) (t Bz : Nat) : Prop where
 mem : DdM W d o m wv D X no G F F2 C
 v : DdV D X no t
 s : ∀ k, F k ∨ (no = false ∧ G k) ∨ F2 k ∨ C k ∨ k = m → w0.heap.size ≤ k ∧ k < Bz
 u : Upd (fun _ => False) w0 W
 b : Bz ≤ W.heap.size
def DdA (w0 W : World) (d o m : Nat) (wv : Value) (t lo hi : Nat) : Prop :=
 ∃ D X no G F F2 C, DdM W d o m wv D X no G F F2 C ∧ DdV D X no t ∧ (∀ k, F k ∨ (no = false ∧ G k) ∨ F2 k ∨ C k ∨ k = m → w0.heap.size ≤ k ∧ ¬ (lo ≤ k ∧ k < hi)) ∧ Upd (fun _ => False) w0 W
theorem DdA.kept {w0 W W' : World} {d o m t lo hi : Nat} {wv : Value} (h : DdA w0 W d o m wv t lo hi) (hlo : w0.heap.size ≤ lo) (hu : Upd (fun k => lo ≤ k ∧ k < hi) W W') : DdSt w0 W' d o m wv t := by
 obtain ⟨D, X, no, G, F, F2, C, h1, h2, h3, h4⟩ := h
 exact ⟨D, X, no, G, F, F2, C, h1.kept hu (fun k hk e => (h3 k hk).2 e), h2, fun k hk => (h3 k hk).1, h4.step hu (fun k hk e => by omega)⟩
theorem DdV.more {D : Dk} {X : Lg} {no : Bool} {t : Nat} (h : DdV D X no t) : DdV D X no (t + 1) := ⟨h.ok.mono (by omega), h.len, h.lg, h.no⟩
theorem DdH.still {w0 W w5 : World} {d o m t Bz : Nat} {wv : Value} {D : Dk} {X : Lg} {no : Bool} {G F F2 C : Nat → Prop} (h : DdH w0 W d o m wv D X no G F F2 C t Bz) (hu : Upd (fun _ => False) W w5) : DdA w0 w5 d o m wv (t + 1) Bz W.heap.size :=
 ⟨D, X, no, G, F, F2, C, h.mem.kept hu (fun _ _ e => e), h.v.more, fun k hk => ⟨(h.s k hk).1, fun e => by have := (h.s k hk).2; omega⟩, h.u.trans hu⟩
theorem DdH.shut {w0 W w3 w4 w5 : World} {d o m t Bz : Nat} {wv wv' : Value} {D D' : Dk} {X X' : Lg} {no no' : Bool} {G F F2 C G' F' F2' C' : Nat → Prop} (h : DdH w0 W d o m wv D X no G F F2 C t Bz) (hv : DdV D' X' no' (t + 1))
  (p1 : Dsk w3 d D' F') (g1 : ∀ k, F' k → F k ∨ W.heap.size ≤ k) (hn : no' = true → wv' = .pointer none) (hl : no' = false → ∃ q, wv' = .pointer (some ⟨q, 0, none⟩) ∧ Log w3 q d X' G') (gG : no' = false → ∀ k, G' k → ((no = false ∧ G k) ∨ W.heap.size ≤ k) ∧ ¬ F' k)
  (u13 : Upd (fun k => F k ∨ (no = false ∧ G k)) W w3) (u34 : Upd (fun _ => False) w3 w4) (p2 : Dsk w5 o D' F2') (g2 : ∀ k, F2' k → F2 k ∨ w4.heap.size ≤ k) (md : MdSt w5 m o X' no' C') (gC : ∀ k, C' k → C k ∨ w3.heap.size ≤ k) (aC : ∀ k, C' k → ¬ F2' k) (u45 : Upd (fun k => F2 k ∨ k = m) w4 w5) : DdA w0 w5 d o m wv' (t + 1) Bz W.heap.size := by
 obtain ⟨a1, a2, a3⟩ := h.mem.finish p1 g1 hn hl gG u13 u34 p2 g2 md gC aC u45
 have hz := h.u.size
 refine ⟨D', X', no', G', F', F2', C', a1, hv, fun k hk => ?_, ((h.u.step u13 fun k hk e => ?_).trans u34).step u45 fun k hk e => ?_⟩
 ·have hb := h.b
  rcases a3 k hk with q | q
  ·exact ⟨(h.s k q).1, fun e => by have := (h.s k q).2; omega⟩
  ·exact ⟨by omega, fun e => by omega⟩
 ·have := (h.s k (e.elim .inl (fun e => .inr (.inl e)))).1; omega
 ·have := (h.s k (e.elim (fun e => .inr (.inr (.inl e))) (fun e => .inr (.inr (.inr (.inr e)))))).1; omega
def Ch3 (Bz f1 : Nat) (a1 : Array Value) (f2 : Nat) (a2 : Array Value) (f3 : Nat) (a3 : Value → Array Value) (w : World) (Q : World → Prop) : Prop :=
 Calls Tryz.prog f1 a1 w fun e w3 => ∃ E, e = .returned (.int .i64 E) ∧ Upd (fun k => k < Bz) w w3 ∧ Calls Tryz.prog f2 a2 w3 fun e w4 => ∃ u, e = .returned u ∧ Upd (fun k => k < Bz) w3 w4 ∧ Calls Tryz.prog f3 (a3 u) w4 fun e w5 => e = .returned (.int .i64 E) ∧ Upd (fun k => k < Bz) w4 w5 ∧ Q w5
theorem wmapp_none {m p c n : Nat} {a : Option Addr} {C : Nat → Prop} (w : World) (hM : MdSt w m p X0 true C) (hn : n ≤ 100000) :
  Calls Tryz.prog 64 #[.pointer (some ⟨m, 0, none⟩), .slice a n c] w fun e w' => e = .returned (.int .i64 1) ∧ Upd (fun _ => False) w w' := by
 obtain ⟨⟨pa, pc, aa, an, ac, hm, hp, hpc, hpm, hpn⟩, hcm⟩ := hM
 have huse := wused_any (c := pc) w (hp.rows (fun x hx => by cases hx)) (by simp [X0])
 have hus : usedI X0.parts = 0 := rfl
 rw [hus] at huse
 have href := wrefuses_any (m := m) (p := p) (pc := pc) (c := c) (pa := pa) (a := a) (X := X0) (av := .slice aa an ac) (no := true) (n := n) 0 w hm (by omega) (by omega) ⟨by decide, by decide⟩ (by simp [X0])
 have hR : refN true X0 n 0 = 1 := rfl
 rw [hR] at href
 have HUSE := Lib.hid huse; have HREF := Lib.hid href
 obtain ⟨c0, c1, c2, c3, c4, c5, c6, c7, c8⟩ := cells9_of hm
 clear hm hp hpc hpm hpn hcm huse href hus hR
 go_enter Tryz.func64, Tryz.ntmps64
 go_wp2_with (go_at_call 72; fail)
 refine HUSE.out.mono ?_
 rintro e w1 ⟨rfl, rfl⟩
 clear HUSE
 simp only []
 go_wp2_with (go_at_call 126; fail)
 refine HREF.out.mono ?_
 rintro e w2 ⟨rfl, hu2⟩
 have HU2 := Lib.hid hu2
 clear hu2 HREF c0 c1 c2 c3 c4 c5 c6 c7 c8
 simp only []
 go_wp2
 go_ret
 exact ⟨rfl, HU2.out⟩
theorem wmcp_none {m p c n : Nat} {a : Option Addr} {C : Nat → Prop} (w : World) (hM : MdSt w m p X0 true C) (hn : n ≤ 100000) :
  Calls Tryz.prog 58 #[.pointer (some ⟨m, 0, none⟩), .slice a n c] w fun e w' => e = .returned (.int .i64 1) ∧ Upd (fun _ => False) w w' := by
 obtain ⟨⟨pa, pc, aa, an, ac, hm, hp, hpc, hpm, hpn⟩, hcm⟩ := hM
 have href := wrefuses_any (m := m) (p := p) (pc := pc) (c := c) (pa := pa) (a := a) (X := X0) (av := .slice aa an ac) (no := true) (n := n) 0 w hm (by omega) (by omega) ⟨by decide, by decide⟩ (by simp [X0])
 have hR : refN true X0 n 0 = 1 := rfl
 rw [hR] at href
 have HREF := Lib.hid href
 clear hm hp hpc hpm hpn hcm href hR
 go_enter Tryz.func58, Tryz.ntmps58
 go_wp2_with (go_at_call 126; fail)
 refine HREF.out.mono ?_
 rintro e w2 ⟨rfl, hu2⟩
 have HU2 := Lib.hid hu2
 clear hu2 HREF
 simp only []
 go_wp2
 go_ret
 exact ⟨rfl, HU2.out⟩
theorem bytes_second {w0 w3 : World} {x : DeedR} {bs : List Int} {B : Nat → Bool} (hd : DeedIn w0 x bs B) (hu : Upd (fun _ => False) w0 w3) :
  Calls Tryz.prog 56 #[deedV x] w3 fun e w4 => ∃ a c, e = .returned (.slice a (bs.take 500).length c) ∧ OwnB w4 w3.heap.size (.slice a (bs.take 500).length c) (bs.take 500) ∧ Upd (fun _ => False) w3 w4 :=
 (bytesD_any w3 (hd.kept hu)).mono fun e w4 ⟨u, e1, h1, h2⟩ => by
  obtain ⟨a, c, rfl⟩ := h1.slice'
  exact ⟨a, c, e1, h1, h2⟩
theorem refuses_secs {X : Lg} {n : Nat} {u : Int} (hok : X.Ok) (h : X.refuses n u = 0) (hu : 0 ≤ u) : secsN n ≤ 1000 := by
 have ha := hok.area
 unfold Lg.refuses at h
 split at h
 ·cases h
 split at h
 ·cases h
 split at h
 ·cases h
 omega
theorem DdH.app {w0 W : World} {d o m t Bz : Nat} {wv own : Value} {D : Dk} {X : Lg} {no : Bool} {G F F2 C : Nat → Prop} {x : DeedR} {bs : List Int} {B : Nat → Bool} (h : DdH w0 W d o m wv D X no G F F2 C t Bz) (ht : t ≤ 900) (ho : OwnB W Bz own (bs.take 500)) (hd : DeedIn w0 x bs B) :
  Ch3 Bz 43 #[wv, own] 56 #[deedV x] 64 (fun u => #[.pointer (some ⟨m, 0, none⟩), u]) W (fun w5 => DdA w0 w5 d o m wv (t + 1) Bz W.heap.size) := by
 have hB : Bytes (bs.take 500) := fun v hv => hd.byte v (List.mem_of_mem_take hv)
 have hbl : (bs.take 500).length ≤ 500 := by rw [List.length_take]; omega
 have hsec := fun {w3 : World} (hu : Upd (fun _ => False) w0 w3) => bytes_second hd hu
 generalize bs.take 500 = b at ho hB hbl hsec
 have hMlt := h.mem.lt
 have hF : ∀ {w w' : World}, Upd (fun _ => False) w w' → Upd (fun k => k < Bz) w w' := fun hu => hu.mono (fun _ _ e => e.elim)
 unfold Ch3
 cases no with
 |true =>
  have hnil := h.mem.nil rfl
  subst hnil
  have hX0 := h.v.no rfl
  subst hX0
  obtain ⟨sa, sc, rfl⟩ := ho.slice'
  refine (app_nil W).mono ?_
  rintro e w3 ⟨rfl, u3⟩
  refine ⟨1, rfl, hF u3, (hsec (h.u.trans u3)).mono ?_⟩
  rintro e w4 ⟨a, c, rfl, ho4, u4⟩
  refine ⟨_, rfl, hF u4, (wmapp_none w4 (h.mem.md.kept (u3.trans u4) (fun _ _ e => e) (fun e => e)) (by omega)).mono ?_⟩
  rintro e w5 ⟨rfl, u5⟩
  exact ⟨rfl, hF u5, h.still ((u3.trans u4).trans u5)⟩
 |false =>
  obtain ⟨q, rfl, hl⟩ := h.mem.log rfl
  obtain ⟨hlg, hpn⟩ := h.v.lg rfl
  have hFb : ∀ k, (Value.ownBlock own = some k) → ¬ F k ∧ ¬ G k := fun k hk => by
   have := (ho.lt k hk).1
   exact ⟨fun e => by have := (h.s k (.inl e)).2; omega, fun e => by have := (h.s k (.inr (.inl ⟨rfl, e⟩))).2; omega⟩
  refine (append_any W ⟨hl, h.mem.d1, fun k hk => (h.mem.aG rfl k hk).1⟩ hlg.ok (hlg.few (by have := h.v.len; omega)) h.v.ok (by omega) hB (by omega) ho.bytesIn (fun hne a n c e => ?_)).mono ?_
  ·have := hFb a.block (by rw [e]; rfl)
   exact ⟨this.1, fun e2 => this.2 (e2 ▸ hl.mem)⟩
  rintro e w3 (⟨hr, rfl, u3⟩ | ⟨hr, rfl, G', F', ⟨hl', hd', hgf'⟩, gG', gF', u3⟩)
  ·refine ⟨_, rfl, hF u3, (hsec (h.u.trans u3)).mono ?_⟩
   rintro e w4 ⟨a, c, rfl, ho4, u4⟩
   have u14 := u3.trans u4
   have hz := u3.size
   have hb := h.b
   refine ⟨_, rfl, hF u4, (wmapp_any w4 (h.mem.md.kept u14 (fun _ _ e => e) (fun e => e)) (h.mem.d2.kept u14 (fun _ _ e => e)) h.mem.aM h.mem.aC h.v.ok (by omega) hlg.ok hlg.used ho4.bIn hB (by omega) (fun k hk => ?_)).mono ?_⟩
   ·have := (ho4.lt k hk).1
    exact ⟨fun e => by have := (h.s k (.inr (.inr (.inl e)))).2; omega, fun e => by have := (h.s k (.inr (.inr (.inr (.inr e))))).2; omega⟩
   rintro e w5 (⟨_, rfl, u5⟩ | ⟨hr2, _⟩)
   ·exact ⟨rfl, hF u5, h.still (u14.trans u5)⟩
   ·exact absurd hr2 hr
  ·have u13 : Upd (fun k => F k ∨ (false = false ∧ G k)) W w3 := u3.mono (fun k _ e => e.elim (fun e => .inr ⟨rfl, e⟩) .inl)
   have hz := u3.size
   have hb := h.b
   have u03 : Upd (fun _ => False) w0 w3 := h.u.step u13 (fun k hk e => by have := (h.s k (e.elim .inl (fun e => .inr (.inl e)))).1; omega)
   refine ⟨_, rfl, u13.mono (fun k _ e => (h.s k (e.elim .inl (fun e => .inr (.inl e)))).2), (hsec u03).mono ?_⟩
   rintro e w4 ⟨a, c, rfl, ho4, u4⟩
   have hx2 : ∀ k, F2 k ∨ C k ∨ k = m → ¬ (F k ∨ (false = false ∧ G k)) := fun k hk e => by
    rcases e with e | ⟨_, e⟩
    ·have := h.mem.aF k e; exact hk.elim this.1 (fun q => q.elim this.2.1 this.2.2)
    ·have := h.mem.aG rfl k e; exact hk.elim this.2.1 (fun q => q.elim this.2.2.1 this.2.2.2)
   refine ⟨_, rfl, hF u4, (wmapp_any w4 ((h.mem.md.kept u13 (fun k hk => hx2 k (.inr (.inl hk))) (hx2 m (.inr (.inr rfl)))).kept u4 (fun _ _ e => e) (fun e => e)) ((h.mem.d2.kept u13 (fun k hk => hx2 k (.inl hk))).kept u4 (fun _ _ e => e)) h.mem.aM h.mem.aC h.v.ok (by omega) hlg.ok hlg.used ho4.bIn hB (by omega) (fun k hk => ?_)).mono ?_⟩
   ·have := (ho4.lt k hk).1
    exact ⟨fun e => by have := (h.s k (.inr (.inr (.inl e)))).2; omega, fun e => by have := (h.s k (.inr (.inr (.inr (.inr e))))).2; omega⟩
   rintro e w5 (⟨hr2, _⟩ | ⟨_, rfl, C', F2', md, p2, g2, gC, aC, u5⟩)
   ·exact absurd hr hr2
   have hdk := Dk.lays_ok (partSc X.h (X.h.number + X.parts.length) (X.h.place + X.used) false b hB) h.v.ok
   rw [partSc_length] at hdk
   have hs := refuses_secs hlg.ok hr hlg.ok.used.1
   refine ⟨rfl, u5.mono (fun k _ e => (h.s k (e.elim (fun e => .inr (.inr (.inl e))) (fun e => .inr (.inr (.inr (.inr e)))))).2), h.shut ⟨hdk.mono (by omega), Nat.le_trans (Nat.le_of_eq (lays_len _ _)) h.v.len, fun _ => ⟨?_, ?_⟩, fun e => by cases e⟩ hd' gF' (fun e => by cases e) (fun _ => ⟨q, rfl, hl'⟩) (fun _ k hk => ⟨(gG' k hk).imp_left (fun e => ⟨rfl, e⟩), hgf' k hk⟩) u13 u4 p2 g2 md (fun k hk => ?_) aC u5⟩
   ·rw [lays_len]
    exact hlg.after (by have := h.v.len; omega) hB hr
   ·unfold Lg.after
    split
    ·simp [Lg.add]
    ·exact hpn
   ·rcases gC k hk with e | e | e
    ·exact .inl e
    ·exact .inr (ho4.lt k e).1
    ·have := u4.size; exact .inr (by omega)
theorem DdH.cp {w0 W : World} {d o m t Bz : Nat} {wv own : Value} {D : Dk} {X : Lg} {no : Bool} {G F F2 C : Nat → Prop} {x : DeedR} {bs : List Int} {B : Nat → Bool} (h : DdH w0 W d o m wv D X no G F F2 C t Bz) (ht : t ≤ 900) (ho : OwnB W Bz own (bs.take 500)) (hd : DeedIn w0 x bs B) :
  Ch3 Bz 42 #[wv, own] 56 #[deedV x] 58 (fun u => #[.pointer (some ⟨m, 0, none⟩), u]) W (fun w5 => DdA w0 w5 d o m wv (t + 1) Bz W.heap.size) := by
 have hB : Bytes (bs.take 500) := fun v hv => hd.byte v (List.mem_of_mem_take hv)
 have hbl : (bs.take 500).length ≤ 500 := by rw [List.length_take]; omega
 have hsec := fun {w3 : World} (hu : Upd (fun _ => False) w0 w3) => bytes_second hd hu
 generalize bs.take 500 = b at ho hB hbl hsec
 have hMlt := h.mem.lt
 have hF : ∀ {w w' : World}, Upd (fun _ => False) w w' → Upd (fun k => k < Bz) w w' := fun hu => hu.mono (fun _ _ e => e.elim)
 unfold Ch3
 cases no with
 |true =>
  have hnil := h.mem.nil rfl
  subst hnil
  have hX0 := h.v.no rfl
  subst hX0
  obtain ⟨sa, sc, rfl⟩ := ho.slice'
  refine (cp_nil W).mono ?_
  rintro e w3 ⟨rfl, u3⟩
  refine ⟨1, rfl, hF u3, (hsec (h.u.trans u3)).mono ?_⟩
  rintro e w4 ⟨a, c, rfl, ho4, u4⟩
  refine ⟨_, rfl, hF u4, (wmcp_none w4 (h.mem.md.kept (u3.trans u4) (fun _ _ e => e) (fun e => e)) (by omega)).mono ?_⟩
  rintro e w5 ⟨rfl, u5⟩
  exact ⟨rfl, hF u5, h.still ((u3.trans u4).trans u5)⟩
 |false =>
  obtain ⟨q, rfl, hl⟩ := h.mem.log rfl
  obtain ⟨hlg, hpn⟩ := h.v.lg rfl
  have hFb : ∀ k, (Value.ownBlock own = some k) → ¬ F k ∧ ¬ G k := fun k hk => by
   have := (ho.lt k hk).1
   exact ⟨fun e => by have := (h.s k (.inl e)).2; omega, fun e => by have := (h.s k (.inr (.inl ⟨rfl, e⟩))).2; omega⟩
  refine (cp_any W ⟨hl, h.mem.d1, fun k hk => (h.mem.aG rfl k hk).1⟩ hlg.ok h.v.ok (by omega) hB (by omega) ho.bytesIn (fun hne a n c e => ?_)).mono ?_
  ·have := hFb a.block (by rw [e]; rfl)
   exact ⟨this.1, fun e2 => this.2 (e2 ▸ hl.mem)⟩
  rintro e w3 (⟨hr, rfl, u3⟩ | ⟨hr, htn, rfl, u3⟩ | ⟨hr, htn, rfl, G', F', ⟨hl', hd', hgf'⟩, gG', gF', u3⟩)
  ·refine ⟨_, rfl, hF u3, (hsec (h.u.trans u3)).mono ?_⟩
   rintro e w4 ⟨a, c, rfl, ho4, u4⟩
   have u14 := u3.trans u4
   have hz := u3.size
   have hb := h.b
   refine ⟨_, rfl, hF u4, (wmcp_any w4 (h.mem.md.kept u14 (fun _ _ e => e) (fun e => e)) (h.mem.d2.kept u14 (fun _ _ e => e)) h.mem.aM h.mem.aC h.v.ok (by omega) hlg.ok hlg.used ho4.bIn hB (by omega) (fun k hk => ?_)).mono ?_⟩
   ·have := (ho4.lt k hk).1
    exact ⟨fun e => by have := (h.s k (.inr (.inr (.inl e)))).2; omega, fun e => by have := (h.s k (.inr (.inr (.inr (.inr e))))).2; omega⟩
   rintro e w5 (⟨_, rfl, u5⟩ | ⟨hr2, _⟩ | ⟨hr2, _⟩)
   ·exact ⟨rfl, hF u5, h.still (u14.trans u5)⟩
   ·exact absurd hr2 hr
   ·exact absurd hr2 hr
  ·refine ⟨_, rfl, hF u3, (hsec (h.u.trans u3)).mono ?_⟩
   rintro e w4 ⟨a, c, rfl, ho4, u4⟩
   have u14 := u3.trans u4
   have hz := u3.size
   have hb := h.b
   refine ⟨_, rfl, hF u4, (wmcp_any w4 (h.mem.md.kept u14 (fun _ _ e => e) (fun e => e)) (h.mem.d2.kept u14 (fun _ _ e => e)) h.mem.aM h.mem.aC h.v.ok (by omega) hlg.ok hlg.used ho4.bIn hB (by omega) (fun k hk => ?_)).mono ?_⟩
   ·have := (ho4.lt k hk).1
    exact ⟨fun e => by have := (h.s k (.inr (.inr (.inl e)))).2; omega, fun e => by have := (h.s k (.inr (.inr (.inr (.inr e))))).2; omega⟩
   rintro e w5 (⟨hr2, _⟩ | ⟨_, _, rfl, u5⟩ | ⟨_, hr2, _⟩)
   ·exact absurd hr hr2
   ·exact ⟨rfl, hF u5, h.still (u14.trans u5)⟩
   ·exact absurd htn hr2
  ·have u13 : Upd (fun k => F k ∨ (false = false ∧ G k)) W w3 := u3.mono (fun k _ e => e.elim (fun e => .inr ⟨rfl, e⟩) .inl)
   have hz := u3.size
   have hb := h.b
   have u03 : Upd (fun _ => False) w0 w3 := h.u.step u13 (fun k hk e => by have := (h.s k (e.elim .inl (fun e => .inr (.inl e)))).1; omega)
   refine ⟨_, rfl, u13.mono (fun k _ e => (h.s k (e.elim .inl (fun e => .inr (.inl e)))).2), (hsec u03).mono ?_⟩
   rintro e w4 ⟨a, c, rfl, ho4, u4⟩
   have hx2 : ∀ k, F2 k ∨ C k ∨ k = m → ¬ (F k ∨ (false = false ∧ G k)) := fun k hk e => by
    rcases e with e | ⟨_, e⟩
    ·have := h.mem.aF k e; exact hk.elim this.1 (fun q => q.elim this.2.1 this.2.2)
    ·have := h.mem.aG rfl k e; exact hk.elim this.2.1 (fun q => q.elim this.2.2.1 this.2.2.2)
   refine ⟨_, rfl, hF u4, (wmcp_any w4 ((h.mem.md.kept u13 (fun k hk => hx2 k (.inr (.inl hk))) (hx2 m (.inr (.inr rfl)))).kept u4 (fun _ _ e => e) (fun e => e)) ((h.mem.d2.kept u13 (fun k hk => hx2 k (.inl hk))).kept u4 (fun _ _ e => e)) h.mem.aM h.mem.aC h.v.ok (by omega) hlg.ok hlg.used ho4.bIn hB (by omega) (fun k hk => ?_)).mono ?_⟩
   ·have := (ho4.lt k hk).1
    exact ⟨fun e => by have := (h.s k (.inr (.inr (.inl e)))).2; omega, fun e => by have := (h.s k (.inr (.inr (.inr (.inr e))))).2; omega⟩
   rintro e w5 (⟨hr2, _⟩ | ⟨_, hr2, _⟩ | ⟨_, _, rfl, C', F2', md, p2, g2, gC, aC, u5⟩)
   ·exact absurd hr hr2
   ·exact absurd hr2 htn
   have hs := refuses_secs hlg.ok hr (by omega)
   have hdk := Dk.lays_ok (partSc X.h X.cpH.number X.cpH.place true b hB) h.v.ok
   rw [partSc_length] at hdk
   have hdk2 : (X.cpD D b hB).Ok (1100000 * (t + 1)) := by
    unfold Lg.cpD
    split
    ·exact Dk.Ok.mono (Dk.lays_ok [headSc X.cpH] hdk) (by simp; omega)
    ·exact hdk.mono (by omega)
   refine ⟨rfl, u5.mono (fun k _ e => (h.s k (e.elim (fun e => .inr (.inr (.inl e))) (fun e => .inr (.inr (.inr (.inr e)))))).2), h.shut ⟨hdk2, Nat.le_trans (Nat.le_of_eq (cpD_len _ _ _ _)) h.v.len, fun _ => ⟨?_, ?_⟩, fun e => by cases e⟩ hd' gF' (fun e => by cases e) (fun _ => ⟨q, rfl, hl'⟩) (fun _ k hk => ⟨(gG' k hk).imp_left (fun e => ⟨rfl, e⟩), hgf' k hk⟩) u13 u4 p2 g2 md (fun k hk => ?_) aC u5⟩
   ·rw [cpD_len]
    exact hlg.cp hB hr htn
   ·unfold Lg.cp
    split
    ·simp [Lg.add]
    ·exact hpn
   ·rcases gC k hk with e | e | e
    ·exact .inl e
    ·exact .inr (ho4.lt k e).1
    ·have := u4.size; exact .inr (by omega)
theorem doArm_ok {D : Dk} {K : Nat} {n : Int} (h : D.Ok K) (hn : n ≤ 9223372036854775807) : (D.doArm n).Ok K := by
 unfold Dk.doArm
 split
 ·exact h
 ·exact ⟨h.len, h.blks, h.rblks, h.sorted, h.sent, h.ops, ⟨by show -1 ≤ max n (-1); omega, by show max n (-1) ≤ _; omega⟩, h.fail, h.rowlen⟩
theorem doFail_ok {D : Dk} {K : Nat} {n : Int} (h : D.Ok K) (hn : n ≤ 9223372036854775807) : (D.doFail n).Ok K := by
 unfold Dk.doFail
 split
 ·exact h
 ·exact ⟨h.len, h.blks, h.rblks, h.sorted, h.sent, h.ops, h.arm, ⟨by show -1 ≤ max n (-1); omega, by show max n (-1) ≤ _; omega⟩, h.rowlen⟩
theorem doArm_leng (D : Dk) (n : Int) : (D.doArm n).arr.length = D.arr.length := by unfold Dk.doArm; split <;> rfl
theorem doFail_leng (D : Dk) (n : Int) : (D.doFail n).arr.length = D.arr.length := by unfold Dk.doFail; split <;> rfl
theorem openL_zero {hd : Hd} {ps : List (List Int)} {D : Dk} {X : Lg} (h : (openL hd ps D).1 = some X) : (openL hd ps D).2.1 = 0 := by
 unfold openL at h ⊢
 split at h
 ·rename_i h1
  rw [if_pos h1]
 ·cases h
theorem openP_zero {hd : Hd} {R : List (List Int) × Int × Dk} {X : Lg} (h : (openP hd R).1 = some X) : (openP hd R).2.1 = 0 := by
 unfold openP at h ⊢
 split at h
 ·rename_i h1
  rw [if_pos h1]
  split at h
  ·cases h
  ·rename_i h2
   rw [if_neg h2]
   exact openL_zero h
 ·cases h
theorem openH_zero {c : Hd × Bool} {D : Dk} {X : Lg} (h : (openH c D).1 = some X) : (openH c D).2.1 = 0 := by
 unfold openH at h ⊢
 split at h
 ·cases h
 ·rename_i h1
  rw [if_neg h1]
  exact openP_zero h
theorem openD_zero {D : Dk} {X : Lg} (h : (openD D).1 = some X) : (openD D).2.1 = 0 := by
 unfold openD at h ⊢
 split at h
 ·rename_i h1
  rw [if_pos h1]
  split at h
  ·rename_i h2
   rw [if_pos h2]
   exact openH_zero h
  ·cases h
 ·cases h
def MOn (w : World) (m o : Nat) : Prop := ∃ x1 x2 x3 x4 x5 x6 x7 x8, w.heap[m]? = some (.cells #[.pointer (some ⟨o, 0, none⟩), x1, x2, x3, x4, x5, x6, x7, x8] 37 (0, 0))
theorem MdSt.on {w : World} {m p : Nat} {X : Lg} {no : Bool} {C : Nat → Prop} (h : MdSt w m p X no C) : MOn w m p := by
 obtain ⟨⟨pa, pc, aa, an, ac, h1, _⟩, _⟩ := h
 exact ⟨_, _, _, _, _, _, _, _, h1⟩
theorem MOn.kept {w w' : World} {m o : Nat} {H : Nat → Prop} (h : MOn w m o) (hu : Upd H w w') (hm : ¬ H m) : MOn w' m o := by
 obtain ⟨x1, x2, x3, x4, x5, x6, x7, x8, h1⟩ := h
 exact ⟨x1, x2, x3, x4, x5, x6, x7, x8, (hu.block _ (lt_of_heap h1) hm).trans h1⟩
theorem DdH.setsF {w0 W : World} {d o m t Bz : Nat} {wv : Value} {D : Dk} {X : Lg} {no : Bool} {G F F2 C : Nat → Prop} (h : DdH w0 W d o m wv D X no G F F2 C t Bz) : ∀ k, F2 k ∨ C k ∨ k = m → ¬ F k := fun k hk e => by
 have := h.mem.aF k e
 exact hk.elim this.1 (fun q => q.elim this.2.1 this.2.2)
def Ch2 (Bz m o f1 : Nat) (a1 : Array Value) (f2 : Nat) (a2 : Array Value) (w : World) (Q : World → Prop) : Prop :=
 Calls Tryz.prog f1 a1 w fun e w3 => ∃ E, e = .returned (.int .i64 E) ∧ Upd (fun k => k < Bz) w w3 ∧ MOn w3 m o ∧ Calls Tryz.prog f2 a2 w3 fun e w5 => e = .returned (.int .i64 E) ∧ Upd (fun k => k < Bz) w3 w5 ∧ MOn w5 m o ∧ Q w5
theorem DdH.two {w0 W : World} {d o m t Bz f : Nat} {wv a : Value} {D D' : Dk} {X : Lg} {no : Bool} {G F F2 C : Nat → Prop} (h : DdH w0 W d o m wv D X no G F F2 C t Bz) (hf : ∀ (p : Nat) (F : Nat → Prop) (w : World), Dsk w p D F → Calls Tryz.prog f #[.pointer (some ⟨p, 0, none⟩), a] w fun e w' => e = .returned (.int .i64 D.awake) ∧ Dsk w' p D' F ∧ Upd (fun k => k = p) w w')
  (hok : D'.Ok (1100000 * t)) (hlen : D'.arr.length = D.arr.length) :
  Ch2 Bz m o f #[.pointer (some ⟨d, 0, none⟩), a] f #[.pointer (some ⟨o, 0, none⟩), a] W (fun w5 => DdA w0 w5 d o m wv (t + 1) Bz W.heap.size) := by
 unfold Ch2
 have hdF := h.mem.d1.mem; have hoF := h.mem.d2.mem
 refine (hf d F W h.mem.d1).mono ?_
 rintro e w3 ⟨rfl, h3, u3⟩
 have u13 : Upd (fun k => F k ∨ (no = false ∧ G k)) W w3 := u3.mono (fun k _ e => .inl (e ▸ hdF))
 have hx : ∀ k, F2 k ∨ C k ∨ k = m → ¬ k = d := fun k hk e => h.setsF k hk (e ▸ hdF)
 refine ⟨_, rfl, u3.mono (fun k _ e => e ▸ (h.s d (.inl hdF)).2), h.mem.md.on.kept u3 (hx m (.inr (.inr rfl))), (hf o F2 w3 (h.mem.d2.kept u3 (fun k hk => hx k (.inl hk)))).mono ?_⟩
 rintro e w5 ⟨rfl, h5, u5⟩
 have hmd := (h.mem.md.kept u3 (fun k hk => hx k (.inr (.inl hk))) (hx m (.inr (.inr rfl)))).kept u5 (fun k hk e => h.mem.aC k hk (e ▸ hoF)) (fun e => h.mem.aM (e ▸ hoF))
 refine ⟨rfl, u5.mono (fun k _ e => e ▸ (h.s o (.inr (.inr (.inl hoF)))).2), hmd.on, h.shut (G' := G) ⟨hok.mono (by omega), by have := h.v.len; omega, fun e => ?_, h.v.no⟩ h3 (fun k hk => .inl hk) h.mem.nil (fun e => ?_) (fun e k hk => ⟨.inl ⟨e, hk⟩, (h.mem.aG e k hk).1⟩) u13 (Upd.refl _ w3) h5 (fun k hk => .inl hk) hmd (fun k hk => .inl hk) h.mem.aC (u5.mono (fun k _ e => .inl (e ▸ hoF)))⟩
 ·rw [hlen]; exact h.v.lg e
 ·obtain ⟨q, e1, hl⟩ := h.mem.log e
  exact ⟨q, e1, hl.kept u3 (fun k hk e2 => (h.mem.aG e k hk).1 (e2 ▸ hdF))⟩
def Ch4 (Bz m o : Nat) (a : Array Value) (v1 v2 : Value) (w : World) (Q : World → Prop) : Prop :=
 Calls Tryz.prog 60 a w fun e w2 => ∃ u, e = .returned u ∧ Upd (fun k => k < Bz) w w2 ∧ MOn w2 m o ∧ Calls Tryz.prog 16 #[v1, u] w2 fun e w3 => e = .returned (.int .i64 0) ∧ Upd (fun k => k < Bz) w2 w3 ∧ MOn w3 m o ∧
  Calls Tryz.prog 60 a w3 fun e w4 => ∃ u, e = .returned u ∧ Upd (fun k => k < Bz) w3 w4 ∧ MOn w4 m o ∧ Calls Tryz.prog 16 #[v2, u] w4 fun e w5 => e = .returned (.int .i64 0) ∧ Upd (fun k => k < Bz) w4 w5 ∧ MOn w5 m o ∧ Q w5
theorem DdH.crash {w0 W : World} {d o m t Bz : Nat} {wv : Value} {D : Dk} {X : Lg} {no : Bool} {G F F2 C : Nat → Prop} {x : DeedR} {bs : List Int} {B : Nat → Bool} (h : DdH w0 W d o m wv D X no G F F2 C t Bz) (ht : t ≤ 900) (hd : DeedIn w0 x bs B) :
  Ch4 Bz m o #[deedV x] (.pointer (some ⟨d, 0, none⟩)) (.pointer (some ⟨o, 0, none⟩)) W (fun w5 => DdA w0 w5 d o m wv (t + 1) Bz W.heap.size) := by
 unfold Ch4
 have hF : ∀ {w w' : World}, Upd (fun _ => False) w w' → Upd (fun k => k < Bz) w w' := fun hu => hu.mono (fun _ _ e => e.elim)
 have hlen : ((List.range (min x.kn 60)).map B).length = min x.kn 60 := by simp
 have h60 : min x.kn 60 ≤ 60 := Nat.min_le_right _ _
 have hok : D.Ok 1099511627774 := h.v.ok.mono (by omega)
 refine (keepD_any W (hd.kept h.u)).mono ?_
 rintro e w2 ⟨⟨ka, kc, rfl, hk⟩, u2⟩
 rw [← hlen]
 refine ⟨_, rfl, hF u2, h.mem.md.on.kept u2 (fun e => e), (crash_any w2 ka kc _ hk (by omega) (h.mem.d1.kept u2 (fun _ _ e => e)) hok).mono ?_⟩
 rintro e w3 ⟨rfl, F', h3, g3, u3⟩
 have hz2 := u2.size; have hz3 := u3.size
 have u13 : Upd (fun k => F k ∨ (no = false ∧ G k)) W w3 := (u2.mono (fun _ _ e => e.elim)).trans (u3.mono (fun k _ e => .inl e))
 have u03 : Upd (fun _ => False) w0 w3 := h.u.step u13 (fun k hk e => by have := (h.s k (e.elim .inl (fun e => .inr (.inl e)))).1; omega)
 have hm3 := (h.mem.md.kept u2 (fun _ _ e => e) (fun e => e)).kept u3 (fun k hk => h.setsF k (.inr (.inl hk))) (h.setsF m (.inr (.inr rfl)))
 have hd3 := (h.mem.d2.kept u2 (fun _ _ e => e)).kept u3 (fun k hk => h.setsF k (.inl hk))
 refine ⟨rfl, u3.mono (fun k _ e => (h.s k (.inl e)).2), hm3.on, (keepD_any w3 (hd.kept u03)).mono ?_⟩
 rintro e w4 ⟨⟨ka2, kc2, rfl, hk2⟩, u4⟩
 rw [← hlen]
 refine ⟨_, rfl, hF u4, hm3.on.kept u4 (fun e => e), (crash_any w4 ka2 kc2 _ hk2 (by omega) (hd3.kept u4 (fun _ _ e => e)) hok).mono ?_⟩
 rintro e w5 ⟨rfl, F2', h5, g5, u5⟩
 have hm5 := (hm3.kept u4 (fun _ _ e => e) (fun e => e)).kept u5 (fun k hk => h.mem.aC k hk) h.mem.aM
 have hz4 := u4.size
 refine ⟨rfl, u5.mono (fun k _ e => (h.s k (.inr (.inr (.inl e)))).2), hm5.on, h.shut (G' := G) ⟨(h.v.ok.crash _).mono (by omega), by rw [crash_len]; exact h.v.len, fun e => by rw [crash_len]; exact h.v.lg e, h.v.no⟩ h3 (fun k hk => (g3 k hk).imp_right (fun e => by omega)) h.mem.nil (fun e => ?_) (fun e k hk => ⟨.inl ⟨e, hk⟩, fun e2 => ?_⟩) u13 u4 h5 g5 hm5 (fun k hk => .inl hk) (fun k hk e => ?_) (u5.mono (fun k _ e => .inl e))⟩
 ·obtain ⟨q, e1, hl⟩ := h.mem.log e
  exact ⟨q, e1, (hl.kept u2 (fun _ _ e => e)).kept u3 (fun k hk => (h.mem.aG e k hk).1)⟩
 ·rcases g3 k e2 with q | q
  ·exact (h.mem.aG e k hk).1 q
  ·have := h.mem.lt k (.inr (.inl ⟨e, hk⟩)); omega
 ·rcases g5 k e with q | q
  ·exact h.mem.aC k hk q
  ·have := h.mem.lt k (.inr (.inr (.inr (.inl hk)))); omega
def ChO (w0 : World) (Bz d o m t f1 : Nat) (a1 : Array Value) (f2 : Nat) (a2 : Array Value) (wv : Value) (w : World) : Prop :=
 Calls Tryz.prog f1 a1 w fun e w3 => ∃ v E, e = .returned (.tuple #[v, .int .i64 E]) ∧ Upd (fun k => k < Bz) w w3 ∧ ∀ w4, Upd (fun _ => False) w3 w4 → Calls Tryz.prog f2 a2 w4 fun e w5 => e = .returned (.int .i64 E) ∧ Upd (fun k => k < Bz) w4 w5 ∧ DdA w0 w5 d o m (if E = 0 then v else wv) (t + 1) Bz w.heap.size
theorem DdH.made {w0 W : World} {d o m t Bz f1 f2 : Nat} {a1 a2 : Array Value} {wv : Value} {D : Dk} {X : Lg} {no : Bool} {G F F2 C : Nat → Prop} {R : Option Lg × Int × Dk} (h : DdH w0 W d o m wv D X no G F F2 C t Bz) (hf : Calls Tryz.prog f1 a1 W fun e w' => OpenAns W d F R (1100000 * t) e w')
  (hg : ∀ w4, MdSt w4 m o X no C → Dsk w4 o D F2 → Calls Tryz.prog f2 a2 w4 (MFm w4 m o X no C F2 R)) (hlen : R.2.2.arr.length = D.arr.length) (herr : R.1 = none → R.2.1 ≠ 0) (hsome : ∀ Y, R.1 = some Y → Y.Ok → LgI D.arr.length Y ∧ Y.parts ≠ [] ∧ R.2.1 = 0) :
  ChO w0 Bz d o m t f1 a1 f2 a2 wv W := by
 unfold ChO
 refine hf.mono ?_
 rintro e w3 ⟨F', h3, g3, u3, hok, hans⟩
 have hz3 := u3.size
 have u13 : Upd (fun k => F k ∨ (no = false ∧ G k)) W w3 := u3.mono (fun k _ e => .inl e)
 have hm3 := h.mem.md.kept u3 (fun k hk => h.setsF k (.inr (.inl hk))) (h.setsF m (.inr (.inr rfl)))
 have hd3 := h.mem.d2.kept u3 (fun k hk => h.setsF k (.inl hk))
 have hok' : R.2.2.Ok (1100000 * (t + 1)) := hok.mono (by omega)
 have hu3B : Upd (fun k => k < Bz) W w3 := u3.mono (fun k _ e => (h.s k (.inl e)).2)
 have hu5B : ∀ {w4 w5 : World}, Upd (fun k => F2 k ∨ k = m) w4 w5 → Upd (fun k => k < Bz) w4 w5 := fun hu => hu.mono (fun k _ e => (h.s k (e.elim (fun e => .inr (.inr (.inl e))) (fun e => .inr (.inr (.inr (.inr e)))))).2)
 cases hR : R.1 with
 |none =>
  rw [hR] at hans
  subst hans
  refine ⟨_, _, rfl, hu3B, fun w4 u4 => (hg w4 (hm3.kept u4 (fun _ _ e => e) (fun e => e)) (hd3.kept u4 (fun _ _ e => e))).mono ?_⟩
  rintro e w5 ⟨rfl, F2', C', p2, g2, gC, aC, u5, hm5⟩
  rw [hR] at hm5
  rw [if_neg (herr hR)]
  refine ⟨rfl, hu5B u5, h.shut (G' := G) ⟨hok', by rw [hlen]; exact h.v.len, fun e => by rw [hlen]; exact h.v.lg e, h.v.no⟩ h3 g3 h.mem.nil (fun e => ?_) (fun e k hk => ⟨.inl ⟨e, hk⟩, fun e2 => ?_⟩) u13 u4 p2 g2 hm5 (fun k hk => (gC k hk).imp_right (fun e => by have := u4.size; omega)) aC u5⟩
  ·obtain ⟨q, e1, hl⟩ := h.mem.log e
   exact ⟨q, e1, hl.kept u3 (fun k hk => (h.mem.aG e k hk).1)⟩
  ·rcases g3 k e2 with q | q
   ·exact (h.mem.aG e k hk).1 q
   ·have := h.mem.lt k (.inr (.inl ⟨e, hk⟩)); omega
 |some Y =>
  rw [hR] at hans
  obtain ⟨q, G', rfl, hl, gG, aG, hY⟩ := hans
  obtain ⟨y1, y2, y3⟩ := hsome Y hR hY
  refine ⟨_, _, rfl, hu3B, fun w4 u4 => (hg w4 (hm3.kept u4 (fun _ _ e => e) (fun e => e)) (hd3.kept u4 (fun _ _ e => e))).mono ?_⟩
  rintro e w5 ⟨rfl, F2', C', p2, g2, gC, aC, u5, hm5⟩
  rw [hR] at hm5
  rw [if_pos rfl]
  exact ⟨by rw [y3], hu5B u5, h.shut (no' := false) (X' := Y) ⟨hok', by rw [hlen]; exact h.v.len, fun e => by rw [hlen]; exact ⟨y1, y2⟩, fun e => by cases e⟩ h3 g3 (fun e => by cases e) (fun _ => ⟨q, rfl, hl⟩) (fun _ k hk => ⟨.inr (gG k hk), aG k hk⟩) u13 u4 p2 g2 hm5 (fun k hk => (gC k hk).imp_right (fun e => by have := u4.size; omega)) aC u5⟩
theorem DdH.open {w0 W : World} {d o m t Bz : Nat} {wv : Value} {D : Dk} {X : Lg} {no : Bool} {G F F2 C : Nat → Prop} (h : DdH w0 W d o m wv D X no G F F2 C t Bz) (ht : t ≤ 900) :
  ChO w0 Bz d o m t 61 #[.pointer (some ⟨d, 0, none⟩)] 62 #[.pointer (some ⟨m, 0, none⟩)] wv W :=
 h.made (open_any W h.mem.d1 h.v.ok (by omega)) (fun w4 k1 k2 => wmopen_any w4 k1 k2 h.mem.aM h.mem.aC h.v.ok (by omega)) (openD_len D) openD_err (fun Y e hY => ⟨openD_I e hY (by have := hY.area; omega), (openD_some e).1, openD_zero e⟩)
theorem DdH.format {w0 W : World} {d o m t Bz : Nat} {wv : Value} {D : Dk} {X : Lg} {no : Bool} {G F F2 C : Nat → Prop} (n : Int) (h : DdH w0 W d o m wv D X no G F F2 C t Bz) (ht : t ≤ 900) :
  ChO w0 Bz d o m t 41 #[.pointer (some ⟨d, 0, none⟩), .int .i64 n] 63 #[.pointer (some ⟨m, 0, none⟩), .int .i64 n] wv W :=
 h.made (format_run W h.mem.d1 h.v.ok (by omega)) (fun w4 k1 k2 => wmfmt_any w4 k1 k2 h.mem.aM h.mem.aC h.v.ok (by omega)) (fmtR_len D n) fmtR_err (fun Y e _ => fmtR_some e)
theorem DdA.low {w0 W : World} {d o m t lo hi hi' : Nat} {wv : Value} (h : DdA w0 W d o m wv t lo hi) (hh : hi' ≤ hi) : DdA w0 W d o m wv t lo hi' := by
 obtain ⟨D, X, no, G, F, F2, C, h1, h2, h3, h4⟩ := h
 exact ⟨D, X, no, G, F, F2, C, h1, h2, fun k hk => ⟨(h3 k hk).1, fun e => (h3 k hk).2 ⟨e.1, by omega⟩⟩, h4⟩
def OwC (lo hi n : Nat) (a : Option Addr) (w : World) : Prop := n = 0 ∨ ∃ g, a = some ⟨g, 0, none⟩ ∧ lo ≤ g ∧ g < hi ∧ (∃ cs, w.heap[g]? = some (.cells cs 5 (0, 0))) ∧ ∀ j, j < n → ∃ v, w.cell? ⟨g, j, none⟩ = some (.int .u8 v)
theorem OwnB.owC {w : World} {lo hi : Nat} {a : Option Addr} {c : Nat} {b : List Int} (h : OwnB w lo (.slice a b.length c) b) (hh : ∀ k, (Value.slice a b.length c).ownBlock = some k → k < hi) : OwC lo hi b.length a w := by
 rcases h.2 with ⟨_, e0⟩ | ⟨g, cap, cur, e0, hg, hc, h1, _, _, h4⟩
 ·exact .inl e0
 ·injection e0 with e1 _ _
  subst e1
  refine .inr ⟨g, rfl, hg, hh g rfl, ⟨_, hc⟩, fun j hj => ?_⟩
  have := World.ownsRow.cells h rfl j (.int .u8 (b[j]'hj)) (by simp [bcells, hj])
  rw [Addr.add_mid, Nat.zero_add] at this
  exact ⟨_, this⟩
theorem OwC.kept {w w' : World} {lo hi n : Nat} {a : Option Addr} {H : Nat → Prop} (h : OwC lo hi n a w) (hu : Upd H w w') (hH : ∀ k, H k → k < lo) : OwC lo hi n a w' := h.imp_right (by
 rintro ⟨g, e, h1, h2, ⟨cs, h3⟩, h4⟩
 have hb := hu.block g (lt_of_heap h3) (fun e => by have := hH g e; omega)
 refine ⟨g, e, h1, h2, ⟨cs, hb.trans h3⟩, fun j hj => ?_⟩
 obtain ⟨v, hv⟩ := h4 j hj
 refine ⟨v, ?_⟩
 rw [← hv]
 simp [World.cell?, hb])
theorem OwC.put {w : World} {lo hi n g p : Nat} {a : Option Addr} {v v' : Int} (h : OwC lo hi n a w) (hv : w.cell? ⟨g, p, none⟩ = some (.int .u8 v)) : OwC lo hi n a (w.setCell ⟨g, p, none⟩ (.int .u8 v')) := h.imp_right (by
 rintro ⟨g2, e1, hl, hh, ⟨cs, h3⟩, hc⟩
 refine ⟨g2, e1, hl, hh, ?_, fun j hj => ?_⟩
 ·by_cases eg : g = g2
  ·subst eg
   exact ⟨_, blk_set (i := p) (v := .int .u8 v') h3⟩
  ·exact ⟨cs, ((upd_own w g p (.int .u8 v')).block g2 (lt_of_heap h3) (fun e => eg e.symm)).trans h3⟩
 obtain ⟨u, hu⟩ := hc j hj
 by_cases e2 : (⟨g, p, none⟩ : Addr) = ⟨g2, j, none⟩
 ·rw [← e2]
  exact ⟨v', World.cell?_setCell_same w ⟨g, p, none⟩ _ hv⟩
 ·exact ⟨u, by rw [World.cell?_setCell_other w _ _ _ e2]; exact hu⟩)
theorem wdoes_any {w0 : World} {d o m t : Nat} {wv : Value} {x : DeedR} {bs : List Int} {B : Nat → Bool} (w : World) (h : DdSt w0 w d o m wv t) (ht : t ≤ 900) (hd : DeedIn w0 x bs B) :
  Calls Tryz.prog 14 #[.pointer (some ⟨m, 0, none⟩), wv, .pointer (some ⟨d, 0, none⟩), deedV x] w fun e w' => ∃ v, e = .returned (.tuple #[v, .bool true]) ∧ DdSt w0 w' d o m v (t + 1) := by
 obtain ⟨D, X, no, G, F, F2, C, h1, h2, h3, h4⟩ := h
 obtain ⟨Bz, hBz⟩ : ∃ Bz, Bz = w.heap.size := ⟨_, rfl⟩
 have HH := Lib.hid (show ∀ W, Upd (fun _ => False) w W → DdH w0 W d o m wv D X no G F F2 C t Bz from fun W hu => ⟨h1.kept hu (fun _ _ e => e), h2, fun k hk => ⟨h3 k hk, by rw [hBz]; exact h1.lt k hk⟩, h4.trans hu, by rw [hBz]; exact hu.size⟩)
 have HW0 := Lib.hid (show w0.heap.size ≤ Bz by rw [hBz]; exact h4.size)
 have HDD := Lib.hid hd
 obtain ⟨w1, hw1⟩ : ∃ w1, w1 = w.alloc (.cells #[.int .i64 x.k, .int .i64 x.n, .slice x.ba x.bn x.bc, .slice x.ka x.kn x.kc] 42) := ⟨_, rfl⟩
 have hx1 : w1.heap[w.heap.size]? = some (.cells #[.int .i64 x.k, .int .i64 x.n, .slice x.ba x.bn x.bc, .slice x.ka x.kn x.kc] 42 (0, 0)) := by rw [hw1]; exact alloc_at rfl
 have hu1 : Upd (fun _ => False) w w1 := by rw [hw1]; exact (Upd.refl _ w).alloc _
 obtain ⟨ob, hob⟩ : ∃ ob, ob = w.heap.size := ⟨_, rfl⟩
 have HB2 := Lib.hid hob
 have HOB := Lib.hid (show Bz ≤ ob by omega)
 have HBW := Lib.hid (show Bz ≤ w1.heap.size by rw [hBz]; exact hu1.size)
 rw [← hob] at hx1
 have hown := bytes_second hd (h4.trans hu1)
 have hkd := fun W => kindD_run x W
 have hbl : (bs.take 500).length ≤ 500 := by rw [List.length_take]; omega
 obtain ⟨b, hb⟩ : ∃ b, b = bs.take 500 := ⟨_, rfl⟩
 rw [← hb] at hown hbl
 obtain ⟨nb, hnb⟩ : ∃ nb, nb = b.length := ⟨_, rfl⟩
 unfold deedV at hown hkd
 have hkr := x.kd_range
 generalize x.kd = kd at hkd hkr
 have HOWN := Lib.hid hown; have HKD := Lib.hid hkd; have HX1 := Lib.hid hx1; have HU1 := Lib.hid hu1; have HW1 := Lib.hid hw1; have HBB := Lib.hid hb; have HBL := Lib.hid hbl; have HKR := Lib.hid hkr
 obtain ⟨c0, c1, c2, c3⟩ := cells4_of hx1
 unfold deedV
 clear h1 h2 h3 h4 hBz hw1 hx1 hu1 hown hkd hbl hb hkr hd hnb nb
 go_enter Tryz.func14, Tryz.ntmps14
 go_upto_region 1 with fail
 rw [← HW1.out, ← HB2.out]
 clear HW1 HB2 hob
 go_wp2_with (go_at_call 56; fail)
 refine HOWN.out.mono ?_
 rintro e w2 ⟨oa, oc, rfl, how, hu2⟩
 have HOW0 := Lib.hid how; have HU2 := Lib.hid (HU1.out.trans hu2)
 have hx2 := (hu2.block _ (lt_of_heap HX1.out) (fun e => e)).trans HX1.out
 have HX2 := Lib.hid hx2
 clear how hu2 c0 c1 c2 c3 HOWN HX1
 obtain ⟨c0, c1, c2, c3⟩ := cells4_of hx2
 clear hx2
 simp only []
 go_wp2_with (go_at_call 57; fail)
 refine (HKD.out _).mono ?_
 rintro e w3 ⟨rfl, hu3⟩
 have HX3 := Lib.hid ((hu3.block _ (lt_of_heap HX2.out) (fun e => e)).trans HX2.out)
 have HOWM := Lib.hid ((HOW0.out.keptF hu3 (fun _ _ e => e)).mono HBW.out)
 have HOW0 := Lib.hid (show ∀ W : World, Upd (fun _ => False) w3 W → OwnB W Bz (.slice oa b.length oc) (bs.take 500) from fun W hu => by rw [← HBB.out]; exact HOWM.out.keptF hu (fun _ _ e => e))
 have HOW := Lib.hid (OwnB.owC HOWM.out (hi := w3.heap.size) (fun k hk => (HOWM.out.lt k hk).2))
 have HU3 := Lib.hid (HU2.out.trans hu3)
 have HMO := Lib.hid (HH.out w3 (HU2.out.trans hu3)).mem.md.on
 clear hu3 c0 c1 c2 c3 HX2 HU2 HU1 HKD HOWM
 simp only []
 go_upto_block 0 with fail
 go_cut [1, 11, 12] from 29 to 107 (fun v1 v11 v12 wx => ∃ E : Int, v11 = .int .i64 E ∧ v12 = .int .i64 E ∧ DdA w0 wx d o m v1 (t + 1) Bz w3.heap.size ∧ OwC Bz w3.heap.size b.length oa wx)
 case first =>
  have hkc : kd ≤ 4 ∨ kd = 5 ∨ kd = 6 ∨ kd = 7 ∨ kd = 8 ∨ kd = 9 ∨ kd = 10 ∨ kd = 11 := by have := HKR.out; omega
  rcases hkc with hk4 | rfl | rfl | rfl | rfl | rfl | rfl | rfl
  ·have e5 : (kd == 5) = false := by simp; omega
   have e6 : (kd == 6) = false := by simp; omega
   have e7 : (kd == 7) = false := by simp; omega
   have e8 : (kd == 8) = false := by simp; omega
   have e9 : (kd == 9) = false := by simp; omega
   have e10 : (kd == 10) = false := by simp; omega
   have e11 : (kd == 11) = false := by simp; omega
   clear hk4
   go_upto_region 4 with fail
   have hud : Upd (fun _ => False) w3 w3.drew := (Upd.refl _ w3).drew
   have hch := (HH.out w3.drew (HU3.out.trans hud)).app ht (HOW0.out _ hud) HDD.out
   unfold Ch3 deedV at hch
   try dsimp only at hch
   have HCH := Lib.hid hch
   have hA : w3.drew.heap[ob]? = some (.cells #[.int .i64 x.k, .int .i64 x.n, .slice x.ba x.bn x.bc, .slice x.ka x.kn x.kc] 42 (0, 0)) := HX3.out
   have HU0 := Lib.hid (show Upd (fun k => k < Bz) w3 w3.drew from hud.mono (fun _ _ e => e.elim)); have HSZ := Lib.hid hud.size
   clear hch hud
   refine wp_region_G 7 (fun W => W.heap[ob]? = some (.cells #[.int .i64 x.k, .int .i64 x.n, .slice x.ba x.bn x.bc, .slice x.ka x.kn x.kc] 42 (0, 0))) [false, false, false, false, false, false, false, false, false] rfl (by kernel_rfl) ?_
   generalize w3.drew = wd at hA HCH HU0 HSZ ⊢
   refine wpG_takeP (i := 0) (v := wv) rfl (by kernel_rfl) (fun _ _ _ h => h) hA (.inl ⟨rfl, fun w5 q1 => ?_⟩) ?_
   ·go_simp
   simp only [Act.put, List.setIfInBounds_toArray, List.set]
   refine wpG_takeP (i := 1) (v := .slice oa b.length oc) rfl (by kernel_rfl) (fun _ _ _ h => h) hA (.inl ⟨rfl, fun w5 q1 => ?_⟩) ?_
   ·go_simp
   simp only [Act.put, List.setIfInBounds_toArray, List.set]
   refine wpG_takeP (i := 3) (v := .pointer (some ⟨m, 0, none⟩)) rfl (by kernel_rfl) (fun _ _ _ h => h) hA (.inl ⟨rfl, fun w5 q1 => ?_⟩) ?_
   ·go_simp
   simp only [Act.put, List.setIfInBounds_toArray, List.set]
   refine wpG_takeT (i := 4) (v := .agg #[.int .i64 x.k, .int .i64 x.n, .slice x.ba x.bn x.bc, .slice x.ka x.kn x.kc]) rfl (fun L hc h => (hc.waits (n := 7) (i := 6) (by kernel_rfl) (hc.waits (n := 6) (i := 5) (by kernel_rfl) (hc.waits (n := 5) (i := 4) (by kernel_rfl) h)))) (by kernel_rfl) (fun _ _ _ h => h) hA (.inl ⟨rfl, fun w5 q1 => ?_⟩) ?_
   ·obtain ⟨c0, c1, c2, c3⟩ := cells4_of q1
    go_simp
   simp only [Act.put, List.setIfInBounds_toArray, List.set]
   refine wpG_doIf (i := 2) rfl (by kernel_rfl) rfl (fun K hK => ?_)
   have HKK := Lib.hid hK
   clear hK
   go_step
   refine (HCH.out).mono ?_
   rintro e wd1 ⟨E, rfl, u1, hch⟩
   have hA1 := (u1.block _ (lt_of_heap hA) (fun e => by have := HOB.out; omega)).trans hA
   have HU1 := Lib.hid (HU0.out.trans u1)
   have HCH := Lib.hid hch
   clear hch u1
   simp only []
   refine HKK.out _ _ hA1 ?_
   clear HKK
   simp only [Act.put, List.setIfInBounds_toArray, List.set]
   refine wpG_doIf (i := 5) rfl (by kernel_rfl) rfl (fun K hK => ?_)
   have HKK := Lib.hid hK
   clear hK
   go_step
   refine (HCH.out).mono ?_
   rintro e wd2 ⟨u, rfl, u1, hch⟩
   have hA2 := (u1.block _ (lt_of_heap hA1) (fun e => by have := HOB.out; omega)).trans hA1
   have HU2 := Lib.hid (HU1.out.trans u1)
   have HCH := Lib.hid hch
   clear hch u1
   simp only []
   refine HKK.out _ _ hA2 ?_
   clear HKK
   simp only [Act.put, List.setIfInBounds_toArray, List.set]
   refine wpG_doIf (i := 6) rfl (by kernel_rfl) rfl (fun K hK => ?_)
   have HKK := Lib.hid hK
   clear hK
   go_step
   refine (HCH.out).mono ?_
   rintro e wd3 ⟨rfl, u1, hst⟩
   have hA3 := (u1.block _ (lt_of_heap hA2) (fun e => by have := HOB.out; omega)).trans hA2
   have HU3 := Lib.hid (HU2.out.trans u1)
   have HST := Lib.hid hst
   clear hst u1
   simp only []
   refine HKK.out _ _ hA3 ?_
   clear HKK
   simp only [Act.put, List.setIfInBounds_toArray, List.set]
   refine wpG_tail_lit (k := 7) rfl rfl (by kernel_rfl) ?_
   simp only [List.drop]
   clear hA hA1 hA2 hA3
   go_wp2
   go_meet
   case rel => exact ⟨E, rfl, rfl, HST.out.low HSZ.out, HOW.out.kept HU3.out (fun k hk => hk)⟩
  ·skip
   go_upto_region 7 with fail
   have hud : Upd (fun _ => False) w3 w3.drew := (Upd.refl _ w3).drew
   have hch := (HH.out w3.drew (HU3.out.trans hud)).cp ht (HOW0.out _ hud) HDD.out
   unfold Ch3 deedV at hch
   try dsimp only at hch
   have HCH := Lib.hid hch
   have hA : w3.drew.heap[ob]? = some (.cells #[.int .i64 x.k, .int .i64 x.n, .slice x.ba x.bn x.bc, .slice x.ka x.kn x.kc] 42 (0, 0)) := HX3.out
   have HU0 := Lib.hid (show Upd (fun k => k < Bz) w3 w3.drew from hud.mono (fun _ _ e => e.elim)); have HSZ := Lib.hid hud.size
   clear hch hud
   refine wp_region_G 7 (fun W => W.heap[ob]? = some (.cells #[.int .i64 x.k, .int .i64 x.n, .slice x.ba x.bn x.bc, .slice x.ka x.kn x.kc] 42 (0, 0))) [false, false, false, false, false, false, false, false, false] rfl (by kernel_rfl) ?_
   generalize w3.drew = wd at hA HCH HU0 HSZ ⊢
   refine wpG_takeP (i := 0) (v := wv) rfl (by kernel_rfl) (fun _ _ _ h => h) hA (.inl ⟨rfl, fun w5 q1 => ?_⟩) ?_
   ·go_simp
   simp only [Act.put, List.setIfInBounds_toArray, List.set]
   refine wpG_takeP (i := 1) (v := .slice oa b.length oc) rfl (by kernel_rfl) (fun _ _ _ h => h) hA (.inl ⟨rfl, fun w5 q1 => ?_⟩) ?_
   ·go_simp
   simp only [Act.put, List.setIfInBounds_toArray, List.set]
   refine wpG_takeP (i := 3) (v := .pointer (some ⟨m, 0, none⟩)) rfl (by kernel_rfl) (fun _ _ _ h => h) hA (.inl ⟨rfl, fun w5 q1 => ?_⟩) ?_
   ·go_simp
   simp only [Act.put, List.setIfInBounds_toArray, List.set]
   refine wpG_takeT (i := 4) (v := .agg #[.int .i64 x.k, .int .i64 x.n, .slice x.ba x.bn x.bc, .slice x.ka x.kn x.kc]) rfl (fun L hc h => (hc.waits (n := 7) (i := 6) (by kernel_rfl) (hc.waits (n := 6) (i := 5) (by kernel_rfl) (hc.waits (n := 5) (i := 4) (by kernel_rfl) h)))) (by kernel_rfl) (fun _ _ _ h => h) hA (.inl ⟨rfl, fun w5 q1 => ?_⟩) ?_
   ·obtain ⟨c0, c1, c2, c3⟩ := cells4_of q1
    go_simp
   simp only [Act.put, List.setIfInBounds_toArray, List.set]
   refine wpG_doIf (i := 2) rfl (by kernel_rfl) rfl (fun K hK => ?_)
   have HKK := Lib.hid hK
   clear hK
   go_step
   refine (HCH.out).mono ?_
   rintro e wd1 ⟨E, rfl, u1, hch⟩
   have hA1 := (u1.block _ (lt_of_heap hA) (fun e => by have := HOB.out; omega)).trans hA
   have HU1 := Lib.hid (HU0.out.trans u1)
   have HCH := Lib.hid hch
   clear hch u1
   simp only []
   refine HKK.out _ _ hA1 ?_
   clear HKK
   simp only [Act.put, List.setIfInBounds_toArray, List.set]
   refine wpG_doIf (i := 5) rfl (by kernel_rfl) rfl (fun K hK => ?_)
   have HKK := Lib.hid hK
   clear hK
   go_step
   refine (HCH.out).mono ?_
   rintro e wd2 ⟨u, rfl, u1, hch⟩
   have hA2 := (u1.block _ (lt_of_heap hA1) (fun e => by have := HOB.out; omega)).trans hA1
   have HU2 := Lib.hid (HU1.out.trans u1)
   have HCH := Lib.hid hch
   clear hch u1
   simp only []
   refine HKK.out _ _ hA2 ?_
   clear HKK
   simp only [Act.put, List.setIfInBounds_toArray, List.set]
   refine wpG_doIf (i := 6) rfl (by kernel_rfl) rfl (fun K hK => ?_)
   have HKK := Lib.hid hK
   clear hK
   go_step
   refine (HCH.out).mono ?_
   rintro e wd3 ⟨rfl, u1, hst⟩
   have hA3 := (u1.block _ (lt_of_heap hA2) (fun e => by have := HOB.out; omega)).trans hA2
   have HU3 := Lib.hid (HU2.out.trans u1)
   have HST := Lib.hid hst
   clear hst u1
   simp only []
   refine HKK.out _ _ hA3 ?_
   clear HKK
   simp only [Act.put, List.setIfInBounds_toArray, List.set]
   refine wpG_tail_lit (k := 7) rfl rfl (by kernel_rfl) ?_
   simp only [List.drop]
   clear hA hA1 hA2 hA3
   go_wp2
   go_meet
   case rel => exact ⟨E, rfl, rfl, HST.out.low HSZ.out, HOW.out.kept HU3.out (fun k hk => hk)⟩
  ·skip
   go_upto_region 7 with fail
   have hud : Upd (fun _ => False) w3 w3.drew := (Upd.refl _ w3).drew
   have hch := (HH.out w3.drew (HU3.out.trans hud)).cp ht (HOW0.out _ hud) HDD.out
   unfold Ch3 deedV at hch
   try dsimp only at hch
   have HCH := Lib.hid hch
   have hA : w3.drew.heap[ob]? = some (.cells #[.int .i64 x.k, .int .i64 x.n, .slice x.ba x.bn x.bc, .slice x.ka x.kn x.kc] 42 (0, 0)) := HX3.out
   have HU0 := Lib.hid (show Upd (fun k => k < Bz) w3 w3.drew from hud.mono (fun _ _ e => e.elim)); have HSZ := Lib.hid hud.size
   clear hch hud
   refine wp_region_G 7 (fun W => W.heap[ob]? = some (.cells #[.int .i64 x.k, .int .i64 x.n, .slice x.ba x.bn x.bc, .slice x.ka x.kn x.kc] 42 (0, 0))) [false, false, false, false, false, false, false, false, false] rfl (by kernel_rfl) ?_
   generalize w3.drew = wd at hA HCH HU0 HSZ ⊢
   refine wpG_takeP (i := 0) (v := wv) rfl (by kernel_rfl) (fun _ _ _ h => h) hA (.inl ⟨rfl, fun w5 q1 => ?_⟩) ?_
   ·go_simp
   simp only [Act.put, List.setIfInBounds_toArray, List.set]
   refine wpG_takeP (i := 1) (v := .slice oa b.length oc) rfl (by kernel_rfl) (fun _ _ _ h => h) hA (.inl ⟨rfl, fun w5 q1 => ?_⟩) ?_
   ·go_simp
   simp only [Act.put, List.setIfInBounds_toArray, List.set]
   refine wpG_takeP (i := 3) (v := .pointer (some ⟨m, 0, none⟩)) rfl (by kernel_rfl) (fun _ _ _ h => h) hA (.inl ⟨rfl, fun w5 q1 => ?_⟩) ?_
   ·go_simp
   simp only [Act.put, List.setIfInBounds_toArray, List.set]
   refine wpG_takeT (i := 4) (v := .agg #[.int .i64 x.k, .int .i64 x.n, .slice x.ba x.bn x.bc, .slice x.ka x.kn x.kc]) rfl (fun L hc h => (hc.waits (n := 7) (i := 6) (by kernel_rfl) (hc.waits (n := 6) (i := 5) (by kernel_rfl) (hc.waits (n := 5) (i := 4) (by kernel_rfl) h)))) (by kernel_rfl) (fun _ _ _ h => h) hA (.inl ⟨rfl, fun w5 q1 => ?_⟩) ?_
   ·obtain ⟨c0, c1, c2, c3⟩ := cells4_of q1
    go_simp
   simp only [Act.put, List.setIfInBounds_toArray, List.set]
   refine wpG_doIf (i := 2) rfl (by kernel_rfl) rfl (fun K hK => ?_)
   have HKK := Lib.hid hK
   clear hK
   go_step
   refine (HCH.out).mono ?_
   rintro e wd1 ⟨E, rfl, u1, hch⟩
   have hA1 := (u1.block _ (lt_of_heap hA) (fun e => by have := HOB.out; omega)).trans hA
   have HU1 := Lib.hid (HU0.out.trans u1)
   have HCH := Lib.hid hch
   clear hch u1
   simp only []
   refine HKK.out _ _ hA1 ?_
   clear HKK
   simp only [Act.put, List.setIfInBounds_toArray, List.set]
   refine wpG_doIf (i := 5) rfl (by kernel_rfl) rfl (fun K hK => ?_)
   have HKK := Lib.hid hK
   clear hK
   go_step
   refine (HCH.out).mono ?_
   rintro e wd2 ⟨u, rfl, u1, hch⟩
   have hA2 := (u1.block _ (lt_of_heap hA1) (fun e => by have := HOB.out; omega)).trans hA1
   have HU2 := Lib.hid (HU1.out.trans u1)
   have HCH := Lib.hid hch
   clear hch u1
   simp only []
   refine HKK.out _ _ hA2 ?_
   clear HKK
   simp only [Act.put, List.setIfInBounds_toArray, List.set]
   refine wpG_doIf (i := 6) rfl (by kernel_rfl) rfl (fun K hK => ?_)
   have HKK := Lib.hid hK
   clear hK
   go_step
   refine (HCH.out).mono ?_
   rintro e wd3 ⟨rfl, u1, hst⟩
   have hA3 := (u1.block _ (lt_of_heap hA2) (fun e => by have := HOB.out; omega)).trans hA2
   have HU3 := Lib.hid (HU2.out.trans u1)
   have HST := Lib.hid hst
   clear hst u1
   simp only []
   refine HKK.out _ _ hA3 ?_
   clear HKK
   simp only [Act.put, List.setIfInBounds_toArray, List.set]
   refine wpG_tail_lit (k := 7) rfl rfl (by kernel_rfl) ?_
   simp only [List.drop]
   clear hA hA1 hA2 hA3
   go_wp2
   go_meet
   case rel => exact ⟨E, rfl, rfl, HST.out.low HSZ.out, HOW.out.kept HU3.out (fun k hk => hk)⟩
  ·skip
   go_upto_region 9 with fail
   have hud : Upd (fun _ => False) w3 w3.drew := (Upd.refl _ w3).drew
   have hch := (HH.out w3.drew (HU3.out.trans hud)).two (fun p F w k => doArm_any x.n w k) (doArm_ok (HH.out _ (HU3.out.trans hud)).v.ok HDD.out.n64.2) (doArm_leng _ _)
   unfold Ch2 at hch
   try dsimp only at hch
   have HCH := Lib.hid hch
   have hA : w3.drew.heap[ob]? = some (.cells #[.int .i64 x.k, .int .i64 x.n, .slice x.ba x.bn x.bc, .slice x.ka x.kn x.kc] 42 (0, 0)) ∧ MOn w3.drew m o := ⟨HX3.out, HMO.out⟩
   have HU0 := Lib.hid (show Upd (fun k => k < Bz) w3 w3.drew from hud.mono (fun _ _ e => e.elim)); have HSZ := Lib.hid hud.size
   clear hch hud
   refine wp_region_G 11 (fun W => W.heap[ob]? = some (.cells #[.int .i64 x.k, .int .i64 x.n, .slice x.ba x.bn x.bc, .slice x.ka x.kn x.kc] 42 (0, 0)) ∧ MOn W m o) [false, false, false, false, false, false, false, false, false, false, false, false, false] rfl (by kernel_rfl) ?_
   generalize w3.drew = wd at hA HCH HU0 HSZ ⊢
   refine wpG_takeP (i := 0) (v := .pointer (some ⟨d, 0, none⟩)) rfl (by kernel_rfl) (fun _ _ _ h => h) hA (.inl ⟨rfl, fun w5 q1 => ?_⟩) ?_
   ·go_simp
   simp only [Act.put, List.setIfInBounds_toArray, List.set]
   refine wpG_takeP (i := 1) (v := .pointer (some ⟨ob, 1, none⟩)) rfl (by kernel_rfl) (fun _ _ _ h => h) hA (.inl ⟨rfl, fun w5 q1 => ?_⟩) ?_
   ·go_simp
   simp only [Act.put, List.setIfInBounds_toArray, List.set]
   refine wpG_takeT (i := 2) (v := .int .i64 x.n) rfl (fun L hc h => (hc.waits (n := 11) (i := 2) (by kernel_rfl) h)) (by kernel_rfl) (fun _ _ _ h => h) hA (.inl ⟨rfl, fun w5 q1 => ?_⟩) ?_
   ·obtain ⟨c0, c1, c2, c3⟩ := cells4_of q1.1
    go_simp
   simp only [Act.put, List.setIfInBounds_toArray, List.set]
   refine wpG_takeP (i := 4) (v := .pointer (some ⟨m, 0, none⟩)) rfl (by kernel_rfl) (fun _ _ _ h => h) hA (.inl ⟨rfl, fun w5 q1 => ?_⟩) ?_
   ·go_simp
   simp only [Act.put, List.setIfInBounds_toArray, List.set]
   refine wpG_takeP (i := 5) (v := .pointer (some ⟨m, 0, none⟩)) rfl (by kernel_rfl) (fun _ _ _ h => h) hA (.inl ⟨rfl, fun w5 q1 => ?_⟩) ?_
   ·go_simp
   simp only [Act.put, List.setIfInBounds_toArray, List.set]
   refine wpG_takeP (i := 6) (v := .pointer (some ⟨m, 0, none⟩)) rfl (by kernel_rfl) (fun _ _ _ h => h) hA (.inl ⟨rfl, fun w5 q1 => ?_⟩) ?_
   ·go_simp
   simp only [Act.put, List.setIfInBounds_toArray, List.set]
   refine wpG_takeT (i := 7) (v := .pointer (some ⟨o, 0, none⟩)) rfl (fun L hc h => (hc.waits (n := 11) (i := 10) (by kernel_rfl) (hc.waits (n := 10) (i := 7) (by kernel_rfl) h))) (by kernel_rfl) (fun _ _ _ h => h) hA (.inl ⟨rfl, fun w5 q1 => ?_⟩) ?_
   ·obtain ⟨x1, x2, x3, x4, x5, x6, x7, x8, hx⟩ := q1.2
    obtain ⟨c0, c1, c2, c3, c4, c5, c6, c7, c8⟩ := cells9_of hx
    go_simp
   simp only [Act.put, List.setIfInBounds_toArray, List.set]
   refine wpG_takeP (i := 8) (v := .pointer (some ⟨ob, 1, none⟩)) rfl (by kernel_rfl) (fun _ _ _ h => h) hA (.inl ⟨rfl, fun w5 q1 => ?_⟩) ?_
   ·go_simp
   simp only [Act.put, List.setIfInBounds_toArray, List.set]
   refine wpG_takeT (i := 9) (v := .int .i64 x.n) rfl (fun L hc h => (hc.waits (n := 11) (i := 10) (by kernel_rfl) (hc.waits (n := 10) (i := 9) (by kernel_rfl) h))) (by kernel_rfl) (fun _ _ _ h => h) hA (.inl ⟨rfl, fun w5 q1 => ?_⟩) ?_
   ·obtain ⟨c0, c1, c2, c3⟩ := cells4_of q1.1
    go_simp
   simp only [Act.put, List.setIfInBounds_toArray, List.set]
   refine wpG_doIf (i := 3) rfl (by kernel_rfl) rfl (fun K hK => ?_)
   have HKK := Lib.hid hK
   clear hK
   go_step
   refine (HCH.out).mono ?_
   rintro e wd1 ⟨E, rfl, u1, hmo, hch⟩
   have hA1 := (⟨(u1.block _ (lt_of_heap hA.1) (fun e => by have := HOB.out; omega)).trans hA.1, hmo⟩ : _ ∧ _)
   have HU1 := Lib.hid (HU0.out.trans u1)
   have HCH := Lib.hid hch
   clear hch u1 hmo
   simp only []
   refine HKK.out _ _ hA1 ?_
   clear HKK
   simp only [Act.put, List.setIfInBounds_toArray, List.set]
   refine wpG_doIf (i := 10) rfl (by kernel_rfl) rfl (fun K hK => ?_)
   have HKK := Lib.hid hK
   clear hK
   go_step
   refine (HCH.out).mono ?_
   rintro e wd2 ⟨rfl, u1, hmo, hst⟩
   have hA2 := (⟨(u1.block _ (lt_of_heap hA1.1) (fun e => by have := HOB.out; omega)).trans hA1.1, hmo⟩ : _ ∧ _)
   have HU2 := Lib.hid (HU1.out.trans u1)
   have HST := Lib.hid hst
   clear hst u1 hmo
   simp only []
   refine HKK.out _ _ hA2 ?_
   clear HKK
   simp only [Act.put, List.setIfInBounds_toArray, List.set]
   refine wpG_tail_lit (k := 11) rfl rfl (by kernel_rfl) ?_
   simp only [List.drop]
   clear hA hA1 hA2
   go_wp2
   go_meet
   case rel => exact ⟨E, rfl, rfl, HST.out.low HSZ.out, HOW.out.kept HU2.out (fun k hk => hk)⟩
  ·skip
   go_upto_region 11 with fail
   have hud : Upd (fun _ => False) w3 w3.drew := (Upd.refl _ w3).drew
   have hch := (HH.out w3.drew (HU3.out.trans hud)).two (fun p F w k => doFail_any x.n w k) (doFail_ok (HH.out _ (HU3.out.trans hud)).v.ok HDD.out.n64.2) (doFail_leng _ _)
   unfold Ch2 at hch
   try dsimp only at hch
   have HCH := Lib.hid hch
   have hA : w3.drew.heap[ob]? = some (.cells #[.int .i64 x.k, .int .i64 x.n, .slice x.ba x.bn x.bc, .slice x.ka x.kn x.kc] 42 (0, 0)) ∧ MOn w3.drew m o := ⟨HX3.out, HMO.out⟩
   have HU0 := Lib.hid (show Upd (fun k => k < Bz) w3 w3.drew from hud.mono (fun _ _ e => e.elim)); have HSZ := Lib.hid hud.size
   clear hch hud
   refine wp_region_G 11 (fun W => W.heap[ob]? = some (.cells #[.int .i64 x.k, .int .i64 x.n, .slice x.ba x.bn x.bc, .slice x.ka x.kn x.kc] 42 (0, 0)) ∧ MOn W m o) [false, false, false, false, false, false, false, false, false, false, false, false, false] rfl (by kernel_rfl) ?_
   generalize w3.drew = wd at hA HCH HU0 HSZ ⊢
   refine wpG_takeP (i := 0) (v := .pointer (some ⟨d, 0, none⟩)) rfl (by kernel_rfl) (fun _ _ _ h => h) hA (.inl ⟨rfl, fun w5 q1 => ?_⟩) ?_
   ·go_simp
   simp only [Act.put, List.setIfInBounds_toArray, List.set]
   refine wpG_takeP (i := 1) (v := .pointer (some ⟨ob, 1, none⟩)) rfl (by kernel_rfl) (fun _ _ _ h => h) hA (.inl ⟨rfl, fun w5 q1 => ?_⟩) ?_
   ·go_simp
   simp only [Act.put, List.setIfInBounds_toArray, List.set]
   refine wpG_takeT (i := 2) (v := .int .i64 x.n) rfl (fun L hc h => (hc.waits (n := 11) (i := 2) (by kernel_rfl) h)) (by kernel_rfl) (fun _ _ _ h => h) hA (.inl ⟨rfl, fun w5 q1 => ?_⟩) ?_
   ·obtain ⟨c0, c1, c2, c3⟩ := cells4_of q1.1
    go_simp
   simp only [Act.put, List.setIfInBounds_toArray, List.set]
   refine wpG_takeP (i := 4) (v := .pointer (some ⟨m, 0, none⟩)) rfl (by kernel_rfl) (fun _ _ _ h => h) hA (.inl ⟨rfl, fun w5 q1 => ?_⟩) ?_
   ·go_simp
   simp only [Act.put, List.setIfInBounds_toArray, List.set]
   refine wpG_takeP (i := 5) (v := .pointer (some ⟨m, 0, none⟩)) rfl (by kernel_rfl) (fun _ _ _ h => h) hA (.inl ⟨rfl, fun w5 q1 => ?_⟩) ?_
   ·go_simp
   simp only [Act.put, List.setIfInBounds_toArray, List.set]
   refine wpG_takeP (i := 6) (v := .pointer (some ⟨m, 0, none⟩)) rfl (by kernel_rfl) (fun _ _ _ h => h) hA (.inl ⟨rfl, fun w5 q1 => ?_⟩) ?_
   ·go_simp
   simp only [Act.put, List.setIfInBounds_toArray, List.set]
   refine wpG_takeT (i := 7) (v := .pointer (some ⟨o, 0, none⟩)) rfl (fun L hc h => (hc.waits (n := 11) (i := 10) (by kernel_rfl) (hc.waits (n := 10) (i := 7) (by kernel_rfl) h))) (by kernel_rfl) (fun _ _ _ h => h) hA (.inl ⟨rfl, fun w5 q1 => ?_⟩) ?_
   ·obtain ⟨x1, x2, x3, x4, x5, x6, x7, x8, hx⟩ := q1.2
    obtain ⟨c0, c1, c2, c3, c4, c5, c6, c7, c8⟩ := cells9_of hx
    go_simp
   simp only [Act.put, List.setIfInBounds_toArray, List.set]
   refine wpG_takeP (i := 8) (v := .pointer (some ⟨ob, 1, none⟩)) rfl (by kernel_rfl) (fun _ _ _ h => h) hA (.inl ⟨rfl, fun w5 q1 => ?_⟩) ?_
   ·go_simp
   simp only [Act.put, List.setIfInBounds_toArray, List.set]
   refine wpG_takeT (i := 9) (v := .int .i64 x.n) rfl (fun L hc h => (hc.waits (n := 11) (i := 10) (by kernel_rfl) (hc.waits (n := 10) (i := 9) (by kernel_rfl) h))) (by kernel_rfl) (fun _ _ _ h => h) hA (.inl ⟨rfl, fun w5 q1 => ?_⟩) ?_
   ·obtain ⟨c0, c1, c2, c3⟩ := cells4_of q1.1
    go_simp
   simp only [Act.put, List.setIfInBounds_toArray, List.set]
   refine wpG_doIf (i := 3) rfl (by kernel_rfl) rfl (fun K hK => ?_)
   have HKK := Lib.hid hK
   clear hK
   go_step
   refine (HCH.out).mono ?_
   rintro e wd1 ⟨E, rfl, u1, hmo, hch⟩
   have hA1 := (⟨(u1.block _ (lt_of_heap hA.1) (fun e => by have := HOB.out; omega)).trans hA.1, hmo⟩ : _ ∧ _)
   have HU1 := Lib.hid (HU0.out.trans u1)
   have HCH := Lib.hid hch
   clear hch u1 hmo
   simp only []
   refine HKK.out _ _ hA1 ?_
   clear HKK
   simp only [Act.put, List.setIfInBounds_toArray, List.set]
   refine wpG_doIf (i := 10) rfl (by kernel_rfl) rfl (fun K hK => ?_)
   have HKK := Lib.hid hK
   clear hK
   go_step
   refine (HCH.out).mono ?_
   rintro e wd2 ⟨rfl, u1, hmo, hst⟩
   have hA2 := (⟨(u1.block _ (lt_of_heap hA1.1) (fun e => by have := HOB.out; omega)).trans hA1.1, hmo⟩ : _ ∧ _)
   have HU2 := Lib.hid (HU1.out.trans u1)
   have HST := Lib.hid hst
   clear hst u1 hmo
   simp only []
   refine HKK.out _ _ hA2 ?_
   clear HKK
   simp only [Act.put, List.setIfInBounds_toArray, List.set]
   refine wpG_tail_lit (k := 11) rfl rfl (by kernel_rfl) ?_
   simp only [List.drop]
   clear hA hA1 hA2
   go_wp2
   go_meet
   case rel => exact ⟨E, rfl, rfl, HST.out.low HSZ.out, HOW.out.kept HU2.out (fun k hk => hk)⟩
  ·skip
   go_upto_region 13 with fail
   have hud : Upd (fun _ => False) w3 w3.drew := (Upd.refl _ w3).drew
   have hch := (HH.out w3.drew (HU3.out.trans hud)).crash ht HDD.out
   unfold Ch4 deedV at hch
   try dsimp only at hch
   have HCH := Lib.hid hch
   have hA : w3.drew.heap[ob]? = some (.cells #[.int .i64 x.k, .int .i64 x.n, .slice x.ba x.bn x.bc, .slice x.ka x.kn x.kc] 42 (0, 0)) ∧ MOn w3.drew m o := ⟨HX3.out, HMO.out⟩
   have HU0 := Lib.hid (show Upd (fun k => k < Bz) w3 w3.drew from hud.mono (fun _ _ e => e.elim)); have HSZ := Lib.hid hud.size
   clear hch hud
   refine wp_region_G 11 (fun W => W.heap[ob]? = some (.cells #[.int .i64 x.k, .int .i64 x.n, .slice x.ba x.bn x.bc, .slice x.ka x.kn x.kc] 42 (0, 0)) ∧ MOn W m o) [false, false, false, false, false, false, false, false, false, false, false, false, false] rfl (by kernel_rfl) ?_
   generalize w3.drew = wd at hA HCH HU0 HSZ ⊢
   refine wpG_takeP (i := 0) (v := .pointer (some ⟨d, 0, none⟩)) rfl (by kernel_rfl) (fun _ _ _ h => h) hA (.inl ⟨rfl, fun w5 q1 => ?_⟩) ?_
   ·go_simp
   simp only [Act.put, List.setIfInBounds_toArray, List.set]
   refine wpG_takeT (i := 1) (v := .agg #[.int .i64 x.k, .int .i64 x.n, .slice x.ba x.bn x.bc, .slice x.ka x.kn x.kc]) rfl (fun L hc h => (hc.waits (n := 11) (i := 1) (by kernel_rfl) h)) (by kernel_rfl) (fun _ _ _ h => h) hA (.inl ⟨rfl, fun w5 q1 => ?_⟩) ?_
   ·obtain ⟨c0, c1, c2, c3⟩ := cells4_of q1.1
    go_simp
   simp only [Act.put, List.setIfInBounds_toArray, List.set]
   refine wpG_takeP (i := 4) (v := .pointer (some ⟨m, 0, none⟩)) rfl (by kernel_rfl) (fun _ _ _ h => h) hA (.inl ⟨rfl, fun w5 q1 => ?_⟩) ?_
   ·go_simp
   simp only [Act.put, List.setIfInBounds_toArray, List.set]
   refine wpG_takeP (i := 5) (v := .pointer (some ⟨m, 0, none⟩)) rfl (by kernel_rfl) (fun _ _ _ h => h) hA (.inl ⟨rfl, fun w5 q1 => ?_⟩) ?_
   ·go_simp
   simp only [Act.put, List.setIfInBounds_toArray, List.set]
   refine wpG_takeP (i := 6) (v := .pointer (some ⟨m, 0, none⟩)) rfl (by kernel_rfl) (fun _ _ _ h => h) hA (.inl ⟨rfl, fun w5 q1 => ?_⟩) ?_
   ·go_simp
   simp only [Act.put, List.setIfInBounds_toArray, List.set]
   refine wpG_takeT (i := 7) (v := .pointer (some ⟨o, 0, none⟩)) rfl (fun L hc h => (hc.waits (n := 11) (i := 10) (by kernel_rfl) (hc.waits (n := 10) (i := 7) (by kernel_rfl) h))) (by kernel_rfl) (fun _ _ _ h => h) hA (.inl ⟨rfl, fun w5 q1 => ?_⟩) ?_
   ·obtain ⟨x1, x2, x3, x4, x5, x6, x7, x8, hx⟩ := q1.2
    obtain ⟨c0, c1, c2, c3, c4, c5, c6, c7, c8⟩ := cells9_of hx
    go_simp
   simp only [Act.put, List.setIfInBounds_toArray, List.set]
   refine wpG_takeT (i := 8) (v := .agg #[.int .i64 x.k, .int .i64 x.n, .slice x.ba x.bn x.bc, .slice x.ka x.kn x.kc]) rfl (fun L hc h => (hc.waits (n := 11) (i := 10) (by kernel_rfl) (hc.waits (n := 10) (i := 9) (by kernel_rfl) (hc.waits (n := 9) (i := 8) (by kernel_rfl) h)))) (by kernel_rfl) (fun _ _ _ h => h) hA (.inl ⟨rfl, fun w5 q1 => ?_⟩) ?_
   ·obtain ⟨c0, c1, c2, c3⟩ := cells4_of q1.1
    go_simp
   simp only [Act.put, List.setIfInBounds_toArray, List.set]
   refine wpG_doIf (i := 2) rfl (by kernel_rfl) rfl (fun K hK => ?_)
   have HKK := Lib.hid hK
   clear hK
   go_step
   refine (HCH.out).mono ?_
   rintro e wd1 ⟨u, rfl, u1, hmo, hch⟩
   have hA1 := (⟨(u1.block _ (lt_of_heap hA.1) (fun e => by have := HOB.out; omega)).trans hA.1, hmo⟩ : _ ∧ _)
   have HU1 := Lib.hid (HU0.out.trans u1)
   have HCH := Lib.hid hch
   clear hch u1 hmo
   simp only []
   refine HKK.out _ _ hA1 ?_
   clear HKK
   simp only [Act.put, List.setIfInBounds_toArray, List.set]
   refine wpG_doIf (i := 3) rfl (by kernel_rfl) rfl (fun K hK => ?_)
   have HKK := Lib.hid hK
   clear hK
   go_step
   refine (HCH.out).mono ?_
   rintro e wd2 ⟨rfl, u1, hmo, hch⟩
   have hA2 := (⟨(u1.block _ (lt_of_heap hA1.1) (fun e => by have := HOB.out; omega)).trans hA1.1, hmo⟩ : _ ∧ _)
   have HU2 := Lib.hid (HU1.out.trans u1)
   have HCH := Lib.hid hch
   clear hch u1 hmo
   simp only []
   refine HKK.out _ _ hA2 ?_
   clear HKK
   simp only [Act.put, List.setIfInBounds_toArray, List.set]
   refine wpG_doIf (i := 9) rfl (by kernel_rfl) rfl (fun K hK => ?_)
   have HKK := Lib.hid hK
   clear hK
   go_step
   refine (HCH.out).mono ?_
   rintro e wd3 ⟨u2, rfl, u1, hmo, hch⟩
   have hA3 := (⟨(u1.block _ (lt_of_heap hA2.1) (fun e => by have := HOB.out; omega)).trans hA2.1, hmo⟩ : _ ∧ _)
   have HU3 := Lib.hid (HU2.out.trans u1)
   have HCH := Lib.hid hch
   clear hch u1 hmo
   simp only []
   refine HKK.out _ _ hA3 ?_
   clear HKK
   simp only [Act.put, List.setIfInBounds_toArray, List.set]
   refine wpG_doIf (i := 10) rfl (by kernel_rfl) rfl (fun K hK => ?_)
   have HKK := Lib.hid hK
   clear hK
   go_step
   refine (HCH.out).mono ?_
   rintro e wd4 ⟨rfl, u1, hmo, hst⟩
   have hA4 := (⟨(u1.block _ (lt_of_heap hA3.1) (fun e => by have := HOB.out; omega)).trans hA3.1, hmo⟩ : _ ∧ _)
   have HU4 := Lib.hid (HU3.out.trans u1)
   have HST := Lib.hid hst
   clear hst u1 hmo
   simp only []
   refine HKK.out _ _ hA4 ?_
   clear HKK
   simp only [Act.put, List.setIfInBounds_toArray, List.set]
   refine wpG_tail_lit (k := 11) rfl rfl (by kernel_rfl) ?_
   simp only [List.drop]
   clear hA hA1 hA2 hA3 hA4
   go_wp2
   go_meet
   case rel => exact ⟨0, rfl, rfl, HST.out.low HSZ.out, HOW.out.kept HU4.out (fun k hk => hk)⟩
  ·skip
   go_upto_region 15 with fail
   have hch := (HH.out w3 HU3.out).open ht
   unfold ChO at hch
   have HCH := Lib.hid hch
   obtain ⟨c0, c1, c2, c3⟩ := cells4_of HX3.out
   clear hch
   go_wp2_with (go_at_call 61; fail)
   refine HCH.out.mono ?_
   rintro e w4 ⟨v, E, rfl, u1, hch⟩
   have HCH := Lib.hid hch; have HU1 := Lib.hid u1
   have hx4 := (u1.block _ (lt_of_heap HX3.out) (fun e => by have := HOB.out; omega)).trans HX3.out
   clear hch u1 c0 c1 c2 c3
   obtain ⟨c0, c1, c2, c3⟩ := cells4_of hx4
   clear hx4
   simp only []
   go_wp2_with (go_at_call 62; fail)
   refine (HCH.out _ (Upd.refl _ _)).mono ?_
   rintro e w5 ⟨rfl, u2, hst⟩
   have HST := Lib.hid hst; have HU2 := Lib.hid (HU1.out.trans u2)
   clear u2 hst c0 c1 c2 c3 HCH HU1
   simp only []
   by_cases hE : E = 0
   ·subst hE
    go_wp2
    go_meet
    case rel => exact ⟨0, rfl, rfl, HST.out, HOW.out.kept HU2.out (fun k hk => hk)⟩
   ·have hE1 : (E == 0) = false := by simpa using hE
    have hst := HST.out
    rw [if_neg hE] at hst
    have HST := Lib.hid hst
    clear hst hE
    go_wp2
    go_meet
    case rel => exact ⟨E, rfl, rfl, HST.out, HOW.out.kept HU2.out (fun k hk => hk)⟩
  ·skip
   go_upto_region 20 with fail
   have hch := (HH.out w3 HU3.out).format x.n ht
   unfold ChO at hch
   have HCH := Lib.hid hch
   obtain ⟨c0, c1, c2, c3⟩ := cells4_of HX3.out
   clear hch
   go_wp2_with (go_at_call 41; fail)
   refine HCH.out.mono ?_
   rintro e w4 ⟨v, E, rfl, u1, hch⟩
   have HCH := Lib.hid hch; have HU1 := Lib.hid u1
   have hx4 := (u1.block _ (lt_of_heap HX3.out) (fun e => by have := HOB.out; omega)).trans HX3.out
   clear hch u1 c0 c1 c2 c3
   obtain ⟨c0, c1, c2, c3⟩ := cells4_of hx4
   clear hx4
   simp only []
   go_wp2_with (go_at_call 63; fail)
   refine (HCH.out _ (Upd.refl _ _)).mono ?_
   rintro e w5 ⟨rfl, u2, hst⟩
   have HST := Lib.hid hst; have HU2 := Lib.hid (HU1.out.trans u2)
   clear u2 hst c0 c1 c2 c3 HCH HU1
   simp only []
   by_cases hE : E = 0
   ·subst hE
    go_wp2
    go_meet
    case rel => exact ⟨0, rfl, rfl, HST.out, HOW.out.kept HU2.out (fun k hk => hk)⟩
   ·have hE1 : (E == 0) = false := by simpa using hE
    have hst := HST.out
    rw [if_neg hE] at hst
    have HST := Lib.hid hst
    clear hst hE
    go_wp2
    go_meet
    case rel => exact ⟨E, rfl, rfl, HST.out, HOW.out.kept HU2.out (fun k hk => hk)⟩
 case rest =>
  obtain ⟨E, rfl, rfl, hst, how⟩ := hcut
  have HST := Lib.hid hst; have HOW := Lib.hid how
  obtain ⟨nb, hnb⟩ : ∃ nb, nb = b.length := ⟨_, rfl⟩
  have hbl := HBL.out
  rw [← hnb] at how hbl ⊢
  have HOW := Lib.hid how; have HBL := Lib.hid hbl
  clear hst how hbl hnb
  go_upto_block 1 with fail
  go_upto_region 25 with fail
  go_loopg [110] nb (fun gk i wr => ∃ k : Nat, k ≤ nb ∧ gk = nb - k ∧ i = .int .i64 k ∧ OwC Bz w3.heap.size nb oa wr ∧ Upd (fun k => Bz ≤ k ∧ k < w3.heap.size) wc wr)
  case atStart => exact ⟨0, Nat.zero_le _, rfl, rfl, HOW.out, Upd.refl _ _⟩
  case round =>
   obtain ⟨k, hk, rfl, rfl, hck, huk⟩ := hrel
   have HCK := Lib.hid hck; have HUK := Lib.hid huk
   clear huk
   by_cases hkn : k < nb
   ·have hkni : (k : Int) < nb := by omega
    obtain ⟨g, rfl, hgl, hgh, ⟨cs, hgs⟩, hc⟩ : ∃ g, oa = some ⟨g, 0, none⟩ ∧ Bz ≤ g ∧ g < w3.heap.size ∧ (∃ cs, wr.heap[g]? = some (.cells cs 5 (0, 0))) ∧ ∀ j, j < nb → ∃ v, wr.cell? ⟨g, j, none⟩ = some (.int .u8 v) := by
     rcases hck with e | h
     ·omega
     ·exact h
    obtain ⟨v, hv⟩ := hc k hkn
    have hf : wr.frozen? ⟨g, k, none⟩ = false := frozen_of_heap hgs
    have hcv3 : IntKind.i64.wrap ((k : Int) + 1) = (k : Int) + 1 := by rw [IntKind.wrap_i64]; have := HBL.out; omega
    have HG := Lib.hid (And.intro hgl hgh); have HVV := Lib.hid hv
    clear hc hgs hck hgl hgh
    go_wp2
    go_roundg (nb - (k + 1))
    case measure => omega
    case rel => exact ⟨k + 1, by omega, rfl, congrArg _ (by omega), HCK.out.put HVV.out, HUK.out.trans ((upd_own wr g k _).mono (F := fun k => k = g) (fun _ _ e => e ▸ HG.out))⟩
   ·obtain rfl : k = nb := by omega
    clear hck
    go_wp2
    go_returns
    exact ⟨_, by simp, HST.out.kept HW0.out HUK.out⟩
theorem eql_ptr (d : Nat) (w : World) : (binOp .eql 25 (.pointer (some ⟨d, 0, none⟩)) (.pointer (some ⟨d, 0, none⟩))).run Tryz.prog w = .ok (.bool true) w := by
 have h : (Tryz.prog.info? 122).isSome = true := by kernel_rfl
 obtain ⟨j, hj⟩ := Option.isSome_iff_exists.1 h
 exact run_eql_ptr_same (te := 122) (j := j) w ⟨d, 0, none⟩ (by kernel_rfl) hj
theorem updN (w : World) (q : Nat) : Upd (fun _ => False) w (w.drewN q) := by
 induction q with
 |zero => exact Upd.refl _ _
 |succ q ih => exact ih.drew
theorem equal_own {w : World} {B B' : Nat} {u v : Value} {xs ys : List Int} (hu : w.ownsRow B 3 1 u xs.length (xs.map (Value.int .i64))) (hv : w.ownsRow B' 3 1 v ys.length (ys.map (Value.int .i64))) :
  Calls Tryz.prog 67 #[u, v] w fun e w' => e = .returned (.bool (xs == ys)) ∧ Upd (fun _ => False) w w' := by
 have form : ∀ {B : Nat} {u : Value} {xs : List Int}, w.ownsRow B 3 1 u xs.length (xs.map (Value.int .i64)) → (∃ a c, u = .slice a xs.length c) ∧ xs.length ≤ 9223372036854775807 ∧ (xs ≠ [] → ∃ g c, u = .slice (some ⟨g, 0, none⟩) xs.length c ∧ ∀ j, j < xs.length → w.cell? ⟨g, 0 + j, none⟩ = some (.int .i64 (xs.getD j 0))) := by
  intro B u xs h
  rcases h.2 with ⟨h1, h2⟩ | ⟨g, cap, cur, h1, h2, h3, h4, h5, h6⟩
  ·refine ⟨⟨none, 0, by rw [h1, h2]⟩, by omega, fun hne => ?_⟩
   exact absurd (List.length_eq_zero_iff.1 h2) hne
  ·refine ⟨⟨_, _, h1⟩, by unfold maxLen at h5; omega, fun _ => ⟨g, cap, h1, fun j hj => ?_⟩⟩
   subst h1
   rw [Nat.zero_add, h.cellAt j (by omega)]
   simp [List.getD_eq_getElem?_getD, hj]
 obtain ⟨⟨a1, c1, e1⟩, hb1, hc1⟩ := form hu
 obtain ⟨⟨a2, c2, e2⟩, hb2, hc2⟩ := form hv
 by_cases hx : xs = []
 ·subst hx
  subst e1 e2
  refine (Tryz.slices_Equal_int_empty a1 a2 c1 ys.length c2 w hb2).mono ?_
  rintro e w' ⟨rfl, rfl⟩
  refine ⟨?_, Upd.refl _ _⟩
  cases ys <;> simp
 ·by_cases hy : ys = []
  ·subst hy
   subst e1 e2
   refine (Tryz.slices_Equal_int_lens a1 a2 xs.length c1 0 c2 w (by rw [ne_eq, List.length_eq_zero_iff]; exact hx)).mono ?_
   rintro e w' ⟨rfl, rfl⟩
   refine ⟨?_, Upd.refl _ _⟩
   cases xs with
   |nil => exact absurd rfl hx
   |cons x xs => simp
  ·obtain ⟨g1, d1, f1, k1⟩ := hc1 hx
   obtain ⟨g2, d2, f2, k2⟩ := hc2 hy
   rw [f1, f2]
   refine (Tryz.slices_Equal_int g1 0 xs.length d1 g2 0 ys.length d2 xs ys w (Nat.le_refl _) (Nat.le_refl _) hb1 hb2 k1 k2).mono ?_
   rintro e w' ⟨rfl, q, rfl⟩
   exact ⟨by simp, updN w q⟩
theorem ops_u {p : Nat} {D : Dk} {F : Nat → Prop} (w : World) (h : Dsk w p D F) : Calls Tryz.prog 65 #[.pointer (some ⟨p, 0, none⟩)] w fun e w' => e = .returned (.int .i64 D.ops) ∧ Upd (fun _ => False) w w' :=
 (ops_any w h).mono fun e w' ⟨h1, h2⟩ => ⟨h1, h2 ▸ Upd.refl _ _⟩
theorem dead_u {p : Nat} {D : Dk} {F : Nat → Prop} (w : World) (h : Dsk w p D F) : Calls Tryz.prog 66 #[.pointer (some ⟨p, 0, none⟩)] w fun e w' => e = .returned (.bool D.dead) ∧ Upd (fun _ => False) w w' :=
 (dead_any w h).mono fun e w' ⟨h1, h2⟩ => ⟨h1, h2 ▸ Upd.refl _ _⟩
theorem pend_u {p : Nat} {D : Dk} {F : Nat → Prop} (w : World) (h : Dsk w p D F) (hok : D.Ok 1099511627774) : Calls Tryz.prog 68 #[.pointer (some ⟨p, 0, none⟩)] w fun e w' => ∃ u, e = .returned u ∧ w'.ownsRow w.heap.size 3 1 u (D.row.map fun x => (x.1 : Int)).length ((D.row.map fun x => (x.1 : Int)).map (Value.int .i64)) ∧ Upd (fun _ => False) w w' :=
 (pending_any w h hok).mono fun e w' ⟨u, h1, h2, h3⟩ => ⟨u, h1, by simpa [List.map_map, Function.comp_def] using h2, h3⟩
theorem disk_w {q p : Nat} {X : Lg} {G : Nat → Prop} (w : World) (h : Log w q p X G) :
  Calls Tryz.prog 75 #[.pointer (some ⟨q, 0, none⟩)] w fun e w' => e = .returned (.pointer (some ⟨p, 0, none⟩)) ∧ Upd (fun _ => False) w w' := by
 obtain ⟨PV, vs, h1, _⟩ := h
 obtain ⟨c0, c1, c2, c3, c4, c5, c6, c7⟩ := cells8_of h1.main
 clear h1
 go_enter Tryz.func75, Tryz.ntmps75
 go_wp2
 go_ret
 exact ⟨rfl, Upd.refl _ w⟩
theorem wsaid_any {w0 : World} {d o m t : Nat} {wv : Value} (w : World) (h : DdSt w0 w d o m wv t) (ht : t ≤ 900) :
  Calls Tryz.prog 15 #[.pointer (some ⟨m, 0, none⟩), wv, .pointer (some ⟨d, 0, none⟩)] w fun e w' => e = .returned (.bool true) ∧ Upd (fun _ => False) w w' := by
 obtain ⟨D, X, no, G, F, F2, C, hM, hV, _, _⟩ := h
 have hok : D.Ok 1099511627774 := hV.ok.mono (by omega)
 obtain ⟨⟨pa, pc, aa, an, ac, hm, hp, hpc, hpm, hpn⟩, hcm⟩ := hM.md
 obtain ⟨n1, hn1⟩ : ∃ n1, n1 = X.parts.length := ⟨_, rfl⟩
 rw [← hn1, mdc_lit] at hm
 have HM := Lib.hid hm; have HD1 := Lib.hid hM.d1; have HD2 := Lib.hid hM.d2; have HOK := Lib.hid hok; have HMM := Lib.hid hM; have HV := Lib.hid hV; have HP := Lib.hid hp; have HN1 := Lib.hid hn1
 clear hM hV hok hm hp hpc hpm hpn hcm hn1
 go_enter Tryz.func15, Tryz.ntmps15
 go_upto_region 1 with fail
 have hA : Upd (fun _ => False) w w.drew := (Upd.refl _ w).drew
 refine wp_region_G 28 (fun W => Upd (fun _ => False) w W) [false, false, false, false, false, false, false, false, false, false, false, false, false, false, false, false, false, false, false, false, false, false, false, false, false, false, false, false, false] rfl (by kernel_rfl) ?_
 generalize w.drew = wd at hA ⊢
 refine wpG_takeP (i := 0) (v := .pointer (some ⟨d, 0, none⟩)) rfl (by kernel_rfl) (fun _ _ _ h => h) hA (.inl ⟨rfl, fun w5 q1 => ?_⟩) ?_
 ·go_simp
 simp only [Act.put, List.setIfInBounds_toArray, List.set]
 refine wpG_takeP (i := 2) (v := .pointer (some ⟨m, 0, none⟩)) rfl (by kernel_rfl) (fun _ _ _ h => h) hA (.inl ⟨rfl, fun w5 q1 => ?_⟩) ?_
 ·go_simp
 simp only [Act.put, List.setIfInBounds_toArray, List.set]
 refine wpG_takeP (i := 3) (v := .pointer (some ⟨m, 0, none⟩)) rfl (by kernel_rfl) (fun _ _ _ h => h) hA (.inl ⟨rfl, fun w5 q1 => ?_⟩) ?_
 ·go_simp
 simp only [Act.put, List.setIfInBounds_toArray, List.set]
 refine wpG_takeP (i := 4) (v := .pointer (some ⟨m, 0, none⟩)) rfl (by kernel_rfl) (fun _ _ _ h => h) hA (.inl ⟨rfl, fun w5 q1 => ?_⟩) ?_
 ·go_simp
 simp only [Act.put, List.setIfInBounds_toArray, List.set]
 refine wpG_takeT (i := 5) (v := .pointer (some ⟨o, 0, none⟩)) rfl (fun L hc h => (hc.waits (n := 28) (i := 18) (by kernel_rfl) (hc.waits (n := 18) (i := 17) (by kernel_rfl) (hc.waits (n := 17) (i := 8) (by kernel_rfl) (hc.waits (n := 8) (i := 6) (by kernel_rfl) (hc.waits (n := 6) (i := 5) (by kernel_rfl) h)))))) (by kernel_rfl) (fun _ _ _ h => h) hA (.inl ⟨rfl, fun w5 q1 => ?_⟩) ?_
 ·obtain ⟨c0, c1, c2, c3, c4, c5, c6, c7, c8⟩ := cells9_of ((q1.block _ (lt_of_heap HM.out) (fun e => e)).trans HM.out)
  go_simp
 simp only [Act.put, List.setIfInBounds_toArray, List.set]
 refine wpG_doIf (i := 1) rfl (by kernel_rfl) rfl (fun K hK => ?_)
 have HKK := Lib.hid hK
 clear hK
 go_step
 refine (ops_u wd (HD1.out.kept hA (fun _ _ e => e))).mono ?_
 rintro e wd1 ⟨rfl, u1⟩
 have hA1 := hA.trans u1
 clear u1
 simp only []
 refine HKK.out _ _ hA1 ?_
 clear HKK
 simp only [Act.put, List.setIfInBounds_toArray, List.set]
 refine wpG_doIf (i := 6) rfl (by kernel_rfl) rfl (fun K hK => ?_)
 have HKK := Lib.hid hK
 clear hK
 go_step
 refine (ops_u wd1 (HD2.out.kept hA1 (fun _ _ e => e))).mono ?_
 rintro e wd2 ⟨rfl, u1⟩
 have hA2 := hA1.trans u1
 clear u1
 simp only []
 refine HKK.out _ _ hA2 ?_
 clear HKK
 simp only [Act.put, List.setIfInBounds_toArray, List.set]
 refine wpG_takeP (i := 7) (v := .bool false) rfl (by kernel_rfl) (fun _ _ _ h => h) hA2 (.inl ⟨rfl, fun w5 q1 => ?_⟩) ?_
 ·go_simp
 simp only [Act.put, List.setIfInBounds_toArray, List.set]
 refine wpG_takeP (i := 8) (v := .bool false) rfl (by kernel_rfl) (fun _ _ _ h => h) hA2 (.inl ⟨rfl, fun w5 q1 => ?_⟩) ?_
 ·go_simp
 simp only [Act.put, List.setIfInBounds_toArray, List.set]
 refine wpG_takeP (i := 9) (v := .pointer (some ⟨d, 0, none⟩)) rfl (by kernel_rfl) (fun _ _ _ h => h) hA2 (.inl ⟨rfl, fun w5 q1 => ?_⟩) ?_
 ·go_simp
 simp only [Act.put, List.setIfInBounds_toArray, List.set]
 refine wpG_takeP (i := 11) (v := .pointer (some ⟨m, 0, none⟩)) rfl (by kernel_rfl) (fun _ _ _ h => h) hA2 (.inl ⟨rfl, fun w5 q1 => ?_⟩) ?_
 ·go_simp
 simp only [Act.put, List.setIfInBounds_toArray, List.set]
 refine wpG_takeP (i := 12) (v := .pointer (some ⟨m, 0, none⟩)) rfl (by kernel_rfl) (fun _ _ _ h => h) hA2 (.inl ⟨rfl, fun w5 q1 => ?_⟩) ?_
 ·go_simp
 simp only [Act.put, List.setIfInBounds_toArray, List.set]
 refine wpG_takeP (i := 13) (v := .pointer (some ⟨m, 0, none⟩)) rfl (by kernel_rfl) (fun _ _ _ h => h) hA2 (.inl ⟨rfl, fun w5 q1 => ?_⟩) ?_
 ·go_simp
 simp only [Act.put, List.setIfInBounds_toArray, List.set]
 refine wpG_takeT (i := 14) (v := .pointer (some ⟨o, 0, none⟩)) rfl (fun L hc h => (hc.waits (n := 28) (i := 18) (by kernel_rfl) (hc.waits (n := 18) (i := 15) (by kernel_rfl) (hc.waits (n := 15) (i := 14) (by kernel_rfl) h)))) (by kernel_rfl) (fun _ _ _ h => h) hA2 (.inl ⟨rfl, fun w5 q1 => ?_⟩) ?_
 ·obtain ⟨c0, c1, c2, c3, c4, c5, c6, c7, c8⟩ := cells9_of ((q1.block _ (lt_of_heap HM.out) (fun e => e)).trans HM.out)
  go_simp
 simp only [Act.put, List.setIfInBounds_toArray, List.set]
 refine wpG_doIf (i := 10) rfl (by kernel_rfl) rfl (fun K hK => ?_)
 have HKK := Lib.hid hK
 clear hK
 go_step
 refine (dead_u wd2 (HD1.out.kept hA2 (fun _ _ e => e))).mono ?_
 rintro e wd3 ⟨rfl, u1⟩
 have hA3 := hA2.trans u1
 clear u1
 simp only []
 refine HKK.out _ _ hA3 ?_
 clear HKK
 simp only [Act.put, List.setIfInBounds_toArray, List.set]
 refine wpG_doIf (i := 15) rfl (by kernel_rfl) rfl (fun K hK => ?_)
 have HKK := Lib.hid hK
 clear hK
 go_step
 refine (dead_u wd3 (HD2.out.kept hA3 (fun _ _ e => e))).mono ?_
 rintro e wd4 ⟨rfl, u1⟩
 have hA4 := hA3.trans u1
 clear u1
 simp only []
 refine HKK.out _ _ hA4 ?_
 clear HKK
 simp only [Act.put, List.setIfInBounds_toArray, List.set]
 refine wpG_takeP (i := 16) (v := .bool false) rfl (by kernel_rfl) (fun _ _ _ h => h) hA4 (.inl ⟨rfl, fun w5 q1 => ?_⟩) ?_
 ·go_simp
 simp only [Act.put, List.setIfInBounds_toArray, List.set]
 refine wpG_takeP (i := 17) (v := .bool false) rfl (by kernel_rfl) (fun _ _ _ h => h) hA4 (.inl ⟨rfl, fun w5 q1 => ?_⟩) ?_
 ·go_simp
 simp only [Act.put, List.setIfInBounds_toArray, List.set]
 refine wpG_takeP (i := 18) (v := .bool false) rfl (by kernel_rfl) (fun _ _ _ h => h) hA4 (.inl ⟨rfl, fun w5 q1 => ?_⟩) ?_
 ·go_simp
 simp only [Act.put, List.setIfInBounds_toArray, List.set]
 refine wpG_takeP (i := 19) (v := .pointer (some ⟨d, 0, none⟩)) rfl (by kernel_rfl) (fun _ _ _ h => h) hA4 (.inl ⟨rfl, fun w5 q1 => ?_⟩) ?_
 ·go_simp
 simp only [Act.put, List.setIfInBounds_toArray, List.set]
 refine wpG_takeP (i := 21) (v := .pointer (some ⟨m, 0, none⟩)) rfl (by kernel_rfl) (fun _ _ _ h => h) hA4 (.inl ⟨rfl, fun w5 q1 => ?_⟩) ?_
 ·go_simp
 simp only [Act.put, List.setIfInBounds_toArray, List.set]
 refine wpG_takeP (i := 22) (v := .pointer (some ⟨m, 0, none⟩)) rfl (by kernel_rfl) (fun _ _ _ h => h) hA4 (.inl ⟨rfl, fun w5 q1 => ?_⟩) ?_
 ·go_simp
 simp only [Act.put, List.setIfInBounds_toArray, List.set]
 refine wpG_takeP (i := 23) (v := .pointer (some ⟨m, 0, none⟩)) rfl (by kernel_rfl) (fun _ _ _ h => h) hA4 (.inl ⟨rfl, fun w5 q1 => ?_⟩) ?_
 ·go_simp
 simp only [Act.put, List.setIfInBounds_toArray, List.set]
 refine wpG_takeT (i := 24) (v := .pointer (some ⟨o, 0, none⟩)) rfl (fun L hc h => (hc.waits (n := 28) (i := 27) (by kernel_rfl) (hc.waits (n := 27) (i := 26) (by kernel_rfl) (hc.waits (n := 26) (i := 25) (by kernel_rfl) (hc.waits (n := 25) (i := 24) (by kernel_rfl) h))))) (by kernel_rfl) (fun _ _ _ h => h) hA4 (.inl ⟨rfl, fun w5 q1 => ?_⟩) ?_
 ·obtain ⟨c0, c1, c2, c3, c4, c5, c6, c7, c8⟩ := cells9_of ((q1.block _ (lt_of_heap HM.out) (fun e => e)).trans HM.out)
  go_simp
 simp only [Act.put, List.setIfInBounds_toArray, List.set]
 refine wpG_doIf (i := 20) rfl (by kernel_rfl) rfl (fun K hK => ?_)
 have HKK := Lib.hid hK
 clear hK
 go_step
 refine (pend_u wd4 (HD1.out.kept hA4 (fun _ _ e => e)) HOK.out).mono ?_
 rintro e wd5 ⟨u, rfl, ho1, u1⟩
 have hA5 := hA4.trans u1
 have HO1 := Lib.hid ho1
 clear ho1
 clear u1
 simp only []
 refine HKK.out _ _ hA5 ?_
 clear HKK
 simp only [Act.put, List.setIfInBounds_toArray, List.set]
 refine wpG_doIf (i := 25) rfl (by kernel_rfl) rfl (fun K hK => ?_)
 have HKK := Lib.hid hK
 clear hK
 go_step
 refine (pend_u wd5 (HD2.out.kept hA5 (fun _ _ e => e)) HOK.out).mono ?_
 rintro e wd6 ⟨u2, rfl, ho2, u1⟩
 have hA6 := hA5.trans u1
 have HO1 := Lib.hid (ownsRow_any HO1.out u1 (fun _ _ e => e)); have HO2 := Lib.hid ho2
 clear ho2
 clear u1
 simp only []
 refine HKK.out _ _ hA6 ?_
 clear HKK
 simp only [Act.put, List.setIfInBounds_toArray, List.set]
 refine wpG_doIf (i := 26) rfl (by kernel_rfl) rfl (fun K hK => ?_)
 have HKK := Lib.hid hK
 clear hK
 go_step
 refine (equal_own HO1.out HO2.out).mono ?_
 rintro e wd7 ⟨rfl, u1⟩
 have hA7 := hA6.trans u1
 rw [beq_self_eq_true]
 clear u1
 simp only []
 refine HKK.out _ _ hA7 ?_
 clear HKK
 simp only [Act.put, List.setIfInBounds_toArray, List.set]
 refine wpG_takeP (i := 27) (v := .bool false) rfl (by kernel_rfl) (fun _ _ _ h => h) hA7 (.inl ⟨rfl, fun w5 q1 => ?_⟩) ?_
 ·go_simp
 simp only [Act.put, List.setIfInBounds_toArray, List.set]
 refine wpG_tail_lit (k := 28) rfl rfl (by kernel_rfl) ?_
 simp only [List.drop]
 clear hA hA1 hA2 hA3 hA4 hA5 hA6
 have HU7 := Lib.hid hA7
 clear hA7 HO1 HO2
 cases no with
 |true =>
  have hnil := HMM.out.nil rfl
  subst hnil
  obtain ⟨c0, c1, c2, c3, c4, c5, c6, c7, c8⟩ := cells9_of ((HU7.out.block _ (lt_of_heap HM.out) (fun e => e)).trans HM.out)
  go_wp2
  go_ret
  exact ⟨by simp, HU7.out⟩
 |false =>
  obtain ⟨q, rfl, hl⟩ := HMM.out.log rfl
  obtain ⟨hlg, hpn⟩ := HV.out.lg rfl
  have hVlen := HV.out.len
  obtain ⟨np, hnp⟩ : ∃ np, n1 = np + 1 := ⟨n1 - 1, by have := HN1.out; have := List.length_pos_iff.2 hpn; omega⟩
  have HLG := Lib.hid hl; have HXO := Lib.hid hlg.ok; have HNP := Lib.hid hnp; have HPN := Lib.hid hpn; have HLI := Lib.hid hlg
  have hxb : ∀ x ∈ X.parts, x.length ≤ 40000 := fun x hx => (hlg.ok.bytes x hx).2
  have HLL := Lib.hid (show ∀ W, Upd (fun _ => False) w W → Calls Tryz.prog 55 #[.pointer (some ⟨q, 0, none⟩)] W fun e w' => e = .returned (.int .i64 (np : Int)) ∧ Upd (fun _ => False) W w' from fun W hu => (loglen_any W (hl.kept hu (fun _ _ e => e)) hlg.ok).mono fun e w' ⟨h1, h2⟩ => ⟨by rw [h1]; have := HN1.out; congr 2; omega, h2⟩)
  have hlen1000 := hlg.ok.len
  have HUS := Lib.hid (show ∀ W, Upd (fun _ => False) w W → Calls Tryz.prog 72 #[.slice pa n1 pc] W fun e w' => e = .returned (.int .i64 X.used) ∧ Upd (fun _ => False) W w' from fun W hu => by
   have := wused_any (c := pc) W ((HP.out.kept hu (fun _ _ e => e)).rows hxb) (by omega)
   rw [usedI_of hxb, ← hlg.used, ← HN1.out] at this
   exact this.mono fun e w' ⟨h1, h2⟩ => ⟨h1, h2 ▸ Upd.refl _ _⟩)
  have HWR := Lib.hid (show IntKind.i64.wrap ((n1 : Int) - 1) = (np : Int) by rw [IntKind.wrap_i64]; have := HN1.out; omega)
  have hXa := hlg.ok.area; have hXu := hlg.ok.used; have hXt := hlg.ok.turn
  have HWA := Lib.hid (show IntKind.i64.wrap (X.h.area - X.used) = X.h.area - X.used by rw [IntKind.wrap_i64]; omega)
  have HWT := Lib.hid (show IntKind.i64.wrap X.h.turn = X.h.turn by rw [IntKind.wrap_i64]; omega)
  have HTR := Lib.hid (show 0 ≤ X.h.turn ∧ X.h.turn < 4294967296 by omega)
  have HROW := Lib.hid (show ∀ (k : Nat), k < n1 → ∃ b g oo ba bc, X.parts[k]? = some b ∧ pa = some ⟨g, oo, none⟩ ∧ b.length ≤ 40000 ∧ ∀ W, Upd (fun _ => False) w W → W.cell? ⟨g, oo + k, none⟩ = some (.slice ba b.length bc) ∧ BytesIn W (.slice ba b.length bc) b from fun k hk => by
   have hk' : k < X.parts.length := by have := HN1.out; omega
   have hx := List.getElem?_eq_getElem hk'
   obtain ⟨g1, vs, h2, h3⟩ := HP.out
   have hi : k < vs.length := by omega
   obtain ⟨k1, k2⟩ := h3 w (fun _ _ => rfl)
   obtain ⟨g, oo, e, hc⟩ := k1 k _ (List.getElem?_eq_getElem hi)
   obtain ⟨ba, bc, e2, hb⟩ := k2 k _ _ (List.getElem?_eq_getElem hi) hx
   refine ⟨_, g, oo, ba, bc, hx, e, hxb _ (List.mem_of_getElem? hx), fun W hu => ?_⟩
   obtain ⟨j1, j2⟩ := h3 W (fun k hk => hu.block k (g1 k hk) (fun e => e))
   obtain ⟨g', oo', e', hc'⟩ := j1 k _ (List.getElem?_eq_getElem hi)
   obtain ⟨ba', bc', e2', hb'⟩ := j2 k _ _ (List.getElem?_eq_getElem hi) hx
   rw [e] at e'
   injection e' with e'
   injection e' with e3 e4
   subst e3 e4
   rw [e2] at hc'
   rw [e2] at e2' hb'
   exact ⟨hc', hb'⟩)
  obtain ⟨b, pg, po, qa, qc, hb0, rfl, hbl, hrow0⟩ := HROW.out 0 (by omega)
  have HB0 := Lib.hid hb0; have HBL := Lib.hid (show b.length ≤ 1000000 by omega)
  have HC0 := Lib.hid (show ∀ W, Upd (fun _ => False) w W → W.cell? ⟨pg, po, none⟩ = some (.slice qa b.length qc) from fun W hu => (hrow0 W hu).1)
  have HQB := Lib.hid (show ∀ W, Upd (fun _ => False) w W → BytesIn W (.slice qa b.length qc) b from fun W hu => (hrow0 W hu).2)
  have HP1 := Lib.hid (show (0 : Int) < n1 by omega)
  have HN0 := Lib.hid (show ¬ n1 = 0 by omega)
  have HPL := Lib.hid (show np ≤ 1000 by have := HN1.out; omega)
  obtain ⟨c0, c1, c2, c3, c4, c5, c6, c7, c8⟩ := cells9_of ((HU7.out.block _ (lt_of_heap HM.out) (fun e => e)).trans HM.out)
  clear hl hlg hpn hnp hxb hlen1000 hXa hXu hXt hb0 hbl hrow0 hVlen HP
  go_wp2_with (go_at_call 69; fail)
  refine (all_any _ (HLG.out.kept HU7.out (fun _ _ e => e)) HXO.out HPN.out).mono ?_
  rintro e w6 ⟨v, vs, rfl, hvr, hvo, hu6⟩
  have hnp1 : X.parts.length - 1 = np := by have := HN1.out; have := HNP.out; omega
  rw [hnp1] at hvr
  obtain ⟨va, vc, rfl⟩ := rowV hvr
  have HVR := Lib.hid hvr; have HVO := Lib.hid hvo; have HU6 := Lib.hid (HU7.out.trans hu6)
  clear hvr hvo hu6 hnp1 c0 c1 c2 c3 c4 c5 c6 c7 c8
  simp only []
  go_upto_region 6 with fail
  have hA : Upd (fun _ => False) w w6.drew := HU6.out.drew
  have HUW := Lib.hid ((Upd.refl (fun _ => False) w6).drew)
  have HVROW := Lib.hid (show ∀ (k : Nat), k < np → ∃ g ba bc b, va = some ⟨g, 0, none⟩ ∧ X.parts[k + 1]? = some b ∧ ∀ W, Upd (fun _ => False) w6 W → W.cell? ⟨g, k, none⟩ = some (.slice ba b.length bc) ∧ BytesIn W (.slice ba b.length bc) b from fun k hk => by
   have hx := List.getElem?_eq_getElem (l := X.parts) (i := k + 1) (by have := HN1.out; have := HNP.out; omega)
   have hv := List.getElem?_eq_getElem (l := vs) (i := k) (by have := HVR.out.1; omega)
   have hown := HVO.out k _ _ hv hx
   obtain ⟨ba, bc, e⟩ := hown.slice'
   rcases HVR.out.2 with ⟨_, e0⟩ | ⟨g, cap, cur, e1, _⟩
   ·omega
   ·injection e1 with e1 _ _
    subst e1
    have hc := World.ownsRow.cells HVR.out (g := g) rfl k _ hv
    rw [Addr.add_mid, Nat.zero_add] at hc
    refine ⟨g, ba, bc, _, rfl, hx, fun W hu => ⟨?_, ?_⟩⟩
    ·rw [e] at hc
     exact cell_keptF hu (fun e => e) hc
    ·rw [e] at hown
     exact (hown.keptF hu (fun _ _ e => e)).bytesIn)
  clear HVR HVO
  refine wp_region_G 33 (fun W => Upd (fun _ => False) w W) [false, false, false, false, false, false, false, false, false, false, false, false, false, false, false, false, false, false, false, false, false, false, false, false, false, false, false, false, false, false, false, false, false, false] rfl (by kernel_rfl) ?_
  generalize w6.drew = wd at hA HUW ⊢
  refine wpG_takeP (i := 0) (v := .bool true) rfl (by kernel_rfl) (fun _ _ _ h => h) hA (.inl ⟨rfl, fun w5 q1 => ?_⟩) ?_
  ·go_simp
  simp only [Act.put, List.setIfInBounds_toArray, List.set]
  refine wpG_takeP (i := 1) (v := .bool false) rfl (by kernel_rfl) (fun _ _ _ h => h) hA (.inl ⟨rfl, fun w5 q1 => ?_⟩) ?_
  ·go_simp
  simp only [Act.put, List.setIfInBounds_toArray, List.set]
  refine wpG_takeP (i := 2) (v := .bool false) rfl (by kernel_rfl) (fun _ _ _ h => h) hA (.inl ⟨rfl, fun w5 q1 => ?_⟩) ?_
  ·go_simp
  simp only [Act.put, List.setIfInBounds_toArray, List.set]
  refine wpG_takeP (i := 3) (v := .pointer (some ⟨q, 0, none⟩)) rfl (by kernel_rfl) (fun _ _ _ h => h) hA (.inl ⟨rfl, fun w5 q1 => ?_⟩) ?_
  ·go_simp
  simp only [Act.put, List.setIfInBounds_toArray, List.set]
  refine wpG_takeP (i := 5) (v := .slice va np vc) rfl (by kernel_rfl) (fun _ _ _ h => h) hA (.inl ⟨rfl, fun w5 q1 => ?_⟩) ?_
  ·go_simp
  simp only [Act.put, List.setIfInBounds_toArray, List.set]
  refine wpG_takeT (i := 6) (v := .int .i64 (np : Int)) rfl (fun L hc h => (hc.waits (n := 33) (i := 21) (by kernel_rfl) (hc.waits (n := 21) (i := 9) (by kernel_rfl) (hc.waits (n := 9) (i := 8) (by kernel_rfl) (hc.waits (n := 8) (i := 7) (by kernel_rfl) (hc.waits (n := 7) (i := 6) (by kernel_rfl) h)))))) (by kernel_rfl) (fun _ _ _ h => h) hA (.inl ⟨rfl, fun w5 q1 => ?_⟩) ?_
  ·go_simp
  simp only [Act.put, List.setIfInBounds_toArray, List.set]
  refine wpG_doIf (i := 4) rfl (by kernel_rfl) rfl (fun K hK => ?_)
  have HKK := Lib.hid hK
  clear hK
  go_step
  refine (HLL.out wd hA).mono ?_
  rintro e wd1 ⟨rfl, u1⟩
  have hA1 := hA.trans u1
  have HUW := Lib.hid (HUW.out.trans u1)
  clear u1
  simp only []
  refine HKK.out _ _ hA1 ?_
  clear HKK
  simp only [Act.put, List.setIfInBounds_toArray, List.set]
  refine wpG_takeP (i := 7) (v := .bool false) rfl (by kernel_rfl) (fun _ _ _ h => h) hA1 (.inl ⟨rfl, fun w5 q1 => ?_⟩) ?_
  ·go_simp
  simp only [Act.put, List.setIfInBounds_toArray, List.set]
  refine wpG_takeP (i := 8) (v := .bool false) rfl (by kernel_rfl) (fun _ _ _ h => h) hA1 (.inl ⟨rfl, fun w5 q1 => ?_⟩) ?_
  ·go_simp
  simp only [Act.put, List.setIfInBounds_toArray, List.set]
  refine wpG_takeP (i := 9) (v := .bool false) rfl (by kernel_rfl) (fun _ _ _ h => h) hA1 (.inl ⟨rfl, fun w5 q1 => ?_⟩) ?_
  ·go_simp
  simp only [Act.put, List.setIfInBounds_toArray, List.set]
  refine wpG_takeP (i := 10) (v := .slice va np vc) rfl (by kernel_rfl) (fun _ _ _ h => h) hA1 (.inl ⟨rfl, fun w5 q1 => ?_⟩) ?_
  ·go_simp
  simp only [Act.put, List.setIfInBounds_toArray, List.set]
  refine wpG_takeT (i := 11) (v := .int .i64 (np : Int)) rfl (fun L hc h => (hc.waits (n := 33) (i := 21) (by kernel_rfl) (hc.waits (n := 21) (i := 20) (by kernel_rfl) (hc.waits (n := 20) (i := 19) (by kernel_rfl) (hc.waits (n := 19) (i := 11) (by kernel_rfl) h))))) (by kernel_rfl) (fun _ _ _ h => h) hA1 (.inl ⟨rfl, fun w5 q1 => ?_⟩) ?_
  ·go_simp
  simp only [Act.put, List.setIfInBounds_toArray, List.set]
  refine wpG_takeP (i := 12) (v := .pointer (some ⟨m, 0, none⟩)) rfl (by kernel_rfl) (fun _ _ _ h => h) hA1 (.inl ⟨rfl, fun w5 q1 => ?_⟩) ?_
  ·go_simp
  simp only [Act.put, List.setIfInBounds_toArray, List.set]
  refine wpG_takeP (i := 13) (v := .pointer (some ⟨m, 0, none⟩)) rfl (by kernel_rfl) (fun _ _ _ h => h) hA1 (.inl ⟨rfl, fun w5 q1 => ?_⟩) ?_
  ·go_simp
  simp only [Act.put, List.setIfInBounds_toArray, List.set]
  refine wpG_takeP (i := 14) (v := .pointer (some ⟨m, 1, none⟩)) rfl (by kernel_rfl) (fun _ _ _ h => h) hA1 (.inl ⟨rfl, fun w5 q1 => ?_⟩) ?_
  ·go_simp
  simp only [Act.put, List.setIfInBounds_toArray, List.set]
  refine wpG_takeP (i := 15) (v := .pointer (some ⟨m, 5, none⟩)) rfl (by kernel_rfl) (fun _ _ _ h => h) hA1 (.inl ⟨rfl, fun w5 q1 => ?_⟩) ?_
  ·go_simp
  simp only [Act.put, List.setIfInBounds_toArray, List.set]
  refine wpG_takeT (i := 16) (v := .slice (some ⟨pg, po, none⟩) n1 pc) rfl (fun L hc h => (hc.waits (n := 33) (i := 21) (by kernel_rfl) (hc.waits (n := 21) (i := 20) (by kernel_rfl) (hc.waits (n := 20) (i := 19) (by kernel_rfl) (hc.waits (n := 19) (i := 18) (by kernel_rfl) (hc.waits (n := 18) (i := 17) (by kernel_rfl) (hc.waits (n := 17) (i := 16) (by kernel_rfl) h))))))) (by kernel_rfl) (fun _ _ _ h => h) hA1 (.inl ⟨rfl, fun w5 q1 => ?_⟩) ?_
  ·obtain ⟨c0, c1, c2, c3, c4, c5, c6, c7, c8⟩ := cells9_of ((q1.block _ (lt_of_heap HM.out) (fun e => e)).trans HM.out)
   go_simp
  simp only [Act.put, List.setIfInBounds_toArray, List.set]
  refine wpG_takeT (i := 17) (v := .int .i64 (n1 : Int)) rfl (fun L hc h => (hc.waits (n := 33) (i := 21) (by kernel_rfl) (hc.waits (n := 21) (i := 20) (by kernel_rfl) (hc.waits (n := 20) (i := 19) (by kernel_rfl) (hc.waits (n := 19) (i := 18) (by kernel_rfl) (hc.waits (n := 18) (i := 17) (by kernel_rfl) h)))))) (by kernel_rfl) (fun _ _ _ h => h) hA1 (.inl ⟨rfl, fun w5 q1 => ?_⟩) ?_
  ·go_simp
  simp only [Act.put, List.setIfInBounds_toArray, List.set]
  refine wpG_takeP (i := 18) (v := .int .i64 (np : Int)) rfl (by kernel_rfl) (fun _ _ _ h => h) hA1 (.inl ⟨rfl, fun w5 q1 => ?_⟩) ?_
  ·have hh := HWR.out
   go_simp
  simp only [Act.put, List.setIfInBounds_toArray, List.set]
  refine wpG_takeP (i := 19) (v := .bool false) rfl (by kernel_rfl) (fun _ _ _ h => h) hA1 (.inl ⟨rfl, fun w5 q1 => ?_⟩) ?_
  ·go_simp
  simp only [Act.put, List.setIfInBounds_toArray, List.set]
  refine wpG_takeP (i := 20) (v := .bool false) rfl (by kernel_rfl) (fun _ _ _ h => h) hA1 (.inl ⟨rfl, fun w5 q1 => ?_⟩) ?_
  ·go_simp
  simp only [Act.put, List.setIfInBounds_toArray, List.set]
  refine wpG_takeP (i := 21) (v := .bool false) rfl (by kernel_rfl) (fun _ _ _ h => h) hA1 (.inl ⟨rfl, fun w5 q1 => ?_⟩) ?_
  ·go_simp
  simp only [Act.put, List.setIfInBounds_toArray, List.set]
  refine wpG_takeP (i := 22) (v := .pointer (some ⟨q, 0, none⟩)) rfl (by kernel_rfl) (fun _ _ _ h => h) hA1 (.inl ⟨rfl, fun w5 q1 => ?_⟩) ?_
  ·go_simp
  simp only [Act.put, List.setIfInBounds_toArray, List.set]
  refine wpG_takeP (i := 24) (v := .pointer (some ⟨m, 0, none⟩)) rfl (by kernel_rfl) (fun _ _ _ h => h) hA1 (.inl ⟨rfl, fun w5 q1 => ?_⟩) ?_
  ·go_simp
  simp only [Act.put, List.setIfInBounds_toArray, List.set]
  refine wpG_takeP (i := 25) (v := .pointer (some ⟨m, 0, none⟩)) rfl (by kernel_rfl) (fun _ _ _ h => h) hA1 (.inl ⟨rfl, fun w5 q1 => ?_⟩) ?_
  ·go_simp
  simp only [Act.put, List.setIfInBounds_toArray, List.set]
  refine wpG_takeP (i := 26) (v := .pointer (some ⟨m, 1, none⟩)) rfl (by kernel_rfl) (fun _ _ _ h => h) hA1 (.inl ⟨rfl, fun w5 q1 => ?_⟩) ?_
  ·go_simp
  simp only [Act.put, List.setIfInBounds_toArray, List.set]
  refine wpG_takeP (i := 27) (v := .pointer (some ⟨m, 5, none⟩)) rfl (by kernel_rfl) (fun _ _ _ h => h) hA1 (.inl ⟨rfl, fun w5 q1 => ?_⟩) ?_
  ·go_simp
  simp only [Act.put, List.setIfInBounds_toArray, List.set]
  refine wpG_takeT (i := 28) (v := .slice (some ⟨pg, po, none⟩) n1 pc) rfl (fun L hc h => (hc.waits (n := 33) (i := 32) (by kernel_rfl) (hc.waits (n := 32) (i := 31) (by kernel_rfl) (hc.waits (n := 31) (i := 30) (by kernel_rfl) (hc.waits (n := 30) (i := 29) (by kernel_rfl) (hc.waits (n := 29) (i := 28) (by kernel_rfl) h)))))) (by kernel_rfl) (fun _ _ _ h => h) hA1 (.inl ⟨rfl, fun w5 q1 => ?_⟩) ?_
  ·obtain ⟨c0, c1, c2, c3, c4, c5, c6, c7, c8⟩ := cells9_of ((q1.block _ (lt_of_heap HM.out) (fun e => e)).trans HM.out)
   go_simp
  simp only [Act.put, List.setIfInBounds_toArray, List.set]
  refine wpG_takeT (i := 29) (v := .pointer (some ⟨pg, po, none⟩)) rfl (fun L hc h => (hc.waits (n := 33) (i := 32) (by kernel_rfl) (hc.waits (n := 32) (i := 31) (by kernel_rfl) (hc.waits (n := 31) (i := 30) (by kernel_rfl) (hc.waits (n := 30) (i := 29) (by kernel_rfl) h))))) (by kernel_rfl) (fun _ _ _ h => h) hA1 (.inl ⟨rfl, fun w5 q1 => ?_⟩) ?_
  ·have h1 := HP1.out
   have h2 := HN0.out
   go_simp
  simp only [Act.put, List.setIfInBounds_toArray, List.set]
  refine wpG_takeT (i := 30) (v := .slice qa b.length qc) rfl (fun L hc h => (hc.waits (n := 33) (i := 32) (by kernel_rfl) (hc.waits (n := 32) (i := 31) (by kernel_rfl) (hc.waits (n := 31) (i := 30) (by kernel_rfl) h)))) (by kernel_rfl) (fun _ _ _ h => h) hA1 (.inl ⟨rfl, fun w5 q1 => ?_⟩) ?_
  ·have hc := HC0.out _ q1
   go_simp
  simp only [Act.put, List.setIfInBounds_toArray, List.set]
  refine wpG_doIf (i := 23) rfl (by kernel_rfl) rfl (fun K hK => ?_)
  have HKK := Lib.hid hK
  clear hK
  go_step
  refine (snap_any wd1 (HLG.out.kept hA1 (fun _ _ e => e)) HXO.out HB0.out).mono ?_
  rintro e wd2 ⟨u, rfl, ho1, u1⟩
  have hA2 := hA1.trans u1
  obtain ⟨ua, uc, rfl⟩ := ho1.slice'
  have HO1 := Lib.hid ho1.bytesIn
  clear ho1
  have HUW := Lib.hid (HUW.out.trans u1)
  clear u1
  simp only []
  refine HKK.out _ _ hA2 ?_
  clear HKK
  simp only [Act.put, List.setIfInBounds_toArray, List.set]
  refine wpG_doIf (i := 31) rfl (by kernel_rfl) rfl (fun K hK => ?_)
  have HKK := Lib.hid hK
  clear hK
  go_step
  refine (wsame_any wd2 HO1.out (HQB.out _ hA2) rfl rfl HBL.out).mono ?_
  rintro e wd3 ⟨rfl, u1⟩
  have hA3 := hA2.trans u1
  rw [decide_eq_true (rfl : b = b)]
  have HUW := Lib.hid (HUW.out.trans u1)
  clear u1
  simp only []
  refine HKK.out _ _ hA3 ?_
  clear HKK
  simp only [Act.put, List.setIfInBounds_toArray, List.set]
  refine wpG_takeP (i := 32) (v := .bool false) rfl (by kernel_rfl) (fun _ _ _ h => h) hA3 (.inl ⟨rfl, fun w5 q1 => ?_⟩) ?_
  ·go_simp
  simp only [Act.put, List.setIfInBounds_toArray, List.set]
  refine wpG_tail_lit (k := 33) rfl rfl (by kernel_rfl) ?_
  simp only [List.drop]
  clear hA hA1 hA2
  have HU9 := Lib.hid hA3
  clear hA3 HO1 HLL HB0 HQB
  go_upto_block 0 with fail
  go_upto_region 9 with fail
  go_loopg [87] np (fun gk i wr => ∃ k : Nat, k ≤ np ∧ gk = np - k ∧ i = .int .i64 k ∧ Upd (fun _ => False) w wr ∧ Upd (fun _ => False) w6 wr)
  case atStart => exact ⟨0, Nat.zero_le _, rfl, rfl, HU9.out, HUW.out⟩
  case round =>
   obtain ⟨k, hk, rfl, rfl, huk, huk6⟩ := hrel
   have HUK := Lib.hid huk; have HUK6 := Lib.hid huk6
   clear huk huk6
   by_cases hkn : k < np
   ·have hkni : (k : Int) < np := by omega
    have hk0 : (0 : Int) ≤ k := by omega
    obtain ⟨g, ba, bc, x, rfl, hx, hrw⟩ := HVROW.out k hkn
    obtain ⟨x2, g2, oo2, ba2, bc2, hx2, ep, hxl, hrw2⟩ := HROW.out (k + 1) (by have := HNP.out; omega)
    rw [hx] at hx2
    injection hx2 with hx2
    injection ep with ep
    injection ep with ep1 ep2
    subst hx2 ep1 ep2
    obtain ⟨c0, hb1⟩ := hrw wr HUK6.out
    obtain ⟨c10, hb2⟩ := hrw2 wr HUK.out
    have hsm := wsame_any wr hb1 hb2 rfl rfl (by omega)
    rw [decide_eq_true (rfl : x = x)] at hsm
    have HSM := Lib.hid hsm
    obtain ⟨d0, d1, d2, d3, d4, d5, d6, d7, d8⟩ := cells9_of ((HUK.out.block _ (lt_of_heap HM.out) (fun e => e)).trans HM.out)
    have hcv2 : IntKind.i64.wrap ((k : Int) + 1) = (k : Int) + 1 := by rw [IntKind.wrap_i64]; have := HPL.out; omega
    have hk1 : (0 : Int) ≤ (k : Int) + 1 := by omega
    have hk2 : (k : Int) + 1 < n1 := by have := HNP.out; omega
    have hk3 : k + 1 < n1 := by have := HNP.out; omega
    have htn : ((k : Int) + 1).toNat = k + 1 := by omega
    clear hx hrw hxl hrw2 hb1 hb2 hsm
    go_wp2_with (go_at_call 70; fail)
    refine HSM.out.mono ?_
    rintro e w8 ⟨rfl, hu8⟩
    have HU8 := Lib.hid hu8
    clear hu8 HSM c0 c10 d0 d1 d2 d3 d4 d5 d6 d7 d8
    simp only []
    go_wp2
    go_roundg (np - (k + 1))
    case measure => omega
    case rel => exact ⟨k + 1, by omega, rfl, congrArg _ (by omega), HUK.out.trans HU8.out, HUK6.out.trans HU8.out⟩
   ·obtain rfl : k = np := by omega
    go_upto_region 14 with fail
    have hA : Upd (fun _ => False) w wr.drew := HUK.out.drew
    refine wp_region_G 43 (fun W => Upd (fun _ => False) w W) [false, false, false, false, false, false, false, false, false, false, false, false, false, false, false, false, false, false, false, false, false, false, false, false, false, false, false, false, false, false, false, false, false, false, false, false, false, false, false, false, false, false, false, false] rfl (by kernel_rfl) ?_
    generalize wr.drew = wd at hA ⊢
    refine wpG_takeP (i := 0) (v := .pointer (some ⟨q, 0, none⟩)) rfl (by kernel_rfl) (fun _ _ _ h => h) hA (.inl ⟨rfl, fun w5 q1 => ?_⟩) ?_
    ·go_simp
    simp only [Act.put, List.setIfInBounds_toArray, List.set]
    refine wpG_takeP (i := 2) (v := .pointer (some ⟨m, 0, none⟩)) rfl (by kernel_rfl) (fun _ _ _ h => h) hA (.inl ⟨rfl, fun w5 q1 => ?_⟩) ?_
    ·go_simp
    simp only [Act.put, List.setIfInBounds_toArray, List.set]
    refine wpG_takeP (i := 3) (v := .pointer (some ⟨m, 0, none⟩)) rfl (by kernel_rfl) (fun _ _ _ h => h) hA (.inl ⟨rfl, fun w5 q1 => ?_⟩) ?_
    ·go_simp
    simp only [Act.put, List.setIfInBounds_toArray, List.set]
    refine wpG_takeP (i := 4) (v := .pointer (some ⟨m, 1, none⟩)) rfl (by kernel_rfl) (fun _ _ _ h => h) hA (.inl ⟨rfl, fun w5 q1 => ?_⟩) ?_
    ·go_simp
    simp only [Act.put, List.setIfInBounds_toArray, List.set]
    refine wpG_takeP (i := 5) (v := .pointer (some ⟨m, 1, none⟩)) rfl (by kernel_rfl) (fun _ _ _ h => h) hA (.inl ⟨rfl, fun w5 q1 => ?_⟩) ?_
    ·go_simp
    simp only [Act.put, List.setIfInBounds_toArray, List.set]
    refine wpG_takeP (i := 6) (v := .pointer (some ⟨m, 2, none⟩)) rfl (by kernel_rfl) (fun _ _ _ h => h) hA (.inl ⟨rfl, fun w5 q1 => ?_⟩) ?_
    ·go_simp
    simp only [Act.put, List.setIfInBounds_toArray, List.set]
    refine wpG_takeT (i := 7) (v := .int .i64 X.h.area) rfl (fun L hc h => (hc.waits (n := 43) (i := 7) (by kernel_rfl) h)) (by kernel_rfl) (fun _ _ _ h => h) hA (.inl ⟨rfl, fun w5 q1 => ?_⟩) ?_
    ·obtain ⟨c0, c1, c2, c3, c4, c5, c6, c7, c8⟩ := cells9_of ((q1.block _ (lt_of_heap HM.out) (fun e => e)).trans HM.out)
     go_simp
    simp only [Act.put, List.setIfInBounds_toArray, List.set]
    refine wpG_takeP (i := 8) (v := .pointer (some ⟨m, 0, none⟩)) rfl (by kernel_rfl) (fun _ _ _ h => h) hA (.inl ⟨rfl, fun w5 q1 => ?_⟩) ?_
    ·go_simp
    simp only [Act.put, List.setIfInBounds_toArray, List.set]
    refine wpG_takeP (i := 9) (v := .pointer (some ⟨m, 0, none⟩)) rfl (by kernel_rfl) (fun _ _ _ h => h) hA (.inl ⟨rfl, fun w5 q1 => ?_⟩) ?_
    ·go_simp
    simp only [Act.put, List.setIfInBounds_toArray, List.set]
    refine wpG_takeP (i := 10) (v := .pointer (some ⟨m, 1, none⟩)) rfl (by kernel_rfl) (fun _ _ _ h => h) hA (.inl ⟨rfl, fun w5 q1 => ?_⟩) ?_
    ·go_simp
    simp only [Act.put, List.setIfInBounds_toArray, List.set]
    refine wpG_takeP (i := 11) (v := .pointer (some ⟨m, 5, none⟩)) rfl (by kernel_rfl) (fun _ _ _ h => h) hA (.inl ⟨rfl, fun w5 q1 => ?_⟩) ?_
    ·go_simp
    simp only [Act.put, List.setIfInBounds_toArray, List.set]
    refine wpG_takeT (i := 12) (v := .slice (some ⟨pg, po, none⟩) n1 pc) rfl (fun L hc h => (hc.waits (n := 43) (i := 12) (by kernel_rfl) h)) (by kernel_rfl) (fun _ _ _ h => h) hA (.inl ⟨rfl, fun w5 q1 => ?_⟩) ?_
    ·obtain ⟨c0, c1, c2, c3, c4, c5, c6, c7, c8⟩ := cells9_of ((q1.block _ (lt_of_heap HM.out) (fun e => e)).trans HM.out)
     go_simp
    simp only [Act.put, List.setIfInBounds_toArray, List.set]
    refine wpG_doIf (i := 1) rfl (by kernel_rfl) rfl (fun K hK => ?_)
    have HKK := Lib.hid hK
    clear hK
    go_step
    refine (left_any wd (HLG.out.kept hA (fun _ _ e => e)) HXO.out).mono ?_
    rintro e wd1 ⟨rfl, u1⟩
    have hA1 := hA.trans u1
    clear u1
    simp only []
    refine HKK.out _ _ hA1 ?_
    clear HKK
    simp only [Act.put, List.setIfInBounds_toArray, List.set]
    refine wpG_doIf (i := 13) rfl (by kernel_rfl) rfl (fun K hK => ?_)
    have HKK := Lib.hid hK
    clear hK
    go_step
    refine (HUS.out wd1 hA1).mono ?_
    rintro e wd2 ⟨rfl, u1⟩
    have hA2 := hA1.trans u1
    clear u1
    simp only []
    refine HKK.out _ _ hA2 ?_
    clear HKK
    simp only [Act.put, List.setIfInBounds_toArray, List.set]
    refine wpG_takeP (i := 14) (v := .int .i64 (X.h.area - X.used)) rfl (by kernel_rfl) (fun _ _ _ h => h) hA2 (.inl ⟨rfl, fun w5 q1 => ?_⟩) ?_
    ·have hh := HWA.out
     go_simp
    simp only [Act.put, List.setIfInBounds_toArray, List.set]
    refine wpG_takeP (i := 15) (v := .bool true) rfl (by kernel_rfl) (fun _ _ _ h => h) hA2 (.inl ⟨rfl, fun w5 q1 => ?_⟩) ?_
    ·go_simp
    simp only [Act.put, List.setIfInBounds_toArray, List.set]
    refine wpG_takeP (i := 16) (v := .bool true) rfl (by kernel_rfl) (fun _ _ _ h => h) hA2 (.inl ⟨rfl, fun w5 q1 => ?_⟩) ?_
    ·go_simp
    simp only [Act.put, List.setIfInBounds_toArray, List.set]
    refine wpG_takeP (i := 17) (v := .pointer (some ⟨q, 0, none⟩)) rfl (by kernel_rfl) (fun _ _ _ h => h) hA2 (.inl ⟨rfl, fun w5 q1 => ?_⟩) ?_
    ·go_simp
    simp only [Act.put, List.setIfInBounds_toArray, List.set]
    refine wpG_takeP (i := 20) (v := .pointer (some ⟨m, 0, none⟩)) rfl (by kernel_rfl) (fun _ _ _ h => h) hA2 (.inl ⟨rfl, fun w5 q1 => ?_⟩) ?_
    ·go_simp
    simp only [Act.put, List.setIfInBounds_toArray, List.set]
    refine wpG_takeP (i := 21) (v := .pointer (some ⟨m, 0, none⟩)) rfl (by kernel_rfl) (fun _ _ _ h => h) hA2 (.inl ⟨rfl, fun w5 q1 => ?_⟩) ?_
    ·go_simp
    simp only [Act.put, List.setIfInBounds_toArray, List.set]
    refine wpG_takeP (i := 22) (v := .pointer (some ⟨m, 1, none⟩)) rfl (by kernel_rfl) (fun _ _ _ h => h) hA2 (.inl ⟨rfl, fun w5 q1 => ?_⟩) ?_
    ·go_simp
    simp only [Act.put, List.setIfInBounds_toArray, List.set]
    refine wpG_takeP (i := 23) (v := .pointer (some ⟨m, 1, none⟩)) rfl (by kernel_rfl) (fun _ _ _ h => h) hA2 (.inl ⟨rfl, fun w5 q1 => ?_⟩) ?_
    ·go_simp
    simp only [Act.put, List.setIfInBounds_toArray, List.set]
    refine wpG_takeP (i := 24) (v := .pointer (some ⟨m, 1, none⟩)) rfl (by kernel_rfl) (fun _ _ _ h => h) hA2 (.inl ⟨rfl, fun w5 q1 => ?_⟩) ?_
    ·go_simp
    simp only [Act.put, List.setIfInBounds_toArray, List.set]
    refine wpG_takeT (i := 25) (v := .int .i64 X.h.turn) rfl (fun L hc h => (hc.waits (n := 43) (i := 25) (by kernel_rfl) h)) (by kernel_rfl) (fun _ _ _ h => h) hA2 (.inl ⟨rfl, fun w5 q1 => ?_⟩) ?_
    ·obtain ⟨c0, c1, c2, c3, c4, c5, c6, c7, c8⟩ := cells9_of ((q1.block _ (lt_of_heap HM.out) (fun e => e)).trans HM.out)
     go_simp
    simp only [Act.put, List.setIfInBounds_toArray, List.set]
    refine wpG_doIf (i := 18) rfl (by kernel_rfl) rfl (fun K hK => ?_)
    have HKK := Lib.hid hK
    clear hK
    go_step
    refine (turn_any wd2 (HLG.out.kept hA2 (fun _ _ e => e)) HTR.out).mono ?_
    rintro e wd3 ⟨rfl, u1⟩
    have hA3 := hA2.trans u1
    clear u1
    simp only []
    refine HKK.out _ _ hA3 ?_
    clear HKK
    simp only [Act.put, List.setIfInBounds_toArray, List.set]
    refine wpG_takeT (i := 19) (v := .int .i64 X.h.turn) rfl (fun L hc h => (hc.waits (n := 43) (i := 19) (by kernel_rfl) h)) (by kernel_rfl) (fun _ _ _ h => h) hA3 (.inl ⟨rfl, fun w5 q1 => ?_⟩) ?_
    ·have hh := HWT.out
     go_simp
    simp only [Act.put, List.setIfInBounds_toArray, List.set]
    refine wpG_takeP (i := 26) (v := .bool true) rfl (by kernel_rfl) (fun _ _ _ h => h) hA3 (.inl ⟨rfl, fun w5 q1 => ?_⟩) ?_
    ·go_simp
    simp only [Act.put, List.setIfInBounds_toArray, List.set]
    refine wpG_takeP (i := 27) (v := .bool true) rfl (by kernel_rfl) (fun _ _ _ h => h) hA3 (.inl ⟨rfl, fun w5 q1 => ?_⟩) ?_
    ·go_simp
    simp only [Act.put, List.setIfInBounds_toArray, List.set]
    refine wpG_takeP (i := 28) (v := .bool true) rfl (by kernel_rfl) (fun _ _ _ h => h) hA3 (.inl ⟨rfl, fun w5 q1 => ?_⟩) ?_
    ·go_simp
    simp only [Act.put, List.setIfInBounds_toArray, List.set]
    refine wpG_takeP (i := 29) (v := .pointer (some ⟨q, 0, none⟩)) rfl (by kernel_rfl) (fun _ _ _ h => h) hA3 (.inl ⟨rfl, fun w5 q1 => ?_⟩) ?_
    ·go_simp
    simp only [Act.put, List.setIfInBounds_toArray, List.set]
    refine wpG_takeP (i := 31) (v := .pointer (some ⟨m, 0, none⟩)) rfl (by kernel_rfl) (fun _ _ _ h => h) hA3 (.inl ⟨rfl, fun w5 q1 => ?_⟩) ?_
    ·go_simp
    simp only [Act.put, List.setIfInBounds_toArray, List.set]
    refine wpG_takeP (i := 32) (v := .pointer (some ⟨m, 0, none⟩)) rfl (by kernel_rfl) (fun _ _ _ h => h) hA3 (.inl ⟨rfl, fun w5 q1 => ?_⟩) ?_
    ·go_simp
    simp only [Act.put, List.setIfInBounds_toArray, List.set]
    refine wpG_takeP (i := 33) (v := .pointer (some ⟨m, 7, none⟩)) rfl (by kernel_rfl) (fun _ _ _ h => h) hA3 (.inl ⟨rfl, fun w5 q1 => ?_⟩) ?_
    ·go_simp
    simp only [Act.put, List.setIfInBounds_toArray, List.set]
    refine wpG_takeT (i := 34) (v := .bool X.broken) rfl (fun L hc h => (hc.waits (n := 43) (i := 34) (by kernel_rfl) h)) (by kernel_rfl) (fun _ _ _ h => h) hA3 (.inl ⟨rfl, fun w5 q1 => ?_⟩) ?_
    ·obtain ⟨c0, c1, c2, c3, c4, c5, c6, c7, c8⟩ := cells9_of ((q1.block _ (lt_of_heap HM.out) (fun e => e)).trans HM.out)
     go_simp
    simp only [Act.put, List.setIfInBounds_toArray, List.set]
    refine wpG_doIf (i := 30) rfl (by kernel_rfl) rfl (fun K hK => ?_)
    have HKK := Lib.hid hK
    clear hK
    go_step
    refine (broken_any wd3 (HLG.out.kept hA3 (fun _ _ e => e))).mono ?_
    rintro e wd4 ⟨rfl, u1⟩
    have hA4 := hA3.trans u1
    clear u1
    simp only []
    refine HKK.out _ _ hA4 ?_
    clear HKK
    simp only [Act.put, List.setIfInBounds_toArray, List.set]
    refine wpG_takeP (i := 35) (v := .bool true) rfl (by kernel_rfl) (fun _ _ _ h => h) hA4 (.inl ⟨rfl, fun w5 q1 => ?_⟩) ?_
    ·go_simp
    simp only [Act.put, List.setIfInBounds_toArray, List.set]
    refine wpG_takeP (i := 36) (v := .bool true) rfl (by kernel_rfl) (fun _ _ _ h => h) hA4 (.inl ⟨rfl, fun w5 q1 => ?_⟩) ?_
    ·go_simp
    simp only [Act.put, List.setIfInBounds_toArray, List.set]
    refine wpG_takeP (i := 37) (v := .bool true) rfl (by kernel_rfl) (fun _ _ _ h => h) hA4 (.inl ⟨rfl, fun w5 q1 => ?_⟩) ?_
    ·go_simp
    simp only [Act.put, List.setIfInBounds_toArray, List.set]
    refine wpG_takeP (i := 38) (v := .pointer (some ⟨q, 0, none⟩)) rfl (by kernel_rfl) (fun _ _ _ h => h) hA4 (.inl ⟨rfl, fun w5 q1 => ?_⟩) ?_
    ·go_simp
    simp only [Act.put, List.setIfInBounds_toArray, List.set]
    refine wpG_takeP (i := 40) (v := .pointer (some ⟨d, 0, none⟩)) rfl (by kernel_rfl) (fun _ _ _ h => h) hA4 (.inl ⟨rfl, fun w5 q1 => ?_⟩) ?_
    ·go_simp
    simp only [Act.put, List.setIfInBounds_toArray, List.set]
    refine wpG_doIf (i := 39) rfl (by kernel_rfl) rfl (fun K hK => ?_)
    have HKK := Lib.hid hK
    clear hK
    go_step
    refine (disk_w wd4 (HLG.out.kept hA4 (fun _ _ e => e))).mono ?_
    rintro e wd5 ⟨rfl, u1⟩
    have hA5 := hA4.trans u1
    clear u1
    simp only []
    refine HKK.out _ _ hA5 ?_
    clear HKK
    simp only [Act.put, List.setIfInBounds_toArray, List.set]
    refine wpG_takeP (i := 41) (v := .bool true) rfl (by kernel_rfl) (fun _ _ _ h => h) hA5 (.inl ⟨rfl, fun w5 q1 => ?_⟩) ?_
    ·have hh := eql_ptr d w5
     go_simp
    simp only [Act.put, List.setIfInBounds_toArray, List.set]
    refine wpG_takeP (i := 42) (v := .bool true) rfl (by kernel_rfl) (fun _ _ _ h => h) hA5 (.inl ⟨rfl, fun w5 q1 => ?_⟩) ?_
    ·go_simp
    simp only [Act.put, List.setIfInBounds_toArray, List.set]
    refine wpG_tail_lit (k := 43) rfl rfl (by kernel_rfl) ?_
    simp only [List.drop]
    clear hA hA1 hA2 hA3 hA4
    have HUE := Lib.hid hA5
    clear hA5
    go_wp2
    go_ret
    exact ⟨rfl, HUE.out⟩
end
end Go.Proofs.YtbimkhdiplnbfaaGreat
