/- Memory: what may have changed (Upd); blocks and cells; rows that are read. -/
import Derived.Test.YtbonfdkgkcbkmaaGreatW5
import Derived.Test.YtbonfdkgkcbkmaaGreatProg
import Derived.WalkKit
import Derived.WalkSpells
import Derived.WalkLawsBesides
import Derived.Deep.QuietTactic
import Derived.BigQuiet
import Derived.Handy
import Derived.StillTailTactics
import Derived.Lib.Hide
import Derived.Deep.RegionHeld3
import Derived.Deep.CutBlock
import Derived.Deep.MidRow
set_option linter.unusedVariables false
set_option linter.unusedSimpArgs false

section
namespace Go.Proofs.YtbonfdkgkcbkmaaGreat
set_option maxRecDepth 100000
open Go.RowKit

theorem ret_bool {a b : Bool} (h : a = b) : Ending.returned (.bool a) = .returned (.bool b) := by rw [h]
theorem ret_int {k : IntKind} {a b : Int} (h : a = b) : Ending.returned (.int k a) = .returned (.int k b) := by rw [h]

theorem _root_.Go.RowKit.Below.step {B : Nat} {w w1 w2 : World} (h : Below B w w1) (hB : B ≤ w.heap.size) (k : Below w1.heap.size w1 w2) : Below B w w2 := h.trans (k.mono (Nat.le_trans hB h.size))
theorem cell_of_heap {w : World} {b n : Nat} {cs : Array Value} {t : TypeId} (h : w.heap[b]? = some (.cells cs t (0, 0))) : w.cell? ⟨b, n, none⟩ = cs[n]? := by
  simp [World.cell?, h]
theorem frozen_of_heap {w : World} {b n : Nat} {cs : Array Value} {t : TypeId} (h : w.heap[b]? = some (.cells cs t (0, 0))) : w.frozen? ⟨b, n, none⟩ = false := by
  simp [World.frozen?, h]
theorem lt_of_heap {w : World} {b : Nat} {o : Obj} (h : w.heap[b]? = some o) : b < w.heap.size := by
  rcases Nat.lt_or_ge b w.heap.size with h' | h'
  · exact h'
  · simp [Array.getElem?_eq_none h'] at h
theorem lt_of_cell {w : World} {a : Addr} {v : Value} (h : w.cell? a = some v) : a.block < w.heap.size := by
  rcases Nat.lt_or_ge a.block w.heap.size with h' | h'
  · exact h'
  · simp [World.cell?, Array.getElem?_eq_none h'] at h
theorem alloc_at {w : World} {o : Obj} {k : Nat} (h : k = w.heap.size) : (w.alloc o).heap[k]? = some o := by
  subst h; show (w.heap.push o)[w.heap.size]? = _; simp
theorem alloc_lt {w : World} {o : Obj} {k : Nat} (h : k < w.heap.size) : (w.alloc o).heap[k]? = w.heap[k]? := Below.heap_alloc _ _ _ h
theorem set_ne {w : World} {a : Addr} {u : Value} {k : Nat} (h : k ≠ a.block) : (w.setCell a u).heap[k]? = w.heap[k]? := Below.heap_setCell _ _ _ _ h
theorem blk_set {w : World} {b i : Nat} {cs : Array Value} {v : Value} {t : TypeId} (h : w.heap[b]? = some (.cells cs t (0, 0))) :
    (w.setCell ⟨b, i, none⟩ v).heap[b]? = some (.cells (cs.setIfInBounds i v) t (0, 0)) := by
  simp [World.setCell, Array.getElem?_modify, h]
theorem cells1_of {w : World} {b : Nat} {x : Value} {t : TypeId} (h : w.heap[b]? = some (.cells #[x] t (0, 0))) : w.cell? ⟨b, 0, none⟩ = some x := by simp [World.cell?, h]
/-- Only what F names, and new blocks, may have changed. -/
structure Upd (F : Nat → Prop) (w w' : World) : Prop where
  os : w'.os = w.os
  tape : w'.tape = w.tape
  output : w'.output = w.output
  size : w.heap.size ≤ w'.heap.size
  block : ∀ k, k < w.heap.size → ¬ F k → w'.heap[k]? = w.heap[k]?

theorem Upd.refl (F : Nat → Prop) (w : World) : Upd F w w := ⟨rfl, rfl, rfl, Nat.le_refl _, fun _ _ _ => rfl⟩
theorem Upd.trans {F : Nat → Prop} {a b c : World} (h : Upd F a b) (k : Upd F b c) : Upd F a c :=
  ⟨k.os.trans h.os, k.tape.trans h.tape, k.output.trans h.output, Nat.le_trans h.size k.size, fun i hi hf => (k.block i (Nat.lt_of_lt_of_le hi h.size) hf).trans (h.block i hi hf)⟩
theorem Upd.mono {F G : Nat → Prop} {w w' : World} (h : Upd F w w') (hg : ∀ k, k < w.heap.size → F k → G k) : Upd G w w' := ⟨h.os, h.tape, h.output, h.size, fun k hk hn => h.block k hk (fun hf => hn (hg k hk hf))⟩
theorem Upd.drew {F : Nat → Prop} {a w : World} (h : Upd F a w) : Upd F a w.drew := ⟨h.os, h.tape, h.output, h.size, h.block⟩
theorem Upd.alloc {F : Nat → Prop} {a w : World} (h : Upd F a w) (o : Obj) : Upd F a (w.alloc o) :=
  ⟨h.os, h.tape, h.output, Nat.le_trans h.size (by simp), fun k hk hf => (alloc_lt (Nat.lt_of_lt_of_le hk h.size)).trans (h.block k hk hf)⟩
theorem Upd.setCell {F : Nat → Prop} {a w : World} (h : Upd F a w) {p : Addr} (hp : F p.block ∨ a.heap.size ≤ p.block) (u : Value) : Upd F a (w.setCell p u) :=
  ⟨h.os, h.tape, h.output, Nat.le_trans h.size (by simp [World.setCell]), fun k hk hf => by
    rw [set_ne]
    · exact h.block k hk hf
    · rintro rfl; rcases hp with hp | hp
      · exact hf hp
      · omega⟩
theorem Upd.of_grown {F : Nat → Prop} {w w' : World} {row : Option Nat} (h : w.grownBy w' row) (hr : ∀ k, row = some k → F k) : Upd F w w' :=
  ⟨h.os, h.tape, h.output, h.size, fun k hk hf => h.block k hk (fun e => hf (hr k e.symm))⟩
theorem Upd.step {F G : Nat → Prop} {w w1 w2 : World} (h : Upd F w w1) (k : Upd G w1 w2) (hg : ∀ k, k < w.heap.size → G k → F k) : Upd F w w2 :=
  ⟨k.os.trans h.os, k.tape.trans h.tape, k.output.trans h.output, Nat.le_trans h.size k.size, fun i hi hf =>
    (k.block i (Nat.lt_of_lt_of_le hi h.size) (fun hx => hf (hg i hi hx))).trans (h.block i hi hf)⟩

/-- Nothing but new blocks. -/
abbrev Upd0 (w w' : World) : Prop := Upd (fun _ => False) w w'
theorem Upd.cut {F : Nat → Prop} {w w1 w2 : World} (h : Upd0 w w1) (k : Upd F w1 w2) (hF : ∀ b, F b → w.heap.size ≤ b) : Upd0 w w2 := h.step k (fun b hb e => by have := hF b e; omega)
theorem Upd.get {W w1 : World} (hu : Upd0 W w1) : (∀ b o, b < W.heap.size → w1.cell? ⟨b, o, none⟩ = W.cell? ⟨b, o, none⟩) ∧ (∀ b o, b < W.heap.size → w1.frozen? ⟨b, o, none⟩ = W.frozen? ⟨b, o, none⟩) :=
  ⟨fun b o h => by simp only [World.cell?, hu.block b h (fun e => e)], fun b o h => by simp only [World.frozen?, hu.block b h (fun e => e)]⟩
theorem upd_own (w : World) (p i : Nat) (v : Value) : Upd (fun k => k = p) w (w.setCell ⟨p, i, none⟩ v) := Upd.setCell (F := fun k => k = p) (Upd.refl _ _) (p := ⟨p, i, none⟩) (.inl rfl) v
theorem cell_keptF {G : Nat → Prop} {w w' : World} (hu : Upd G w w') {x : Addr} (hg : ¬ G x.block) {v : Value} (h : w.cell? x = some v) : w'.cell? x = some v := by
  have hlt : x.block < w.heap.size := by
    rcases Nat.lt_or_ge x.block w.heap.size with h' | h'
    · exact h'
    · simp [World.cell?, Array.getElem?_eq_none h'] at h
  rw [← h]
  simp only [World.cell?]
  rw [hu.block x.block hlt hg]
theorem ownsRow_any {w w' : World} {G : Nat → Prop} {B : Nat} {e : TypeId} {sz n : Nat} {v : Value} {xs : List Value} (h : w.ownsRow B e sz v n xs) (hu : Upd G w w') (hg : ∀ k, v.ownBlock = some k → ¬ G k) : w'.ownsRow B e sz v n xs := by
  obtain ⟨h1, h2⟩ := h
  refine ⟨h1, ?_⟩
  rcases h2 with h2 | ⟨gg, cap', cur, hv, hb, hh, r⟩
  · exact .inl h2
  · exact .inr ⟨gg, cap', cur, hv, hb, (hu.block gg (lt_of_heap hh) (hg gg (by rw [hv]; rfl))).trans hh, r⟩
theorem ownsRow_low {w : World} {B B' : Nat} {e : TypeId} {sz n : Nat} {v : Value} {xs : List Value} (h : w.ownsRow B e sz v n xs) (hb : B' ≤ B) : w.ownsRow B' e sz v n xs := by
  obtain ⟨h1, h2⟩ := h
  refine ⟨h1, ?_⟩
  rcases h2 with h2 | ⟨g, cap, cur, a, b, r⟩
  · exact .inl h2
  · exact .inr ⟨g, cap, cur, a, Nat.le_trans hb b, r⟩
theorem rowV {w : World} {B : Nat} {e : TypeId} {s n : Nat} {v : Value} {xs : List Value} (h : w.ownsRow B e s v n xs) : ∃ sa c, v = .slice sa n c := by
  rcases h.2 with ⟨h1, h2⟩ | ⟨g, cap, cur, h1, _⟩
  · exact ⟨none, 0, by rw [h1, h2]⟩
  · exact ⟨_, cap, h1⟩
theorem cells2_of {w : World} {b : Nat} {x0 x1 : Value} {t : TypeId} (h : w.heap[b]? = some (.cells #[x0, x1] t (0, 0))) : w.cell? ⟨b, 0, none⟩ = some x0 ∧ w.cell? ⟨b, 1, none⟩ = some x1 := by simp [World.cell?, h]
theorem cells3_of {w : World} {b : Nat} {x0 x1 x2 : Value} {t : TypeId} (h : w.heap[b]? = some (.cells #[x0, x1, x2] t (0, 0))) : w.cell? ⟨b, 0, none⟩ = some x0 ∧ w.cell? ⟨b, 1, none⟩ = some x1 ∧ w.cell? ⟨b, 2, none⟩ = some x2 := by simp [World.cell?, h]
theorem cells5_of {w : World} {b : Nat} {x0 x1 x2 x3 x4 : Value} {t : TypeId} (h : w.heap[b]? = some (.cells #[x0, x1, x2, x3, x4] t (0, 0))) : w.cell? ⟨b, 0, none⟩ = some x0 ∧ w.cell? ⟨b, 1, none⟩ = some x1 ∧ w.cell? ⟨b, 2, none⟩ = some x2 ∧ w.cell? ⟨b, 3, none⟩ = some x3 ∧ w.cell? ⟨b, 4, none⟩ = some x4 := by simp [World.cell?, h]
theorem cells8_of {w : World} {b : Nat} {x0 x1 x2 x3 x4 x5 x6 x7 : Value} {t : TypeId} (h : w.heap[b]? = some (.cells #[x0, x1, x2, x3, x4, x5, x6, x7] t (0, 0))) :
    w.cell? ⟨b, 0, none⟩ = some x0 ∧ w.cell? ⟨b, 1, none⟩ = some x1 ∧ w.cell? ⟨b, 2, none⟩ = some x2 ∧ w.cell? ⟨b, 3, none⟩ = some x3 ∧ w.cell? ⟨b, 4, none⟩ = some x4 ∧ w.cell? ⟨b, 5, none⟩ = some x5 ∧ w.cell? ⟨b, 6, none⟩ = some x6 ∧ w.cell? ⟨b, 7, none⟩ = some x7 := by simp [World.cell?, h]
theorem row_cell {w : World} {B : Nat} {e : TypeId} {s : Nat} {sa : Option Addr} {n c : Nat} {xs : List Value} {k : Nat} {u : Value} (h : w.ownsRow B e s (.slice sa n c) n xs) (hx : xs.length = n * s) (hk : xs[k]? = some u) : ∃ g, sa = some ⟨g, 0, none⟩ ∧ w.cell? ⟨g, k, none⟩ = some u := by
  obtain ⟨h0, h1⟩ := h
  have hkl := (List.getElem?_eq_some_iff.1 hk).1
  rcases h1 with ⟨_, e⟩ | ⟨g, cap, cur, e, _, hg, h2, h3, h4, h5⟩
  · subst e; omega
  · injection e with e1 _ _
    refine ⟨g, e1, ?_⟩
    rw [cell_of_heap hg, ← Array.getElem?_toList]
    rw [← h5, List.getElem?_take_of_lt (by omega)] at hk
    exact hk

theorem run_store_func {P : Program} {w : World} {a : Addr} {fn : Fn} {f c : Array Value} : (store a (.func fn f c)).run P w = stored P w a (.func fn f c) .plain := run_store P w a _ _ rfl

/-! ### Rows that are read -/
/-- Elements of s cells lie in a row. -/
def Row (s : Nat) (w : World) (a : Option Addr) (xs : List (List Value)) : Prop := ∀ i x, xs[i]? = some x → x.length = s ∧ ∃ b o, a = some ⟨b, o, none⟩ ∧ ∀ t u, x[t]? = some u → w.cell? ⟨b, o + (i * s + t), none⟩ = some u
theorem Row.kept {s : Nat} {w w' : World} {a : Option Addr} {xs : List (List Value)} (h : Row s w a xs) (hu : Upd (fun _ => False) w w') : Row s w' a xs := fun i x hx => by
  obtain ⟨h0, b, o, e, hc⟩ := h i x hx
  exact ⟨h0, b, o, e, fun t u ht => cell_keptF hu (fun e => e) (hc t u ht)⟩
theorem Row.nil (s : Nat) (w : World) (a : Option Addr) : Row s w a [] := fun i x hx => by simp at hx
abbrev I (z : Int) : Value := .int .i64 z
/-- Numbers that lie in a row. -/
def IntsIn (w : World) (a : Option Addr) (l : List Int) : Prop := Row 1 w a (l.map fun z => [.int .i64 z])
theorem IntsIn.kept {w w' : World} {a : Option Addr} {l : List Int} (h : IntsIn w a l) (hu : Upd (fun _ => False) w w') : IntsIn w' a l := Row.kept h hu
theorem IntsIn.cell {w : World} {a : Option Addr} {l : List Int} (h : IntsIn w a l) {i : Nat} {z : Int} (hi : l[i]? = some z) : ∃ b o, a = some ⟨b, o, none⟩ ∧ w.cell? ⟨b, o + i, none⟩ = some (.int .i64 z) := by
  obtain ⟨_, b, o, e, hc⟩ := h i [.int .i64 z] (by rw [List.getElem?_map, hi]; rfl)
  have := hc 0 _ rfl
  rw [Nat.mul_one, Nat.add_zero] at this
  exact ⟨b, o, e, this⟩

/-! ### The data as values -/
structure OpM where
  tag : Int
  width : Int
  ia : Option Addr
  ic : Nat
  ins : List Int
  a : Int
  b : Int
def OpM.cells (o : OpM) : List Value := [.int .i64 o.tag, .int .i64 o.width, .slice o.ia o.ins.length o.ic, .int .i64 o.a, .int .i64 o.b]
structure OpsIn (w : World) (a : Option Addr) (os : List OpM) : Prop where
  row : Row 5 w a (os.map OpM.cells)
  ins : ∀ o ∈ os, IntsIn w o.ia o.ins ∧ o.ins.length ≤ 140737488351232
theorem OpsIn.kept {w w' : World} {a : Option Addr} {os : List OpM} (h : OpsIn w a os) (hu : Upd (fun _ => False) w w') : OpsIn w' a os := ⟨h.row.kept hu, fun o ho => ⟨(h.ins o ho).1.kept hu, (h.ins o ho).2⟩⟩
structure RecV where
  src : Int
  key : Int
  val : Int
def RecV.cells (r : RecV) : List Value := [.int .i64 r.src, .int .i64 r.key, .int .i64 r.val]
def RecsIn (w : World) (a : Option Addr) (l : List RecV) : Prop := Row 3 w a (l.map RecV.cells)
theorem RecsIn.kept {w w' : World} {a : Option Addr} {l : List RecV} (h : RecsIn w a l) (hu : Upd (fun _ => False) w w') : RecsIn w' a l := Row.kept h hu
structure InM where
  src : Int
  ra : Option Addr
  rc : Nat
  recs : List RecV
def InM.cells (x : InM) : List Value := [.int .i64 x.src, .slice x.ra x.recs.length x.rc]
structure InsIn (w : World) (a : Option Addr) (xs : List InM) : Prop where
  row : Row 2 w a (xs.map InM.cells)
  recs : ∀ x ∈ xs, RecsIn w x.ra x.recs ∧ x.recs.length ≤ 140737488351232
theorem InsIn.kept {w w' : World} {a : Option Addr} {xs : List InM} (h : InsIn w a xs) (hu : Upd (fun _ => False) w w') : InsIn w' a xs := ⟨h.row.kept hu, fun o ho => ⟨(h.recs o ho).1.kept hu, (h.recs o ho).2⟩⟩
end Go.Proofs.YtbonfdkgkcbkmaaGreat
end

section
namespace Go.Proofs.YtbonfdkgkcbkmaaGreat
set_option maxRecDepth 100000
set_option maxRecDepth 100000
open Go.RowKit

/-- May a record be? -/
def RecV.ok (r : RecV) : Bool := decide (0 ≤ r.src ∧ r.src < 8 ∧ 0 ≤ r.key ∧ r.key < 32)
def chkRec (r : RecV) : Int := if r.ok then 0 else 150
theorem chkRec_ok {r : RecV} (h0 : 0 ≤ r.src) (h1 : r.src < 8) (h2 : 0 ≤ r.key) (h3 : r.key < 32) : chkRec r = 0 := by simp [chkRec, RecV.ok, *]
theorem chkRec_no {r : RecV} (h : r.src < 0 ∨ 8 ≤ r.src ∨ r.key < 0 ∨ 32 ≤ r.key) : chkRec r = 150 := by
  have : ¬ (0 ≤ r.src ∧ r.src < 8 ∧ 0 ≤ r.key ∧ r.key < 32) := by omega
  simp [chkRec, RecV.ok, this]

theorem reccheck_any (r : RecV) (w : World) : Calls Tryz.prog 142 #[.agg #[.int .i64 r.src, .int .i64 r.key, .int .i64 r.val]] w fun e w' => e = .returned (.int .i64 (chkRec r)) ∧ Upd0 w w' := by
  go_enter Tryz.func142, Tryz.ntmps142
  go_wp2
  all_goals go_ret
  all_goals refine ⟨?_, (Upd.refl _ w).alloc _⟩
  all_goals first | exact ret_int (chkRec_no (by omega)).symm | exact ret_int (chkRec_ok (by omega) (by omega) (by omega) (by omega)).symm
theorem isnan_any (x : Int) (w : World) : Calls Tryz.prog 288 #[.int .i64 x] w fun e w' => e = .returned (.bool false) ∧ w = w' := by
  go_enter Tryz.func288, Tryz.ntmps288
  go_wp2
  go_ret
  exact ⟨rfl, rfl⟩
def cmpI (x y : Int) : Int := if x < y then -1 else if y < x then 1 else 0
theorem cmp_any (x y : Int) (w : World) : Calls Tryz.prog 213 #[.int .i64 x, .int .i64 y] w fun e w' => e = .returned (.int .i64 (cmpI x y)) ∧ w = w' := by
  go_enter Tryz.func213, Tryz.ntmps213
  go_wp2_with (go_at_call 288; refine (isnan_any _ _).mono ?_; rintro e w' ⟨rfl, rfl⟩)
  all_goals go_ret
  all_goals refine ⟨ret_int ?_, rfl⟩
  all_goals unfold cmpI
  all_goals first | (rw [if_pos (by omega)]; done) | (rw [if_neg (by omega), if_pos (by omega)]; done) | (rw [if_neg (by omega), if_neg (by omega)]; done)
def keepsB (o : OpM) : Bool := o.tag == 4 || o.tag == 5
theorem keeps_any (o : OpM) (w : World) : Calls Tryz.prog 157 #[.agg #[.int .i64 o.tag, .int .i64 o.width, .slice o.ia o.ins.length o.ic, .int .i64 o.a, .int .i64 o.b]] w fun e w' => e = .returned (.bool (keepsB o)) ∧ Upd0 w w' := by
  go_enter Tryz.func157, Tryz.ntmps157
  go_wp2
  all_goals go_ret
  all_goals refine ⟨ret_bool ?_, (Upd.refl _ w).alloc _⟩
  all_goals simp [keepsB, *]

/-- Do numbers rise, within bounds? -/
def risesB : List Int → Int → Int → Bool
  | [], _, _ => true
  | n :: r, last, below => !decide (n ≤ last) && !decide (below ≤ n) && risesB r n below

theorem risesB_no {z last below : Int} {r : List Int} (h : z ≤ last ∨ below ≤ z) : risesB (z :: r) last below = false := by
  rcases h with h | h <;> simp [risesB, h]
theorem risesB_yes {z last below : Int} {r : List Int} (h : last < z) (h' : z < below) : risesB (z :: r) last below = risesB r z below := by
  have h1 : ¬ z ≤ last := by omega
  have h2 : ¬ below ≤ z := by omega
  simp [risesB, h1, h2]
theorem rises_any {a : Option Addr} {l : List Int} {c : Nat} (below : Int) (w : World) (h : IntsIn w a l) (hl : l.length ≤ 140737488351232) :
    Calls Tryz.prog 297 #[.slice a l.length c, .int .i64 below] w fun e w' => e = .returned (.bool (risesB l (-1) below)) ∧ w = w' := by
  have H := Lib.hid h
  clear h
  go_enter Tryz.func297, Tryz.ntmps297
  go_wp2
  go_loop [5, 10] (fun t i => ∃ (k : Nat) (last : Int), k ≤ l.length ∧ i = .int .i64 k ∧ t = .int .i64 last ∧ Hid (risesB (l.drop k) last below = risesB l (-1) below)) (fun _ i => l.length - (intOf i).toNat)
  case atStart => exact ⟨0, -1, Nat.zero_le _, rfl, rfl, Lib.hid rfl⟩
  case round =>
    obtain ⟨k, last, hk, rfl, rfl, hr⟩ := hrel
    by_cases hlt : k < l.length
    · obtain ⟨z, hz⟩ : ∃ z, l[k]? = some z := ⟨_, List.getElem?_eq_getElem hlt⟩
      obtain ⟨b, o, rfl, hc⟩ := H.out.cell hz
      have hd : l.drop k = z :: l.drop (k + 1) := by
        obtain ⟨h1, h2⟩ := List.getElem?_eq_some_iff.1 hz
        rw [List.drop_eq_getElem_cons h1, h2]
      have HR : Hid (risesB (z :: l.drop (k + 1)) last below = risesB l (-1) below) := by rw [← hd]; exact hr
      clear hd hr hz
      go_wp2
      · go_ret
        exact ⟨ret_bool (by rw [← HR.out, risesB_no (by omega)]), rfl⟩
      · go_round
        case rel => exact ⟨k + 1, z, by omega, by go_num, rfl, Lib.hid (by rw [← HR.out, risesB_yes (by omega) (by omega)])⟩
        case measure => simp [intOf]; omega
      · go_ret
        exact ⟨ret_bool (by rw [← HR.out, risesB_no (by omega)]), rfl⟩
    · go_wp2
      go_ret
      refine ⟨ret_bool ?_, rfl⟩
      rw [← hr.out, List.drop_of_length_le (by omega)]
      rfl

/-! ### Rows of two numbers, records compared -/
end Go.Proofs.YtbonfdkgkcbkmaaGreat
end

section
namespace Go.Proofs.YtbonfdkgkcbkmaaGreat
set_option maxRecDepth 100000
set_option maxRecDepth 100000
open Go.RowKit

/-- May an operator's numbers be, by its tag? -/
def kindB (tag a b : Int) (n : Nat) : Bool :=
  if tag = 6 then decide (1 < n) && (a == 0) && (b == 0)
  else if tag = 1 then (n == 0) && decide (0 ≤ a) && decide (a < 4) && (b == 0)
  else if n ≠ 1 then false
  else if tag = 2 then true
  else if tag = 3 then decide (0 < a) && decide (0 ≤ b) && decide (b < a)
  else if tag = 5 then decide (1 ≤ a) && decide (a ≤ 8) && (b == 0)
  else if tag = 4 ∨ tag = 7 then (a == 0) && (b == 0)
  else false
/-- May an operator stand alone at a number? -/
def OpM.alone (o : OpM) (i : Int) : Bool := decide (1 ≤ o.width) && decide (o.width ≤ 3) && risesB o.ins (-1) i && kindB o.tag o.a o.b o.ins.length

set_option maxHeartbeats 1000000 in
theorem alone_any (o : OpM) (i : Int) (w : World) (h : IntsIn w o.ia o.ins) (hl : o.ins.length ≤ 140737488351232) :
    Calls Tryz.prog 226 #[.agg #[.int .i64 o.tag, .int .i64 o.width, .slice o.ia o.ins.length o.ic, .int .i64 o.a, .int .i64 o.b], .int .i64 i] w fun e w' => e = .returned (.bool (o.alone i)) ∧ Upd0 w w' := by
  obtain ⟨tag, width, ia, ic, ins, a, b⟩ := o
  simp only [OpM.alone]
  simp only at h hl
  have hu := (Upd.refl (fun _ => False) w).alloc (.cells #[.int .i64 tag, .int .i64 width, .slice ia ins.length ic, .int .i64 a, .int .i64 b] 89)
  have hc := Lib.hid (rises_any (c := ic) i _ (h.kept hu) hl)
  obtain ⟨rr, hrr⟩ : ∃ rr, rr = risesB ins (-1) i := ⟨_, rfl⟩
  rw [← hrr] at hc ⊢
  have HU := Lib.hid hu
  clear hrr h hu
  obtain ⟨n, hn⟩ : ∃ n, n = ins.length := ⟨_, rfl⟩
  rw [← hn] at hc hl ⊢
  rw [← hn] at HU
  clear hn
  cases rr
  · simp only [Bool.and_false, Bool.false_and]
    go_enter Tryz.func226, Tryz.ntmps226
    go_wp2_with (go_at_call 297; refine hc.out.mono ?_; rintro e w' ⟨rfl, rfl⟩)
    all_goals go_ret
    all_goals exact ⟨rfl, (Upd.refl _ w).alloc _⟩
  · by_cases h1 : 1 ≤ width
    · by_cases h2 : width ≤ 3
      · simp only [h1, h2, decide_true, Bool.true_and]
        go_enter Tryz.func226, Tryz.ntmps226
        go_wp2_with (go_at_call 297; refine hc.out.mono ?_; rintro e w' ⟨rfl, rfl⟩)
        all_goals go_ret
        all_goals refine ⟨ret_bool ?_, (Upd.refl _ w).alloc _⟩
        all_goals (try (simp [kindB, *]; done))
        all_goals (clear HU hc; simp only [beq_iff_eq, beq_eq_false_iff_ne, bne_iff_ne, bne_eq_false_iff_eq, ne_eq] at *)
        all_goals rw [Bool.eq_iff_iff]
        all_goals unfold kindB
        all_goals (repeat' split) <;> first | omega | (simp; done) | (simp; omega)
      · simp only [h2, decide_false, Bool.and_false, Bool.false_and]
        go_enter Tryz.func226, Tryz.ntmps226
        go_wp2_with (go_at_call 297; refine hc.out.mono ?_; rintro e w' ⟨rfl, rfl⟩)
        all_goals go_ret
        all_goals exact ⟨rfl, (Upd.refl _ w).alloc _⟩
    · simp only [h1, decide_false, Bool.and_false, Bool.false_and]
      go_enter Tryz.func226, Tryz.ntmps226
      go_wp2_with (go_at_call 297; refine hc.out.mono ?_; rintro e w' ⟨rfl, rfl⟩)
      all_goals go_ret
      all_goals exact ⟨rfl, (Upd.refl _ w).alloc _⟩
end Go.Proofs.YtbonfdkgkcbkmaaGreat
end

section
namespace Go.Proofs.YtbonfdkgkcbkmaaGreat
set_option maxRecDepth 100000
set_option maxRecDepth 100000
open Go.RowKit

def orI : List Int → Int
  | [] => 0
  | x :: r => if x = 0 then orI r else x
theorem drop_cons {α : Type} {l : List α} {k : Nat} {z : α} (hz : l[k]? = some z) : l.drop k = z :: l.drop (k + 1) := by
  obtain ⟨h1, h2⟩ := List.getElem?_eq_some_iff.1 hz
  rw [List.drop_eq_getElem_cons h1, h2]
theorem or_any {a : Option Addr} {l : List Int} {c : Nat} (w : World) (h : IntsIn w a l) (hl : l.length ≤ 140737488351232) :
    Calls Tryz.prog 212 #[.slice a l.length c] w fun e w' => e = .returned (.int .i64 (orI l)) ∧ w = w' := by
  have H := Lib.hid h
  clear h
  go_enter Tryz.func212, Tryz.ntmps212
  go_wp2
  go_loop [8] (fun i => ∃ k : Nat, k ≤ l.length ∧ i = .int .i64 k ∧ Hid (orI (l.drop k) = orI l)) (fun i => l.length - (intOf i).toNat)
  case atStart => exact ⟨0, Nat.zero_le _, rfl, Lib.hid rfl⟩
  case round =>
    obtain ⟨k, hk, rfl, hr⟩ := hrel
    by_cases hlt : k < l.length
    · obtain ⟨z, hz⟩ : ∃ z, l[k]? = some z := ⟨_, List.getElem?_eq_getElem hlt⟩
      obtain ⟨b, o, rfl, hc⟩ := H.out.cell hz
      have HR : Hid (orI (z :: l.drop (k + 1)) = orI l) := by rw [← drop_cons hz]; exact hr
      clear hr hz
      by_cases h0 : z = 0
      · subst h0
        go_wp2
        go_round
        case rel => exact ⟨k + 1, by omega, by go_num, Lib.hid (by rw [← HR.out]; simp [orI])⟩
        case measure => simp [intOf]; omega
      · have h1 : (z != 0) = true := by simpa using h0
        go_wp2
        go_ret
        exact ⟨ret_int (by rw [← HR.out]; simp [orI, h0]), rfl⟩
    · go_wp2
      go_ret
      refine ⟨ret_int ?_, rfl⟩
      rw [← hr.out, List.drop_of_length_le (by omega)]
      rfl

theorem IntsIn.of_block {w : World} {b : Nat} {l : List Int} {t : TypeId} (h : w.heap[b]? = some (.cells (l.map I).toArray t (0, 0))) : IntsIn w (some ⟨b, 0, none⟩) l := by
  intro i x hx
  rw [List.getElem?_map, Option.map_eq_some_iff] at hx
  obtain ⟨z, hz, rfl⟩ := hx
  refine ⟨rfl, b, 0, rfl, fun t u hu => ?_⟩
  match t, hu with
  | 0, hu =>
    simp at hu
    subst hu
    rw [cell_of_heap h]
    simp [hz, I]
def cmpR (a b : RecV) : Int := orI [cmpI a.src b.src, cmpI a.key b.key]
theorem compare_any (a b : RecV) (w : World) : Calls Tryz.prog 133 #[.agg #[.int .i64 a.src, .int .i64 a.key, .int .i64 a.val], .agg #[.int .i64 b.src, .int .i64 b.key, .int .i64 b.val]] w fun e w' => e = .returned (.int .i64 (cmpR a b)) ∧ Upd0 w w' := by
  obtain ⟨a0, a1, a2⟩ := a
  obtain ⟨b0, b1, b2⟩ := b
  simp only [cmpR]
  obtain ⟨wb, hwb⟩ : ∃ wb, wb = (w.alloc (.cells #[.int .i64 a0, .int .i64 a1, .int .i64 a2] 36)).alloc (.cells #[.int .i64 b0, .int .i64 b1, .int .i64 b2] 36) := ⟨_, rfl⟩
  have HU := Lib.hid (show Upd0 w wb by rw [hwb]; exact ((Upd.refl _ w).alloc _).alloc _)
  have HX1 := Lib.hid (show wb.heap[w.heap.size]? = some (.cells #[.int .i64 a0, .int .i64 a1, .int .i64 a2] 36 (0, 0)) by rw [hwb]; exact (alloc_lt (by simp)).trans (alloc_at rfl))
  have HX2 := Lib.hid (show wb.heap[w.heap.size + 1]? = some (.cells #[.int .i64 b0, .int .i64 b1, .int .i64 b2] 36 (0, 0)) by rw [hwb]; exact alloc_at (by simp))
  go_enter Tryz.func133, Tryz.ntmps133
  go_wp2
  rw [← hwb]
  clear hwb
  have hA : Upd0 wb wb.drew := (Upd.refl _ _).drew
  refine wp_region_G 10 (fun W => Upd0 wb W) [false, false, false, false, false, false, false, false, false, false, false, false, false] rfl (by kernel_rfl) ?_
  generalize wb.drew = wd at hA ⊢
  refine wpG_takeT (i := 0) (v := .pointer (some ⟨w.heap.size, 0, none⟩)) rfl (fun L hc h => (hc.waits (n := 10) (i := 4) (by kernel_rfl) (hc.waits (n := 4) (i := 1) (by kernel_rfl) (hc.waits (n := 1) (i := 0) (by kernel_rfl) h)))) (by kernel_rfl) (fun _ _ _ h => h) hA (.inl ⟨rfl, fun w5 q1 => ?_⟩) ?_
  · go_simp
  simp only [Act.put, List.setIfInBounds_toArray, List.set]
  refine wpG_takeT (i := 1) (v := .int .i64 a0) rfl (fun L hc h => (hc.waits (n := 10) (i := 4) (by kernel_rfl) (hc.waits (n := 4) (i := 1) (by kernel_rfl) h))) (by kernel_rfl) (fun _ _ _ h => h) hA (.inl ⟨rfl, fun w5 q1 => ?_⟩) ?_
  · obtain ⟨c0, c1, c2⟩ := cells3_of ((q1.block _ (lt_of_heap HX1.out) (fun e => e)).trans HX1.out)
    go_simp
  simp only [Act.put, List.setIfInBounds_toArray, List.set]
  refine wpG_takeT (i := 2) (v := .pointer (some ⟨w.heap.size + 1, 0, none⟩)) rfl (fun L hc h => (hc.waits (n := 10) (i := 4) (by kernel_rfl) (hc.waits (n := 4) (i := 3) (by kernel_rfl) (hc.waits (n := 3) (i := 2) (by kernel_rfl) h)))) (by kernel_rfl) (fun _ _ _ h => h) hA (.inl ⟨rfl, fun w5 q1 => ?_⟩) ?_
  · go_simp
  simp only [Act.put, List.setIfInBounds_toArray, List.set]
  refine wpG_takeT (i := 3) (v := .int .i64 b0) rfl (fun L hc h => (hc.waits (n := 10) (i := 4) (by kernel_rfl) (hc.waits (n := 4) (i := 3) (by kernel_rfl) h))) (by kernel_rfl) (fun _ _ _ h => h) hA (.inl ⟨rfl, fun w5 q1 => ?_⟩) ?_
  · obtain ⟨c0, c1, c2⟩ := cells3_of ((q1.block _ (lt_of_heap HX2.out) (fun e => e)).trans HX2.out)
    go_simp
  simp only [Act.put, List.setIfInBounds_toArray, List.set]
  refine wpG_takeT (i := 5) (v := .pointer (some ⟨w.heap.size, 1, none⟩)) rfl (fun L hc h => (hc.waits (n := 10) (i := 9) (by kernel_rfl) (hc.waits (n := 9) (i := 6) (by kernel_rfl) (hc.waits (n := 6) (i := 5) (by kernel_rfl) h)))) (by kernel_rfl) (fun _ _ _ h => h) hA (.inl ⟨rfl, fun w5 q1 => ?_⟩) ?_
  · go_simp
  simp only [Act.put, List.setIfInBounds_toArray, List.set]
  refine wpG_takeT (i := 6) (v := .int .i64 a1) rfl (fun L hc h => (hc.waits (n := 10) (i := 9) (by kernel_rfl) (hc.waits (n := 9) (i := 6) (by kernel_rfl) h))) (by kernel_rfl) (fun _ _ _ h => h) hA (.inl ⟨rfl, fun w5 q1 => ?_⟩) ?_
  · obtain ⟨c0, c1, c2⟩ := cells3_of ((q1.block _ (lt_of_heap HX1.out) (fun e => e)).trans HX1.out)
    go_simp
  simp only [Act.put, List.setIfInBounds_toArray, List.set]
  refine wpG_takeT (i := 7) (v := .pointer (some ⟨w.heap.size + 1, 1, none⟩)) rfl (fun L hc h => (hc.waits (n := 10) (i := 9) (by kernel_rfl) (hc.waits (n := 9) (i := 8) (by kernel_rfl) (hc.waits (n := 8) (i := 7) (by kernel_rfl) h)))) (by kernel_rfl) (fun _ _ _ h => h) hA (.inl ⟨rfl, fun w5 q1 => ?_⟩) ?_
  · go_simp
  simp only [Act.put, List.setIfInBounds_toArray, List.set]
  refine wpG_takeT (i := 8) (v := .int .i64 b1) rfl (fun L hc h => (hc.waits (n := 10) (i := 9) (by kernel_rfl) (hc.waits (n := 9) (i := 8) (by kernel_rfl) h))) (by kernel_rfl) (fun _ _ _ h => h) hA (.inl ⟨rfl, fun w5 q1 => ?_⟩) ?_
  · obtain ⟨c0, c1, c2⟩ := cells3_of ((q1.block _ (lt_of_heap HX2.out) (fun e => e)).trans HX2.out)
    go_simp
  simp only [Act.put, List.setIfInBounds_toArray, List.set]
  refine wpG_doIf (i := 4) rfl (by kernel_rfl) rfl (fun K hK => ?_)
  have HKK := Lib.hid hK
  clear hK
  go_step
  refine (cmp_any a0 b0 _).mono ?_
  rintro e w6 ⟨rfl, rfl⟩
  simp only []
  refine HKK.out _ _ hA ?_
  clear HKK
  simp only [Act.put, List.setIfInBounds_toArray, List.set]
  refine wpG_doIf (i := 9) rfl (by kernel_rfl) rfl (fun K hK => ?_)
  have HKK := Lib.hid hK
  clear hK
  go_step
  refine (cmp_any a1 b1 _).mono ?_
  rintro e w6 ⟨rfl, rfl⟩
  simp only []
  refine HKK.out _ _ hA ?_
  clear HKK
  simp only [Act.put, List.setIfInBounds_toArray, List.set]
  refine wpG_tail_lit (k := 10) rfl rfl (by kernel_rfl) ?_
  simp only [List.drop]
  go_wp2_with (go_at_call 212; fail)
  refine (or_any (a := some ⟨wd.heap.size, 0, none⟩) (l := [cmpI a0 b0, cmpI a1 b1]) (c := 2) _ (IntsIn.of_block (t := 3) (alloc_at rfl)) (by simp)).mono ?_
  rintro e w6 ⟨rfl, rfl⟩
  go_wp2
  go_ret
  exact ⟨rfl, HU.out.trans (hA.alloc _)⟩
def sameK (a b : RecV) : Bool := (a.src == b.src) && (a.key == b.key)
/-- What an operator keeps of a key: a count and a sum. -/
structure CellV where
  count : Int
  sum : Int
deriving DecidableEq
def CellV.none (c : CellV) : Bool := c.count == 0 && c.sum == 0
def fitsB (o : OpM) (c : CellV) : Bool := if keepsB o then (decide (0 < c.count) || c.none) && (o.tag == 4 || decide (c.count < o.a)) else c.none
theorem fits_any (o : OpM) (c : CellV) (w : World) : Calls Tryz.prog 253 #[.agg #[.int .i64 o.tag, .int .i64 o.width, .slice o.ia o.ins.length o.ic, .int .i64 o.a, .int .i64 o.b], .agg #[.int .i64 c.count, .int .i64 c.sum]] w fun e w' => e = .returned (.bool (fitsB o c)) ∧ Upd0 w w' := by
  cases hkb : keepsB o
  · go_enter Tryz.func253, Tryz.ntmps253
    go_wp2_with (go_at_call 157; refine (keeps_any o _).mono ?_; rintro e w' ⟨rfl, hu⟩; obtain ⟨hc, hf⟩ := hu.get)
    all_goals go_ret
    all_goals refine ⟨ret_bool ?_, (((Upd.refl _ w).alloc _).alloc _).trans hu⟩
    all_goals (clear hu hc hf; try simp only [beq_iff_eq, beq_eq_false_iff_ne, bne_iff_ne, bne_eq_false_iff_eq, ne_eq] at *)
    all_goals rw [Bool.eq_iff_iff]
    all_goals (simp [fitsB, hkb, CellV.none]; try omega)
  · go_enter Tryz.func253, Tryz.ntmps253
    go_wp2_with (go_at_call 157; refine (keeps_any o _).mono ?_; rintro e w' ⟨rfl, hu⟩; obtain ⟨hc, hf⟩ := hu.get)
    all_goals go_ret
    all_goals refine ⟨ret_bool ?_, (((Upd.refl _ w).alloc _).alloc _).trans hu⟩
    all_goals (clear hu hc hf; try simp only [beq_iff_eq, beq_eq_false_iff_ne, bne_iff_ne, bne_eq_false_iff_eq, ne_eq] at *)
    all_goals rw [Bool.eq_iff_iff]
    all_goals (simp [fitsB, hkb, CellV.none]; try omega)

/-- Why an operator can't do anything with a cell. -/
def rightI (o : OpM) (c : CellV) : Int := if o.alone 8 then (if fitsB o c then 0 else 181) else 180
theorem right_any (o : OpM) (c : CellV) (w : World) (h : IntsIn w o.ia o.ins) (hl : o.ins.length ≤ 140737488351232) :
    Calls Tryz.prog 182 #[.agg #[.int .i64 o.tag, .int .i64 o.width, .slice o.ia o.ins.length o.ic, .int .i64 o.a, .int .i64 o.b], .agg #[.int .i64 c.count, .int .i64 c.sum]] w fun e w' => e = .returned (.int .i64 (rightI o c)) ∧ Upd0 w w' := by
  have hU := (((Upd.refl (fun _ => False) w).alloc (.cells #[.int .i64 o.tag, .int .i64 o.width, .slice o.ia o.ins.length o.ic, .int .i64 o.a, .int .i64 o.b] 89)).alloc (.cells #[.int .i64 c.count, .int .i64 c.sum] 61))
  have HA := Lib.hid (alone_any o 8 _ (h.kept hU) hl)
  clear h hl hU
  unfold rightI
  cases ha : o.alone 8
  · rw [ha] at HA
    go_enter Tryz.func182, Tryz.ntmps182
    go_wp2_with (go_at_call 226; refine HA.out.mono ?_; rintro e w' ⟨rfl, hu⟩; obtain ⟨hc, hf⟩ := hu.get)
    go_ret
    exact ⟨rfl, (((Upd.refl _ w).alloc _).alloc _).trans hu⟩
  · rw [ha] at HA
    cases hb : fitsB o c
    all_goals
      go_enter Tryz.func182, Tryz.ntmps182
      go_wp2_with (first | (go_at_call 226; refine HA.out.mono ?_; rintro e w' ⟨rfl, hu⟩; obtain ⟨hc, hf⟩ := hu.get) | (go_at_call 253; refine (fits_any o c _).mono ?_; rintro e w'' ⟨rfl, hu2⟩; obtain ⟨hc2, hf2⟩ := hu2.get))
      go_ret
      exact ⟨rfl, ((((Upd.refl _ w).alloc _).alloc _).trans hu).trans hu2⟩
end Go.Proofs.YtbonfdkgkcbkmaaGreat
end

section
namespace Go.Proofs.YtbonfdkgkcbkmaaGreat
set_option maxRecDepth 100000
open Go.RowKit

theorem rangeAt_block {w : World} {b : Nat} {cs : List Value} {t : TypeId} (h : w.heap[b]? = some (.cells cs.toArray t (0, 0))) : w.rangeAt b 0 cs := by
  intro j u hu
  rw [Nat.zero_add, cell_of_heap h]
  simpa using hu
theorem there_block {w : World} {b : Nat} {cs : Array Value} {t : TypeId} (h : w.heap[b]? = some (.cells cs t (0, 0))) : w.there b 0 cs.size := fun j hj =>
  ⟨by rw [cell_of_heap h]; simp [hj], frozen_of_heap h⟩
theorem Upd.setCells {F : Nat → Prop} {b : Nat} (hb : F b) : ∀ (vs : List Value) (o : Nat) {a w : World}, Upd F a w → Upd F a (w.setCells b o vs)
  | [], _, _, _, h => h
  | v :: r, o, _, _, h => Upd.setCells hb r (o + 1) (h.setCell (p := ⟨b, o, none⟩) (.inl hb) v)
theorem upd_setCells (w : World) (g o : Nat) (vs : List Value) : Upd (fun k => k = g) w (w.setCells g o vs) := Upd.setCells (F := fun k => k = g) rfl vs o (Upd.refl _ w)
theorem results_c {P : Program} {fn : Func} {ts : Array Value} {w : World} {a : Nat} {t : TypeId} {p : Addr} {v : Value} (hr : fn.results = #[.cell a t]) (ha : ts.getD a undef = .pointer (some p)) (hl : (loadVar t p).run P w = .ok v w) :
    (Go.results fn ts).run P w = .ok v w := by
  unfold Go.results
  rw [hr]
  have ha' : ts[a]?.getD undef = .pointer (some p) := by simpa using ha
  simp [asAddr, ha', hl]
theorem results_ct {P : Program} {fn : Func} {ts : Array Value} {w : World} {a u : Nat} {t : TypeId} {p : Addr} {v : Value} (hr : fn.results = #[.cell a t, .tmp u]) (ha : ts.getD a undef = .pointer (some p)) (hl : (loadVar t p).run P w = .ok v w) :
    (Go.results fn ts).run P w = .ok (.tuple #[v, ts.getD u undef]) w := by
  unfold Go.results
  rw [hr]
  have ha' : ts[a]?.getD undef = .pointer (some p) := by simpa using ha
  simp [asAddr, ha', hl]
theorem put2 {W : World} {t : Nat} {x y u v : Value} {ty : TypeId} (h : W.heap[t]? = some (.cells #[x, y] ty (0, 0))) :
    ((W.setCell ⟨t, 0, none⟩ u).setCell ⟨t, 1, none⟩ v).heap[t]? = some (.cells #[u, v] ty (0, 0)) ∧ Upd (fun k => k = t) W ((W.setCell ⟨t, 0, none⟩ u).setCell ⟨t, 1, none⟩ v) := by
  refine ⟨?_, (upd_own W t 0 _).trans (upd_own _ t 1 _)⟩
  have := blk_set (i := 1) (v := v) (blk_set (i := 0) (v := u) h)
  simpa using this
theorem put8 {W : World} {t : Nat} {x0 x1 x2 x3 x4 x5 x6 x7 v0 v1 v2 v3 v4 v5 v6 v7 : Value} {ty : TypeId} (h : W.heap[t]? = some (.cells #[x0, x1, x2, x3, x4, x5, x6, x7] ty (0, 0))) :
    ((((((((W.setCell ⟨t, 0, none⟩ v0).setCell ⟨t, 1, none⟩ v1).setCell ⟨t, 2, none⟩ v2).setCell ⟨t, 3, none⟩ v3).setCell ⟨t, 4, none⟩ v4).setCell ⟨t, 5, none⟩ v5).setCell ⟨t, 6, none⟩ v6).setCell ⟨t, 7, none⟩ v7).heap[t]? = some (.cells #[v0, v1, v2, v3, v4, v5, v6, v7] ty (0, 0)) ∧
    Upd (fun k => k = t) W ((((((((W.setCell ⟨t, 0, none⟩ v0).setCell ⟨t, 1, none⟩ v1).setCell ⟨t, 2, none⟩ v2).setCell ⟨t, 3, none⟩ v3).setCell ⟨t, 4, none⟩ v4).setCell ⟨t, 5, none⟩ v5).setCell ⟨t, 6, none⟩ v6).setCell ⟨t, 7, none⟩ v7) := by
  refine ⟨?_, (((((((upd_own W t 0 _).trans (upd_own _ t 1 _)).trans (upd_own _ t 2 _)).trans (upd_own _ t 3 _)).trans (upd_own _ t 4 _)).trans (upd_own _ t 5 _)).trans (upd_own _ t 6 _)).trans (upd_own _ t 7 _)⟩
  have := blk_set (i := 7) (v := v7) (blk_set (i := 6) (v := v6) (blk_set (i := 5) (v := v5) (blk_set (i := 4) (v := v4) (blk_set (i := 3) (v := v3) (blk_set (i := 2) (v := v2) (blk_set (i := 1) (v := v1) (blk_set (i := 0) (v := v0) h)))))))
  simpa using this
end Go.Proofs.YtbonfdkgkcbkmaaGreat
end

section
namespace Go.Proofs.YtbonfdkgkcbkmaaGreat
set_option maxRecDepth 100000
set_option maxRecDepth 100000
open Go.RowKit

def CellV.val (c : CellV) : Value := .agg #[.int .i64 c.count, .int .i64 c.sum]
/-- A cell with a value more. -/
def CellV.add (c : CellV) (v : Int) : CellV := ⟨c.count + 1, wrap64 (c.sum + v)⟩
end Go.Proofs.YtbonfdkgkcbkmaaGreat
end

section
namespace Go.Proofs.YtbonfdkgkcbkmaaGreat
set_option maxRecDepth 100000
set_option maxRecDepth 100000
open Go.RowKit

end Go.Proofs.YtbonfdkgkcbkmaaGreat
end

