/- Frames for LeaseOne: what changed; rows of cells of one's own; the map of what was lost. -/
import Derived.Test.YtgeieeohaeeccaaX1
import Derived.Maps.Views
import Derived.Lib.Hide
import Derived.Maps.Own
import Derived.Deep.RegionHeld3
namespace Go.Proofs.Ytgeieeohaeeccaa
open Go.RowKit

/-- Only what F names, and new blocks, may have changed. -/
structure Upd (F : Nat → Prop) (w w' : World) : Prop where
  os : w'.os = w.os
  tape : w'.tape = w.tape
  output : w'.output = w.output
  size : w.heap.size ≤ w'.heap.size
  block : ∀ k, k < w.heap.size → ¬ F k → w'.heap[k]? = w.heap[k]?

theorem Upd.refl (F : Nat → Prop) (w : World) : Upd F w w := ⟨rfl, rfl, rfl, Nat.le_refl _, fun _ _ _ => rfl⟩
theorem Upd.trans {F : Nat → Prop} {a b c : World} (h : Upd F a b) (k : Upd F b c) : Upd F a c :=
  ⟨k.os.trans h.os, k.tape.trans h.tape, k.output.trans h.output, Nat.le_trans h.size k.size, fun i hi hf => (k.block i (Nat.lt_of_lt_of_le hi h.size) hf).trans (h.block i hi hf)⟩
theorem Upd.mono {F G : Nat → Prop} {w w' : World} (h : Upd F w w') (hg : ∀ k, k < w.heap.size → F k → G k) : Upd G w w' := ⟨h.os, h.tape, h.output, h.size, fun k hk hn => h.block k hk (fun hf => hn (hg k hk hf))⟩
theorem Upd.drew {F : Nat → Prop} {a w : World} (h : Upd F a w) : Upd F a w.drew := ⟨h.os, h.tape, h.output, h.size, h.block⟩
theorem Upd.undrew {F : Nat → Prop} {a w : World} (h : Upd F a.drew w) : Upd F a w := ⟨h.os, h.tape, h.output, h.size, h.block⟩
theorem Upd.alloc {F : Nat → Prop} {a w : World} (h : Upd F a w) (o : Obj) : Upd F a (w.alloc o) :=
  ⟨h.os, h.tape, h.output, Nat.le_trans h.size (by simp), fun k hk hf => (alloc_lt (Nat.lt_of_lt_of_le hk h.size)).trans (h.block k hk hf)⟩
theorem Upd.setCell {F : Nat → Prop} {a w : World} (h : Upd F a w) {p : Addr} (hp : F p.block ∨ a.heap.size ≤ p.block) (u : Value) : Upd F a (w.setCell p u) :=
  ⟨h.os, h.tape, h.output, Nat.le_trans h.size (by simp [World.setCell]), fun k hk hf => by
    rw [set_ne]
    · exact h.block k hk hf
    · rintro rfl; rcases hp with hp | hp
      · exact hf hp
      · omega⟩
theorem Upd.of_below {F : Nat → Prop} {w w' : World} (h : Below w.heap.size w w') : Upd F w w' := ⟨h.os, h.tape, h.output, h.size, fun k hk _ => h.block k hk⟩
theorem Upd.of_grown {F : Nat → Prop} {w w' : World} {row : Option Nat} (h : w.grownBy w' row) (hr : ∀ k, row = some k → F k) : Upd F w w' :=
  ⟨h.os, h.tape, h.output, h.size, fun k hk hf => h.block k hk (fun e => hf (hr k e.symm))⟩
theorem Upd.step {F G : Nat → Prop} {w w1 w2 : World} (h : Upd F w w1) (k : Upd G w1 w2) (hg : ∀ k, k < w.heap.size → G k → F k) : Upd F w w2 :=
  ⟨k.os.trans h.os, k.tape.trans h.tape, k.output.trans h.output, Nat.le_trans h.size k.size, fun i hi hf =>
    (k.block i (Nat.lt_of_lt_of_le hi h.size) (fun hx => hf (hg i hi hx))).trans (h.block i hi hf)⟩

theorem cell_kept {w w' : World} (hu : Upd (fun _ => False) w w') {x : Addr} {v : Value} (h : w.cell? x = some v) : w'.cell? x = some v := by
  have hlt : x.block < w.heap.size := by
    rcases Nat.lt_or_ge x.block w.heap.size with h' | h'
    · exact h'
    · simp [World.cell?, Array.getElem?_eq_none h'] at h
  rw [← h]
  simp only [World.cell?]
  rw [hu.block x.block hlt (fun e => e)]

theorem Upd.below {w w' : World} (h : Upd (fun _ => False) w w') : Below w.heap.size w w' := ⟨h.os, h.tape, h.output, h.size, fun k hk => h.block k hk (fun e => e)⟩

theorem own_cell2 {w : World} {B : Nat} {e : TypeId} {n uc : Nat} {ua : Option Addr} {xs : List Value} (h : w.ownsRow B e 2 (.slice ua n uc) n xs) {j : Nat} (hj : j < n) : ∃ g, ua = some ⟨g, 0, none⟩ ∧ g < w.heap.size ∧ B ≤ g ∧ w.cell? ⟨g, j * 2, none⟩ = xs[j * 2]? ∧ w.cell? ⟨g, j * 2 + 1, none⟩ = xs[j * 2 + 1]? := by
  rcases h.2 with ⟨_, rfl⟩ | ⟨g, cap, cur, e1, h1, h2, _⟩
  · omega
  · simp only [Value.slice.injEq, true_and] at e1
    obtain ⟨rfl, rfl⟩ := e1
    exact ⟨g, rfl, lt_of_heap h2, h1, World.ownsRow.cellAt h (j * 2) (by omega), World.ownsRow.cellAt h (j * 2 + 1) (by omega)⟩

/-! ### What was lost, as a map in memory -/
def lostOf (D : DataW Empty) (n : Int) : Bool := match D.atKey (.int .u64 n) (.lit (.bool false)) with
  | .lit (.bool x) => x
  | _ => false

theorem plainElem_bool_inv {P : Program} {e : TypeId} (he : P.underlying e = some .bool) {v : Value} {z : DataW Empty × List MemPlace} (h : plainElem P e v = some z) : ∃ x, v = .bool x ∧ z = (.lit (.bool x), []) := by
  unfold plainElem at h
  rw [he] at h
  cases v <;> simp at h
  case bool x => exact ⟨x, rfl, h.symm⟩

theorem Try.underlying41m : Try.prog.underlying 41 = some (.map 22 4) := by kernel_rfl

theorem u64_wf {n : Int} (hn : 0 ≤ n ∧ n ≤ 1000) : (Lit.int .u64 n).wf = true := by simp [Lit.wf, IntKind.min, IntKind.max, IntKind.signed, IntKind.bits]; omega

theorem look_lost {w : World} {mb m : Nat} {M : DataW Empty} {n : Int} (hown : w.ownsMap Try.prog 22 (plainElem Try.prog 4) mb m M) (hn : 0 ≤ n ∧ n ≤ 1000) :
    (Instr.lookup 41 (.map (some mb)) (.int .u64 n) false).run Try.prog w = .ok (.bool (lostOf M n)) w := by
  obtain ⟨v, ps, hrun, hv⟩ := hown.lookup (Maps.int_keyed Try.underlying22) Try.underlying41m (z := .bool false) (by kernel_rfl) (plainElem_bool Try.underlying4 false) (key := .int .u64 n) (Maps.keyOf_int_mk Try.underlying22 (u64_wf hn))
  obtain ⟨x, rfl, hx⟩ := plainElem_bool_inv Try.underlying4 hv
  rw [hrun]
  have : lostOf M n = x := by
    unfold lostOf
    rw [(Prod.mk.inj hx).1]
  rw [this]

theorem lostOf_other {D : DataW Empty} {n k : Int} {b : Bool} (h : n ≠ k) : lostOf (D.put (.int .u64 k) (.lit (.bool b))) n = lostOf D n := by
  unfold lostOf
  rw [Maps.atKey_put_other (by simpa using h)]

theorem lostOf_same {D : DataW Empty} {k : Int} {b : Bool} (hD : Maps.IsMap D) : lostOf (D.put (.int .u64 k) (.lit (.bool b))) k = b := by
  unfold lostOf
  rw [Maps.atKey_put_same hD (by trivial)]

/-- The map says of the numbers 1 .. m that they are lost, and of no other. -/
structure LostTo (w : World) (mb u m : Nat) (D : DataW Empty) : Prop where
  own : w.ownsMap Try.prog 22 (plainElem Try.prog 4) mb u D
  map : Maps.IsMap D
  says : ∀ n : Int, lostOf D n = decide (1 ≤ n ∧ n ≤ m)

theorem LostTo.kept {w w' : World} {mb u m : Nat} {D : DataW Empty} {G : Nat → Prop} (h : LostTo w mb u m D) (hu : Upd G w w') (hg : ¬ G mb) : LostTo w' mb u m D :=
  ⟨by
    obtain ⟨es, clock, hb, r⟩ := h.own
    exact ⟨es, clock, (hu.block mb (lt_of_heap hb) hg).trans hb, r⟩, h.map, h.says⟩

theorem lost_start (w : World) : LostTo (w.alloc (.map #[] 0)) w.heap.size 0 0 (.map []) :=
  ⟨World.ownsMap_made w Try.prog 22 _, Maps.isMap_empty, fun n => by
    have : lostOf (.map []) n = false := rfl
    rw [this]; symm; simp; omega⟩

/-- What a round of marking leaves: to k of them, those ahead already marked to m. -/
structure LostAt (w : World) (mb u k m : Nat) (D : DataW Empty) : Prop where
  own : w.ownsMap Try.prog 22 (plainElem Try.prog 4) mb u D
  map : Maps.IsMap D
  says : ∀ n : Int, lostOf D n = decide (1 ≤ n ∧ (n ≤ m ∨ n ≤ k))

theorem LostTo.at {w : World} {mb u m : Nat} {D : DataW Empty} (h : LostTo w mb u m D) : LostAt w mb u 0 m D :=
  ⟨h.own, h.map, fun n => by rw [h.says]; congr 1; simp; omega⟩

theorem LostAt.to {w : World} {mb u k m : Nat} {D : DataW Empty} (h : LostAt w mb u k m D) (hk : m ≤ k) : LostTo w mb u k D :=
  ⟨h.own, h.map, fun n => by rw [h.says]; congr 1; simp; omega⟩

theorem LostAt.kept {w w' : World} {mb u k m : Nat} {D : DataW Empty} {G : Nat → Prop} (h : LostAt w mb u k m D) (hu : Upd G w w') (hg : ¬ G mb) : LostAt w' mb u k m D :=
  ⟨by
    obtain ⟨es, clock, hb, r⟩ := h.own
    exact ⟨es, clock, (hu.block mb (lt_of_heap hb) hg).trans hb, r⟩, h.map, h.says⟩

theorem LostAt.step {w w' : World} {mb u k m : Nat} {D : DataW Empty} (h : LostAt w mb u k m D) (h2 : w'.ownsMap Try.prog 22 (plainElem Try.prog 4) mb (u + 1) (D.put (.int .u64 (k + 1 : Nat)) (.lit (.bool true)))) :
    LostAt w' mb (u + 1) (k + 1) m (D.put (.int .u64 (k + 1 : Nat)) (.lit (.bool true))) :=
  ⟨h2, h.map.put _ _, fun n => by
    by_cases e : n = (k + 1 : Nat)
    · rw [e, lostOf_same h.map]; symm; simp; omega
    · rw [lostOf_other e, h.says]; congr 1; simp; omega⟩

/-- Who acquired, as cells: numbers, with epochs 1, 2, 3 .. -/
def whoC : Nat → List Int → List Value
  | _, [] => []
  | k, x :: ns => .int .i64 x :: .int .u64 (k + 1 : Nat) :: whoC (k + 1) ns

theorem whoC_length : ∀ (ns : List Int) (k : Nat), (whoC k ns).length = ns.length * 2
  | [], _ => rfl
  | x :: ns, k => by simp [whoC, whoC_length ns]; omega

theorem whoC_get : ∀ (ns : List Int) (k i : Nat) (x : Int), ns[i]? = some x → (whoC k ns)[i * 2]? = some (.int .i64 x) ∧ (whoC k ns)[i * 2 + 1]? = some (.int .u64 (k + i + 1 : Nat))
  | [], _, _, _, h => by simp at h
  | y :: ns, k, 0, x, h => by simp at h; subst h; simp [whoC]
  | y :: ns, k, i + 1, x, h => by
    have := whoC_get ns (k + 1) i x (by simpa using h)
    rw [show (i + 1) * 2 = i * 2 + 2 by omega]
    simp only [whoC, List.getElem?_cons_succ]
    refine ⟨this.1, this.2.trans ?_⟩
    congr 3; omega

theorem whoC_snoc : ∀ (ns : List Int) (k : Nat) (x : Int), whoC k (ns ++ [x]) = whoC k ns ++ [.int .i64 x, .int .u64 (k + ns.length + 1 : Nat)]
  | [], k, x => by simp [whoC]
  | y :: ns, k, x => by
    simp only [List.cons_append, whoC, whoC_snoc ns (k + 1) x, List.length_cons]
    rw [show k + 1 + ns.length + 1 = k + (ns.length + 1) + 1 by omega]

end Go.Proofs.Ytgeieeohaeeccaa
