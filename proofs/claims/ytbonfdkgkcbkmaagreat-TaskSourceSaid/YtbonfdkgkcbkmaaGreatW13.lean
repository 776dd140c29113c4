/- Walks: records sorted by their keys. -/
import Derived.Test.YtbonfdkgkcbkmaaGreatW1
import Derived.Test.YtbonfdkgkcbkmaaGreatW4
import Derived.Test.YtbonfdkgkcbkmaaGreatW5
import Derived.Test.YtbonfdkgkcbkmaaGreatW8
import Derived.Test.YtbonfdkgkcbkmaaGreatW10
import Derived.Test.YtbonfdkgkcbkmaaGreatW11
import Derived.Test.YtbonfdkgkcbkmaaGreatW12
import Derived.Sort.Statements
import Derived.Shelf.GgSortFunc.InsertionK
set_option linter.unusedVariables false
set_option linter.unusedSimpArgs false

section
namespace Go.Proofs.YtbonfdkgkcbkmaaGreat
set_option maxRecDepth 100000
open Go.RowKit Go.Shelf Go.Sort

/-- Nothing but new blocks, and draws. -/
def UpdD (w w' : World) : Prop := Upd0 w w' ∧ w.drawn ≤ w'.drawn
theorem UpdD.grow {w w' : World} (h : UpdD w w') : ∃ q vs, w' = grow (w.drewN q) vs := by
  obtain ⟨hu, hd⟩ := h
  refine ⟨w'.drawn - w.drawn, w'.heap.extract w.heap.size w'.heap.size, ?_⟩
  have hh : w'.heap = w.heap ++ w'.heap.extract w.heap.size w'.heap.size := by
    apply Array.ext_getElem?
    intro i
    rw [Array.getElem?_append]
    split
    · rename_i hi
      exact hu.block i hi (fun e => e)
    · rename_i hi
      rw [Array.getElem?_extract]
      split
      · congr 1; omega
      · rw [Array.getElem?_eq_none (by omega)]
  have h1 : ∀ (a b : World), a.heap = b.heap → a.tape = b.tape → a.drawn = b.drawn → a.os = b.os → a.output = b.output → a = b := fun a b h1 h2 h3 h4 h5 => by
    cases a; cases b; simp_all
  have hn : ∀ (n : Nat) (v : World), (v.drewN n).heap = v.heap ∧ (v.drewN n).tape = v.tape ∧ (v.drewN n).drawn = v.drawn + n ∧ (v.drewN n).os = v.os ∧ (v.drewN n).output = v.output := fun n v => by
    simp [World.drewN]
  obtain ⟨k1, k2, k3, k4, k5⟩ := hn (w'.drawn - w.drawn) w
  refine h1 _ _ ?_ ?_ ?_ ?_ ?_
  · show w'.heap = (w.drewN (w'.drawn - w.drawn)).heap ++ w'.heap.extract w.heap.size w'.heap.size
    rw [k1]; exact hh
  · show w'.tape = (w.drewN (w'.drawn - w.drawn)).tape
    rw [k2]; exact hu.tape
  · show w'.drawn = (w.drewN (w'.drawn - w.drawn)).drawn
    rw [k3]; omega
  · show w'.os = (w.drewN (w'.drawn - w.drawn)).os
    rw [k4]; exact hu.os
  · show w'.output = (w.drewN (w'.drawn - w.drawn)).output
    rw [k5]; exact hu.output
instance : Inhabited RecV := ⟨⟨0, 0, 0⟩⟩
end Go.Proofs.YtbonfdkgkcbkmaaGreat
end

section
namespace Go.Proofs.YtbonfdkgkcbkmaaGreat
set_option maxRecDepth 100000
open Go.RowKit Go.Shelf

attribute [local go_sem] Oper.semAt_some
/-! ### Runs of one key: the first alone -/
def compFrom (prev : RecV) : List RecV → List RecV
  | [] => []
  | r :: l => (if sameK r prev then [] else [r]) ++ compFrom r l
def compK : List RecV → List RecV
  | [] => []
  | r :: l => r :: compFrom r l
theorem compFrom_snoc (r : RecV) : ∀ (l : List RecV) (prev : RecV), compFrom prev (l ++ [r]) = compFrom prev l ++ (if sameK r (l.getLastD prev) then [] else [r])
  | [], prev => by simp [compFrom]
  | x :: l, prev => by
    rw [List.cons_append, compFrom, compFrom, compFrom_snoc r l x, List.append_assoc, List.getLastD_cons]
theorem compK_snoc {l : List RecV} {p : RecV} (r : RecV) (hp : l.getLast? = some p) : compK (l ++ [r]) = compK l ++ (if sameK r p then [] else [r]) := by
  match l, hp with
  | x :: l, hp =>
    rw [List.cons_append, compK, compK, compFrom_snoc, List.cons_append]
    have : l.getLastD x = p := by
      cases l <;> simp_all
    rw [this]
theorem compK_next {l : List RecV} {k : Nat} {r p : RecV} (hr : l[k + 1]? = some r) (hp : l[k]? = some p) : compK (l.take (k + 2)) = compK (l.take (k + 1)) ++ (if sameK r p then [] else [r]) := by
  rw [take_cons' hr]
  refine compK_snoc r ?_
  rw [take_cons' hp]
  simp
theorem flat3_map (l : List RecV) : flat3 l = (l.map RecV.cells).flatten := by rw [flat3, List.flatMap_def]
theorem mapR_lens (l : List RecV) : ∀ y ∈ l.map RecV.cells, y.length = 3 := fun y hy => by obtain ⟨r, _, rfl⟩ := List.mem_map.1 hy; rfl
theorem own_put3 {w : World} {B g n c i : Nat} {l : List RecV} {r : RecV} (h : w.ownsRow B 36 3 (.slice (some ⟨g, 0, none⟩) n c) n (flat3 l)) (hn : l.length = n) (hi : i < n) :
    (w.setCells g (i * 3) r.cells).ownsRow B 36 3 (.slice (some ⟨g, 0, none⟩) n c) n (flat3 (l.set i r)) := by
  rw [flat3_map] at h ⊢
  rw [List.map_set]
  exact own_setR (by omega) h (mapR_lens l) (by simpa using hn) rfl hi
/-- Phase two: what stands in the row. -/
structure CpR (w : World) (B g c k0 : Nat) (l : List RecV) (j m : Nat) (W : World) : Prop where
  meq : m = (compK (l.take (k0 + j))).length
  lt : m < k0 + j
  row : W.ownsRow B 36 3 (.slice (some ⟨g, 0, none⟩) l.length c) l.length (flat3 (compK (l.take (k0 + j)) ++ l.drop m))
  upd : Upd (fun k => k = g) w W
theorem CpR.at {w : World} {B g c k0 : Nat} {l : List RecV} {j m : Nat} {W : World} (h : CpR w B g c k0 l j m W) {i : Nat} {r : RecV} (hi : m ≤ i) (hr : l[i]? = some r) : (compK (l.take (k0 + j)) ++ l.drop m)[i]? = some r := by
  rw [List.getElem?_append_right (by rw [← h.meq]; exact hi), ← h.meq, List.getElem?_drop, show m + (i - m) = i by omega, hr]
theorem CpR.len {w : World} {B g c k0 : Nat} {l : List RecV} {j m : Nat} {W : World} (h : CpR w B g c k0 l j m W) (hj : k0 + j ≤ l.length) : (compK (l.take (k0 + j)) ++ l.drop m).length = l.length := by
  have := h.lt
  rw [List.length_append, ← h.meq, List.length_drop]; omega
theorem CpR.kept0 {w : World} {B g c k0 : Nat} {l : List RecV} {j m : Nat} {W W' : World} (h : CpR w B g c k0 l j m W) (hu : Upd0 W W') : CpR w B g c k0 l j m W' :=
  ⟨h.meq, h.lt, ownsRow_any h.row hu (fun _ _ e => e), h.upd.trans (hu.mono (fun _ _ e => e.elim))⟩
theorem CpR.skip {w : World} {B g c k0 : Nat} {l : List RecV} {j m : Nat} {W : World} {r p : RecV} (h : CpR w B g c k0 l (j + 1) m W) (hr : l[k0 + (j + 1)]? = some r) (hp : l[k0 + j]? = some p) (hs : sameK r p = true) : CpR w B g c k0 l (j + 1 + 1) m W := by
  have e : compK (l.take (k0 + (j + 1 + 1))) = compK (l.take (k0 + (j + 1))) := by
    have := compK_next (l := l) (k := k0 + j) (r := r) (p := p) (by rw [← hr]; rfl) hp
    rw [hs, if_pos rfl, List.append_nil] at this
    exact this
  exact ⟨by rw [e]; exact h.meq, by have := h.lt; omega, by rw [e]; exact h.row, h.upd⟩
theorem CpR.put {w : World} {B g c k0 : Nat} {l : List RecV} {j m : Nat} {W : World} {r p : RecV} (h : CpR w B g c k0 l (j + 1) m W) (hr : l[k0 + (j + 1)]? = some r) (hp : l[k0 + j]? = some p) (hs : sameK r p = false) :
    CpR w B g c k0 l (j + 1 + 1) (m + 1) (W.setCells g (m * 3) r.cells) := by
  have e : compK (l.take (k0 + (j + 1 + 1))) = compK (l.take (k0 + (j + 1))) ++ [r] := by
    have := compK_next (l := l) (k := k0 + j) (r := r) (p := p) (by rw [← hr]; rfl) hp
    rw [hs] at this
    exact this
  have hkl := (List.getElem?_eq_some_iff.1 hr).1
  have hlt := h.lt
  have hlen := h.len (by omega)
  obtain ⟨y, hy⟩ : ∃ y, l[m]? = some y := ⟨_, List.getElem?_eq_getElem (by omega)⟩
  refine ⟨by rw [e, List.length_append, ← h.meq]; rfl, by omega, ?_, h.upd.trans (upd_setCells _ _ _ _)⟩
  have hput := own_put3 (i := m) (r := r) h.row hlen (by omega)
  have e2 : (compK (l.take (k0 + (j + 1))) ++ l.drop m).set m r = compK (l.take (k0 + (j + 1 + 1))) ++ l.drop (m + 1) := by
    rw [e, List.set_append_right _ _ (by rw [← h.meq]; exact Nat.le_refl _), ← h.meq, Nat.sub_self, drop_cons' hy, List.set_cons_zero, List.append_assoc]
    rfl
  rw [e2] at hput
  exact hput
end Go.Proofs.YtbonfdkgkcbkmaaGreat
end

section
namespace Go.Proofs.YtbonfdkgkcbkmaaGreat
set_option maxRecDepth 100000
open Go.RowKit Go.Shelf

attribute [local go_sem] Oper.semAt_some
/-! ### The keys of an input -/
/-! ### Sorted and compacted, whoever's slice that is -/
end Go.Proofs.YtbonfdkgkcbkmaaGreat
end

section
namespace Go.Proofs.YtbonfdkgkcbkmaaGreat
set_option maxRecDepth 100000
open Go.RowKit Go.Shelf

attribute [local go_sem] Oper.semAt_some
structure KcV where
  src : Int
  key : Int
  count : Int
  sum : Int
def KcV.cells (x : KcV) : List Value := [.int .i64 x.src, .int .i64 x.key, .int .i64 x.count, .int .i64 x.sum]
def KcV.rec' (x : KcV) : RecV := ⟨x.src, x.key, 0⟩
def KcsIn (w : World) (a : Option Addr) (l : List KcV) : Prop := Row 4 w a (l.map KcV.cells)
theorem KcsIn.kept {w w' : World} {a : Option Addr} {l : List KcV} (h : KcsIn w a l) (hu : Upd0 w w') : KcsIn w' a l := Row.kept h hu
theorem KcsIn.at {w : World} {a : Option Addr} {l : List KcV} (h : KcsIn w a l) {i : Nat} {x : KcV} (hi : l[i]? = some x) : ∃ b f, a = some ⟨b, f, none⟩ ∧ w.cell? ⟨b, f + i * 4, none⟩ = some (.int .i64 x.src) ∧ w.cell? ⟨b, f + i * 4 + 1, none⟩ = some (.int .i64 x.key) ∧ w.cell? ⟨b, f + i * 4 + 2, none⟩ = some (.int .i64 x.count) ∧ w.cell? ⟨b, f + i * 4 + 3, none⟩ = some (.int .i64 x.sum) := by
  obtain ⟨_, b, f, e, hc⟩ := h i x.cells (by rw [List.getElem?_map, hi]; rfl)
  have h0 := hc 0 _ rfl
  have h1 := hc 1 _ rfl
  have h2 := hc 2 _ rfl
  have h3 := hc 3 _ rfl
  simp only [Nat.add_zero, ← Nat.add_assoc] at h0 h1 h2 h3
  exact ⟨b, f, e, h0, h1, h2, h3⟩
theorem cells4_at {w : World} {b : Nat} {x0 x1 x2 x3 : Value} {t : TypeId} (h : w.heap[b]? = some (.cells #[x0, x1, x2, x3] t (0, 0))) : w.cell? ⟨b, 0, none⟩ = some x0 ∧ w.cell? ⟨b, 1, none⟩ = some x1 ∧ w.cell? ⟨b, 2, none⟩ = some x2 ∧ w.cell? ⟨b, 3, none⟩ = some x3 := by simp [World.cell?, h]
theorem tkey_any (x : KcV) (w : World) : Calls Tryz.prog 68 #[.agg #[.int .i64 x.src, .int .i64 x.key, .int .i64 x.count, .int .i64 x.sum]] w fun e w' => e = .returned (.agg #[.int .i64 x.src, .int .i64 x.key, .int .i64 0]) ∧ Upd0 w w' := by
  go_enter Tryz.func68, Tryz.ntmps68
  go_wp2
  exact bodyPost_ret (results_c (fn := Tryz.f68) rfl rfl (load36 (alloc_at (by simp)))) rfl ⟨rfl, ((Upd.refl _ w).alloc _).alloc _⟩
/-! ### May a table be? -/
def badAt (prev : Option KcV) (x : KcV) : Bool := (chkRec x.rec' != 0) || decide (x.count < 1) || (match prev with | none => false | some p => decide (0 ≤ cmpR p.rec' x.rec'))
def tabB : Option KcV → List KcV → Bool
  | _, [] => true
  | p, x :: l => !badAt p x && tabB (some x) l
def chkT (l : List KcV) : Int := if tabB none l then 0 else 220
def prevAt (l : List KcV) (k : Nat) : Option KcV := (l.take k).getLast?
theorem prevAt_succ {l : List KcV} {k : Nat} {x : KcV} (h : l[k]? = some x) : prevAt l (k + 1) = some x := by
  rw [prevAt, take_cons' h]; simp
theorem tab_yes {p : Option KcV} {x : KcV} {l : List KcV} (h : badAt p x = false) : tabB p (x :: l) = tabB (some x) l := by simp [tabB, h]
theorem tab_no {p : Option KcV} {x : KcV} {l : List KcV} (h : badAt p x = true) : tabB p (x :: l) = false := by simp [tabB, h]
theorem chkT_no {l : List KcV} (h : tabB none l = false) : chkT l = 220 := by simp [chkT, h]
theorem chkT_yes {l : List KcV} (h : tabB none l = true) : chkT l = 0 := by simp [chkT, h]
set_option maxHeartbeats 8000000 in
theorem tcheck_any {a : Option Addr} {l : List KcV} {c : Nat} (w : World) (h : KcsIn w a l) (hl : l.length ≤ 140737488351232) :
    Calls Tryz.prog 217 #[.agg #[.slice a l.length c]] w fun e w' => e = .returned (.int .i64 (chkT l)) ∧ Upd0 w w' := by
  obtain ⟨w1, hw1⟩ : ∃ w1, w1 = w.alloc (.cells #[.slice a l.length c] 51) := ⟨_, rfl⟩
  have hu1 : Upd0 w w1 := by rw [hw1]; exact (Upd.refl _ w).alloc _
  have HX := Lib.hid (show w1.heap[w.heap.size]? = some (.cells #[.slice a l.length c] 51 (0, 0)) by rw [hw1]; exact alloc_at rfl)
  have H := Lib.hid (h.kept hu1); have HU := Lib.hid hu1
  have c0 := cells1_of HX.out
  clear h hu1
  go_enter Tryz.func217, Tryz.ntmps217
  go_wp2_with (fail)
  rw [← hw1]
  clear hw1 c0
  obtain ⟨b0, hb0⟩ : ∃ b0, b0 = w.heap.size := ⟨_, rfl⟩
  rw [← hb0] at HX ⊢
  clear hb0
  go_loopw [8] (fun i wr => ∃ k : Nat, k ≤ l.length ∧ i = .int .i64 k ∧ Hid (tabB (prevAt l k) (l.drop k) = tabB none l) ∧ Hid (Upd0 w1 wr)) (fun i _ => l.length - (intOf i).toNat)
  case atStart => exact ⟨0, Nat.zero_le _, rfl, Lib.hid rfl, Lib.hid (Upd.refl _ _)⟩
  case round =>
    obtain ⟨k, hk, rfl, HT, HR⟩ := hrel
    by_cases hlt : k < l.length
    · obtain ⟨x, hx⟩ : ∃ x, l[k]? = some x := ⟨_, List.getElem?_eq_getElem hlt⟩
      obtain ⟨b, f, rfl, c0, c1, c2, c3⟩ := (H.out.kept HR.out).at hx
      have hbl := lt_of_cell c0
      have HT2 : Hid (tabB (prevAt l k) (x :: l.drop (k + 1)) = tabB none l) := by rw [← drop_cons' hx]; exact HT
      obtain ⟨w4, hw4⟩ : ∃ w4, w4 = wr.alloc (.cells #[.int .i64 x.src, .int .i64 x.key, .int .i64 x.count, .int .i64 x.sum] 63) := ⟨_, rfl⟩
      have hu4 : Upd0 wr w4 := by rw [hw4]; exact (Upd.refl _ wr).alloc _
      have HX4 := Lib.hid (show w4.heap[wr.heap.size]? = some (.cells #[.int .i64 x.src, .int .i64 x.key, .int .i64 x.count, .int .i64 x.sum] 63 (0, 0)) by rw [hw4]; exact alloc_at rfl)
      have HU4 := Lib.hid (HR.out.trans hu4)
      have HX1 := Lib.hid ((HU4.out.block _ (lt_of_heap HX.out) (fun e => e)).trans HX.out)
      have HL := Lib.hid hx
      obtain ⟨bx, hbx⟩ : ∃ bx, bx = wr.heap.size := ⟨_, rfl⟩
      rw [← hbx] at HX4
      clear hx HT hu4
      go_upto_region 4 with fail
      rw [← hw4, ← hbx]
      clear hw4 hbx c0 c1 c2 c3 hbl
      have hA : Upd0 w4 w4.drew := (Upd.refl _ _).drew
      have HCK := Lib.hid (show chkRec x.rec' = chkRec x.rec' from rfl)
      by_cases hz : chkRec x.rec' = 0
      · by_cases hc : x.count < 1
        · have HBAD := Lib.hid (show badAt (prevAt l k) x = true by simp [badAt, hc])
          refine wp_region_G 22 (fun W => Upd0 w4 W) [false, false, false, false, false, false, false, false, false, false, false, false, false, false, false, false, false, false, false, false, false, false, false, false, false, false, false] rfl (by kernel_rfl) ?_
          refine wpG_takeT (i := 0) (v := .agg #[.int .i64 x.src, .int .i64 x.key, .int .i64 x.count, .int .i64 x.sum]) rfl (fun L hc h => (hc.waits (n := 22) (i := 13) (by kernel_rfl) (hc.waits (n := 13) (i := 10) (by kernel_rfl) (hc.waits (n := 10) (i := 4) (by kernel_rfl) (hc.waits (n := 4) (i := 2) (by kernel_rfl) (hc.waits (n := 2) (i := 1) (by kernel_rfl) (hc.waits (n := 1) (i := 0) (by kernel_rfl) h))))))) (by kernel_rfl) (fun _ _ _ h => h) hA (.inl ⟨rfl, fun w5 q1 => ?_⟩) ?_
          · obtain ⟨c0, c1, c2, c3⟩ := cells4_at ((q1.block _ (lt_of_heap HX4.out) (fun e => e)).trans HX4.out)
            go_simp
          simp only [Act.put, List.setIfInBounds_toArray, List.set]
          refine wpG_doIf (i := 1) rfl (by kernel_rfl) rfl (fun K hK => ?_)
          have HKK := Lib.hid hK
          clear hK
          go_step
          refine (tkey_any x _).mono ?_
          rintro _ w7 ⟨rfl, hu6⟩
          have hA5 := hA.trans hu6
          clear hu6
          simp only []
          refine HKK.out _ _ hA5 ?_
          clear HKK
          simp only [Act.put, List.setIfInBounds_toArray, List.set]
          refine wpG_doIf (i := 2) rfl (by kernel_rfl) rfl (fun K hK => ?_)
          have HKK := Lib.hid hK
          clear hK
          go_step
          refine (reccheck_any x.rec' _).mono ?_
          rintro _ w8 ⟨rfl, hu6⟩
          have hA6 := hA5.trans hu6
          clear hu6
          rw [hz]
          simp only []
          refine HKK.out _ _ hA6 ?_
          clear HKK
          simp only [Act.put, List.setIfInBounds_toArray, List.set]
          refine wpG_takeT (i := 3) (v := .bool false) rfl (fun L hc h => (hc.waits (n := 22) (i := 13) (by kernel_rfl) (hc.waits (n := 13) (i := 10) (by kernel_rfl) (hc.waits (n := 10) (i := 4) (by kernel_rfl) (hc.waits (n := 4) (i := 3) (by kernel_rfl) h))))) (by kernel_rfl) (fun _ _ _ h => h) hA6 (.inl ⟨rfl, fun w5 q1 => ?_⟩) ?_
          · go_simp
          simp only [Act.put, List.setIfInBounds_toArray, List.set]
          refine wpG_takeT (i := 4) (v := .bool false) rfl (fun L hc h => (hc.waits (n := 22) (i := 13) (by kernel_rfl) (hc.waits (n := 13) (i := 10) (by kernel_rfl) (hc.waits (n := 10) (i := 4) (by kernel_rfl) h)))) (by kernel_rfl) (fun _ _ _ h => h) hA6 (.inl ⟨rfl, fun w5 q1 => ?_⟩) ?_
          · go_simp
          simp only [Act.put, List.setIfInBounds_toArray, List.set]
          refine wpG_takeT (i := 5) (v := .pointer (some ⟨bx, 2, none⟩)) rfl (fun L hc h => (hc.waits (n := 22) (i := 13) (by kernel_rfl) (hc.waits (n := 13) (i := 10) (by kernel_rfl) (hc.waits (n := 10) (i := 9) (by kernel_rfl) (hc.waits (n := 9) (i := 8) (by kernel_rfl) (hc.waits (n := 8) (i := 7) (by kernel_rfl) (hc.waits (n := 7) (i := 6) (by kernel_rfl) (hc.waits (n := 6) (i := 5) (by kernel_rfl) h)))))))) (by kernel_rfl) (fun _ _ _ h => h) hA6 (.inl ⟨rfl, fun w5 q1 => ?_⟩) ?_
          · go_simp
          simp only [Act.put, List.setIfInBounds_toArray, List.set]
          refine wpG_takeT (i := 6) (v := .pointer (some ⟨bx, 2, none⟩)) rfl (fun L hc h => (hc.waits (n := 22) (i := 13) (by kernel_rfl) (hc.waits (n := 13) (i := 10) (by kernel_rfl) (hc.waits (n := 10) (i := 9) (by kernel_rfl) (hc.waits (n := 9) (i := 8) (by kernel_rfl) (hc.waits (n := 8) (i := 7) (by kernel_rfl) (hc.waits (n := 7) (i := 6) (by kernel_rfl) h))))))) (by kernel_rfl) (fun _ _ _ h => h) hA6 (.inl ⟨rfl, fun w5 q1 => ?_⟩) ?_
          · go_simp
          simp only [Act.put, List.setIfInBounds_toArray, List.set]
          refine wpG_takeT (i := 7) (v := .int .i64 x.count) rfl (fun L hc h => (hc.waits (n := 22) (i := 13) (by kernel_rfl) (hc.waits (n := 13) (i := 10) (by kernel_rfl) (hc.waits (n := 10) (i := 9) (by kernel_rfl) (hc.waits (n := 9) (i := 8) (by kernel_rfl) (hc.waits (n := 8) (i := 7) (by kernel_rfl) h)))))) (by kernel_rfl) (fun _ _ _ h => h) hA6 (.inl ⟨rfl, fun w5 q1 => ?_⟩) ?_
          · obtain ⟨c0, c1, c2, c3⟩ := cells4_at ((q1.block _ (lt_of_heap HX4.out) (fun e => e)).trans HX4.out)
            go_simp
          simp only [Act.put, List.setIfInBounds_toArray, List.set]
          refine wpG_takeT (i := 8) (v := .bool true) rfl (fun L hc h => (hc.waits (n := 22) (i := 13) (by kernel_rfl) (hc.waits (n := 13) (i := 10) (by kernel_rfl) (hc.waits (n := 10) (i := 9) (by kernel_rfl) (hc.waits (n := 9) (i := 8) (by kernel_rfl) h))))) (by kernel_rfl) (fun _ _ _ h => h) hA6 (.inl ⟨rfl, fun w5 q1 => ?_⟩) ?_
          · go_simp
          simp only [Act.put, List.setIfInBounds_toArray, List.set]
          refine wpG_takeT (i := 9) (v := .bool true) rfl (fun L hc h => (hc.waits (n := 22) (i := 13) (by kernel_rfl) (hc.waits (n := 13) (i := 10) (by kernel_rfl) (hc.waits (n := 10) (i := 9) (by kernel_rfl) h)))) (by kernel_rfl) (fun _ _ _ h => h) hA6 (.inl ⟨rfl, fun w5 q1 => ?_⟩) ?_
          · go_simp
          simp only [Act.put, List.setIfInBounds_toArray, List.set]
          refine wpG_takeT (i := 10) (v := .bool true) rfl (fun L hc h => (hc.waits (n := 22) (i := 13) (by kernel_rfl) (hc.waits (n := 13) (i := 10) (by kernel_rfl) h))) (by kernel_rfl) (fun _ _ _ h => h) hA6 (.inl ⟨rfl, fun w5 q1 => ?_⟩) ?_
          · go_simp
          simp only [Act.put, List.setIfInBounds_toArray, List.set]
          refine wpG_takeT (i := 11) (v := undef) rfl (fun L hc h => (hc.waits (n := 22) (i := 13) (by kernel_rfl) (hc.waits (n := 13) (i := 12) (by kernel_rfl) (hc.waits (n := 12) (i := 11) (by kernel_rfl) h)))) (by kernel_rfl) (fun _ _ _ h => h) hA6 (.inr ⟨rfl, rfl⟩) ?_
          simp only [Act.put, List.setIfInBounds_toArray, List.set]
          refine wpG_takeT (i := 12) (v := undef) rfl (fun L hc h => (hc.waits (n := 22) (i := 13) (by kernel_rfl) (hc.waits (n := 13) (i := 12) (by kernel_rfl) h))) (by kernel_rfl) (fun _ _ _ h => h) hA6 (.inr ⟨rfl, rfl⟩) ?_
          simp only [Act.put, List.setIfInBounds_toArray, List.set]
          refine wpG_takeT (i := 13) (v := undef) rfl (fun L hc h => (hc.waits (n := 22) (i := 13) (by kernel_rfl) h)) (by kernel_rfl) (fun _ _ _ h => h) hA6 (.inr ⟨rfl, rfl⟩) ?_
          simp only [Act.put, List.setIfInBounds_toArray, List.set]
          refine wpG_takeT (i := 14) (v := undef) rfl (fun L hc h => (hc.waits (n := 22) (i := 20) (by kernel_rfl) (hc.waits (n := 20) (i := 19) (by kernel_rfl) (hc.waits (n := 19) (i := 18) (by kernel_rfl) (hc.waits (n := 18) (i := 15) (by kernel_rfl) (hc.waits (n := 15) (i := 14) (by kernel_rfl) h)))))) (by kernel_rfl) (fun _ _ _ h => h) hA6 (.inr ⟨rfl, rfl⟩) ?_
          simp only [Act.put, List.setIfInBounds_toArray, List.set]
          refine wpG_takeT (i := 15) (v := undef) rfl (fun L hc h => (hc.waits (n := 22) (i := 20) (by kernel_rfl) (hc.waits (n := 20) (i := 19) (by kernel_rfl) (hc.waits (n := 19) (i := 18) (by kernel_rfl) (hc.waits (n := 18) (i := 15) (by kernel_rfl) h))))) (by kernel_rfl) (fun _ _ _ h => h) hA6 (.inr ⟨rfl, rfl⟩) ?_
          simp only [Act.put, List.setIfInBounds_toArray, List.set]
          refine wpG_takeT (i := 16) (v := undef) rfl (fun L hc h => (hc.waits (n := 22) (i := 20) (by kernel_rfl) (hc.waits (n := 20) (i := 19) (by kernel_rfl) (hc.waits (n := 19) (i := 18) (by kernel_rfl) (hc.waits (n := 18) (i := 17) (by kernel_rfl) (hc.waits (n := 17) (i := 16) (by kernel_rfl) h)))))) (by kernel_rfl) (fun _ _ _ h => h) hA6 (.inr ⟨rfl, rfl⟩) ?_
          simp only [Act.put, List.setIfInBounds_toArray, List.set]
          refine wpG_takeT (i := 17) (v := undef) rfl (fun L hc h => (hc.waits (n := 22) (i := 20) (by kernel_rfl) (hc.waits (n := 20) (i := 19) (by kernel_rfl) (hc.waits (n := 19) (i := 18) (by kernel_rfl) (hc.waits (n := 18) (i := 17) (by kernel_rfl) h))))) (by kernel_rfl) (fun _ _ _ h => h) hA6 (.inr ⟨rfl, rfl⟩) ?_
          simp only [Act.put, List.setIfInBounds_toArray, List.set]
          refine wpG_takeT (i := 18) (v := undef) rfl (fun L hc h => (hc.waits (n := 22) (i := 20) (by kernel_rfl) (hc.waits (n := 20) (i := 19) (by kernel_rfl) (hc.waits (n := 19) (i := 18) (by kernel_rfl) h)))) (by kernel_rfl) (fun _ _ _ h => h) hA6 (.inr ⟨rfl, rfl⟩) ?_
          simp only [Act.put, List.setIfInBounds_toArray, List.set]
          refine wpG_takeT (i := 19) (v := undef) rfl (fun L hc h => (hc.waits (n := 22) (i := 20) (by kernel_rfl) (hc.waits (n := 20) (i := 19) (by kernel_rfl) h))) (by kernel_rfl) (fun _ _ _ h => h) hA6 (.inr ⟨rfl, rfl⟩) ?_
          simp only [Act.put, List.setIfInBounds_toArray, List.set]
          refine wpG_takeT (i := 20) (v := undef) rfl (fun L hc h => (hc.waits (n := 22) (i := 20) (by kernel_rfl) h)) (by kernel_rfl) (fun _ _ _ h => h) hA6 (.inr ⟨rfl, rfl⟩) ?_
          simp only [Act.put, List.setIfInBounds_toArray, List.set]
          refine wpG_takeT (i := 21) (v := undef) rfl (fun L hc h => (hc.waits (n := 22) (i := 21) (by kernel_rfl) h)) (by kernel_rfl) (fun _ _ _ h => h) hA6 (.inr ⟨rfl, rfl⟩) ?_
          simp only [Act.put, List.setIfInBounds_toArray, List.set]
          refine wpG_tail_lit (k := 22) rfl rfl (by kernel_rfl) ?_
          simp only [List.drop]
          clear hc
          go_wp2
          go_ret
          exact ⟨ret_int (chkT_no (by rw [← HT2.out, tab_no HBAD.out])).symm, HU.out.trans (HU4.out.trans hA6)⟩
        · by_cases hk0 : k = 0
          · subst hk0
            have HBAD := Lib.hid (show badAt (prevAt l 0) x = false by simp [badAt, prevAt, hz]; omega)
            refine wp_region_G 22 (fun W => Upd0 w4 W) [false, false, false, false, false, false, false, false, false, false, false, false, false, false, false, false, false, false, false, false, false, false, false, false, false, false, false] rfl (by kernel_rfl) ?_
            refine wpG_takeT (i := 0) (v := .agg #[.int .i64 x.src, .int .i64 x.key, .int .i64 x.count, .int .i64 x.sum]) rfl (fun L hc h => (hc.waits (n := 22) (i := 13) (by kernel_rfl) (hc.waits (n := 13) (i := 10) (by kernel_rfl) (hc.waits (n := 10) (i := 4) (by kernel_rfl) (hc.waits (n := 4) (i := 2) (by kernel_rfl) (hc.waits (n := 2) (i := 1) (by kernel_rfl) (hc.waits (n := 1) (i := 0) (by kernel_rfl) h))))))) (by kernel_rfl) (fun _ _ _ h => h) hA (.inl ⟨rfl, fun w5 q1 => ?_⟩) ?_
            · obtain ⟨c0, c1, c2, c3⟩ := cells4_at ((q1.block _ (lt_of_heap HX4.out) (fun e => e)).trans HX4.out)
              go_simp
            simp only [Act.put, List.setIfInBounds_toArray, List.set]
            refine wpG_doIf (i := 1) rfl (by kernel_rfl) rfl (fun K hK => ?_)
            have HKK := Lib.hid hK
            clear hK
            go_step
            refine (tkey_any x _).mono ?_
            rintro _ w7 ⟨rfl, hu6⟩
            have hA5 := hA.trans hu6
            clear hu6
            simp only []
            refine HKK.out _ _ hA5 ?_
            clear HKK
            simp only [Act.put, List.setIfInBounds_toArray, List.set]
            refine wpG_doIf (i := 2) rfl (by kernel_rfl) rfl (fun K hK => ?_)
            have HKK := Lib.hid hK
            clear hK
            go_step
            refine (reccheck_any x.rec' _).mono ?_
            rintro _ w8 ⟨rfl, hu6⟩
            have hA6 := hA5.trans hu6
            clear hu6
            rw [hz]
            simp only []
            refine HKK.out _ _ hA6 ?_
            clear HKK
            simp only [Act.put, List.setIfInBounds_toArray, List.set]
            refine wpG_takeT (i := 3) (v := .bool false) rfl (fun L hc h => (hc.waits (n := 22) (i := 13) (by kernel_rfl) (hc.waits (n := 13) (i := 10) (by kernel_rfl) (hc.waits (n := 10) (i := 4) (by kernel_rfl) (hc.waits (n := 4) (i := 3) (by kernel_rfl) h))))) (by kernel_rfl) (fun _ _ _ h => h) hA6 (.inl ⟨rfl, fun w5 q1 => ?_⟩) ?_
            · go_simp
            simp only [Act.put, List.setIfInBounds_toArray, List.set]
            refine wpG_takeT (i := 4) (v := .bool false) rfl (fun L hc h => (hc.waits (n := 22) (i := 13) (by kernel_rfl) (hc.waits (n := 13) (i := 10) (by kernel_rfl) (hc.waits (n := 10) (i := 4) (by kernel_rfl) h)))) (by kernel_rfl) (fun _ _ _ h => h) hA6 (.inl ⟨rfl, fun w5 q1 => ?_⟩) ?_
            · go_simp
            simp only [Act.put, List.setIfInBounds_toArray, List.set]
            refine wpG_takeT (i := 5) (v := .pointer (some ⟨bx, 2, none⟩)) rfl (fun L hc h => (hc.waits (n := 22) (i := 13) (by kernel_rfl) (hc.waits (n := 13) (i := 10) (by kernel_rfl) (hc.waits (n := 10) (i := 9) (by kernel_rfl) (hc.waits (n := 9) (i := 8) (by kernel_rfl) (hc.waits (n := 8) (i := 7) (by kernel_rfl) (hc.waits (n := 7) (i := 6) (by kernel_rfl) (hc.waits (n := 6) (i := 5) (by kernel_rfl) h)))))))) (by kernel_rfl) (fun _ _ _ h => h) hA6 (.inl ⟨rfl, fun w5 q1 => ?_⟩) ?_
            · go_simp
            simp only [Act.put, List.setIfInBounds_toArray, List.set]
            refine wpG_takeT (i := 6) (v := .pointer (some ⟨bx, 2, none⟩)) rfl (fun L hc h => (hc.waits (n := 22) (i := 13) (by kernel_rfl) (hc.waits (n := 13) (i := 10) (by kernel_rfl) (hc.waits (n := 10) (i := 9) (by kernel_rfl) (hc.waits (n := 9) (i := 8) (by kernel_rfl) (hc.waits (n := 8) (i := 7) (by kernel_rfl) (hc.waits (n := 7) (i := 6) (by kernel_rfl) h))))))) (by kernel_rfl) (fun _ _ _ h => h) hA6 (.inl ⟨rfl, fun w5 q1 => ?_⟩) ?_
            · go_simp
            simp only [Act.put, List.setIfInBounds_toArray, List.set]
            refine wpG_takeT (i := 7) (v := .int .i64 x.count) rfl (fun L hc h => (hc.waits (n := 22) (i := 13) (by kernel_rfl) (hc.waits (n := 13) (i := 10) (by kernel_rfl) (hc.waits (n := 10) (i := 9) (by kernel_rfl) (hc.waits (n := 9) (i := 8) (by kernel_rfl) (hc.waits (n := 8) (i := 7) (by kernel_rfl) h)))))) (by kernel_rfl) (fun _ _ _ h => h) hA6 (.inl ⟨rfl, fun w5 q1 => ?_⟩) ?_
            · obtain ⟨c0, c1, c2, c3⟩ := cells4_at ((q1.block _ (lt_of_heap HX4.out) (fun e => e)).trans HX4.out)
              go_simp
            simp only [Act.put, List.setIfInBounds_toArray, List.set]
            refine wpG_takeT (i := 8) (v := .bool false) rfl (fun L hc h => (hc.waits (n := 22) (i := 13) (by kernel_rfl) (hc.waits (n := 13) (i := 10) (by kernel_rfl) (hc.waits (n := 10) (i := 9) (by kernel_rfl) (hc.waits (n := 9) (i := 8) (by kernel_rfl) h))))) (by kernel_rfl) (fun _ _ _ h => h) hA6 (.inl ⟨rfl, fun w5 q1 => ?_⟩) ?_
            · go_simp
            simp only [Act.put, List.setIfInBounds_toArray, List.set]
            refine wpG_takeT (i := 9) (v := .bool false) rfl (fun L hc h => (hc.waits (n := 22) (i := 13) (by kernel_rfl) (hc.waits (n := 13) (i := 10) (by kernel_rfl) (hc.waits (n := 10) (i := 9) (by kernel_rfl) h)))) (by kernel_rfl) (fun _ _ _ h => h) hA6 (.inl ⟨rfl, fun w5 q1 => ?_⟩) ?_
            · go_simp
            simp only [Act.put, List.setIfInBounds_toArray, List.set]
            refine wpG_takeT (i := 10) (v := .bool false) rfl (fun L hc h => (hc.waits (n := 22) (i := 13) (by kernel_rfl) (hc.waits (n := 13) (i := 10) (by kernel_rfl) h))) (by kernel_rfl) (fun _ _ _ h => h) hA6 (.inl ⟨rfl, fun w5 q1 => ?_⟩) ?_
            · go_simp
            simp only [Act.put, List.setIfInBounds_toArray, List.set]
            refine wpG_takeT (i := 11) (v := .int .i64 0) rfl (fun L hc h => (hc.waits (n := 22) (i := 13) (by kernel_rfl) (hc.waits (n := 13) (i := 12) (by kernel_rfl) (hc.waits (n := 12) (i := 11) (by kernel_rfl) h)))) (by kernel_rfl) (fun _ _ _ h => h) hA6 (.inl ⟨rfl, fun w5 q1 => ?_⟩) ?_
            · go_simp
            simp only [Act.put, List.setIfInBounds_toArray, List.set]
            refine wpG_takeT (i := 12) (v := .bool false) rfl (fun L hc h => (hc.waits (n := 22) (i := 13) (by kernel_rfl) (hc.waits (n := 13) (i := 12) (by kernel_rfl) h))) (by kernel_rfl) (fun _ _ _ h => h) hA6 (.inl ⟨rfl, fun w5 q1 => ?_⟩) ?_
            · go_simp
            simp only [Act.put, List.setIfInBounds_toArray, List.set]
            refine wpG_takeT (i := 13) (v := .bool false) rfl (fun L hc h => (hc.waits (n := 22) (i := 13) (by kernel_rfl) h)) (by kernel_rfl) (fun _ _ _ h => h) hA6 (.inl ⟨rfl, fun w5 q1 => ?_⟩) ?_
            · go_simp
            simp only [Act.put, List.setIfInBounds_toArray, List.set]
            refine wpG_takeT (i := 14) (v := undef) rfl (fun L hc h => (hc.waits (n := 22) (i := 20) (by kernel_rfl) (hc.waits (n := 20) (i := 19) (by kernel_rfl) (hc.waits (n := 19) (i := 18) (by kernel_rfl) (hc.waits (n := 18) (i := 15) (by kernel_rfl) (hc.waits (n := 15) (i := 14) (by kernel_rfl) h)))))) (by kernel_rfl) (fun _ _ _ h => h) hA6 (.inr ⟨rfl, rfl⟩) ?_
            simp only [Act.put, List.setIfInBounds_toArray, List.set]
            refine wpG_takeT (i := 15) (v := undef) rfl (fun L hc h => (hc.waits (n := 22) (i := 20) (by kernel_rfl) (hc.waits (n := 20) (i := 19) (by kernel_rfl) (hc.waits (n := 19) (i := 18) (by kernel_rfl) (hc.waits (n := 18) (i := 15) (by kernel_rfl) h))))) (by kernel_rfl) (fun _ _ _ h => h) hA6 (.inr ⟨rfl, rfl⟩) ?_
            simp only [Act.put, List.setIfInBounds_toArray, List.set]
            refine wpG_takeT (i := 16) (v := undef) rfl (fun L hc h => (hc.waits (n := 22) (i := 20) (by kernel_rfl) (hc.waits (n := 20) (i := 19) (by kernel_rfl) (hc.waits (n := 19) (i := 18) (by kernel_rfl) (hc.waits (n := 18) (i := 17) (by kernel_rfl) (hc.waits (n := 17) (i := 16) (by kernel_rfl) h)))))) (by kernel_rfl) (fun _ _ _ h => h) hA6 (.inr ⟨rfl, rfl⟩) ?_
            simp only [Act.put, List.setIfInBounds_toArray, List.set]
            refine wpG_takeT (i := 17) (v := undef) rfl (fun L hc h => (hc.waits (n := 22) (i := 20) (by kernel_rfl) (hc.waits (n := 20) (i := 19) (by kernel_rfl) (hc.waits (n := 19) (i := 18) (by kernel_rfl) (hc.waits (n := 18) (i := 17) (by kernel_rfl) h))))) (by kernel_rfl) (fun _ _ _ h => h) hA6 (.inr ⟨rfl, rfl⟩) ?_
            simp only [Act.put, List.setIfInBounds_toArray, List.set]
            refine wpG_takeT (i := 18) (v := undef) rfl (fun L hc h => (hc.waits (n := 22) (i := 20) (by kernel_rfl) (hc.waits (n := 20) (i := 19) (by kernel_rfl) (hc.waits (n := 19) (i := 18) (by kernel_rfl) h)))) (by kernel_rfl) (fun _ _ _ h => h) hA6 (.inr ⟨rfl, rfl⟩) ?_
            simp only [Act.put, List.setIfInBounds_toArray, List.set]
            refine wpG_takeT (i := 19) (v := undef) rfl (fun L hc h => (hc.waits (n := 22) (i := 20) (by kernel_rfl) (hc.waits (n := 20) (i := 19) (by kernel_rfl) h))) (by kernel_rfl) (fun _ _ _ h => h) hA6 (.inr ⟨rfl, rfl⟩) ?_
            simp only [Act.put, List.setIfInBounds_toArray, List.set]
            refine wpG_takeT (i := 20) (v := undef) rfl (fun L hc h => (hc.waits (n := 22) (i := 20) (by kernel_rfl) h)) (by kernel_rfl) (fun _ _ _ h => h) hA6 (.inr ⟨rfl, rfl⟩) ?_
            simp only [Act.put, List.setIfInBounds_toArray, List.set]
            refine wpG_takeT (i := 21) (v := undef) rfl (fun L hc h => (hc.waits (n := 22) (i := 21) (by kernel_rfl) h)) (by kernel_rfl) (fun _ _ _ h => h) hA6 (.inr ⟨rfl, rfl⟩) ?_
            simp only [Act.put, List.setIfInBounds_toArray, List.set]
            refine wpG_tail_lit (k := 22) rfl rfl (by kernel_rfl) ?_
            simp only [List.drop]
            clear hc
            go_wp2
            go_roundw
            case rel => exact ⟨1, by omega, by go_num, Lib.hid (by rw [← HT2.out, tab_yes HBAD.out, prevAt_succ HL.out]), Lib.hid (HU4.out.trans hA6)⟩
            case measure => simp [intOf]; omega
          · obtain ⟨j, rfl⟩ : ∃ j, k = j + 1 := ⟨k - 1, by omega⟩
            obtain ⟨y, hy⟩ : ∃ y, l[j]? = some y := ⟨_, List.getElem?_eq_getElem (by omega)⟩
            have HPV := Lib.hid (prevAt_succ hy)
            have HY := Lib.hid (show ∀ W, Upd0 w4 W → W.cell? ⟨b, f + j * 4, none⟩ = some (.int .i64 y.src) ∧ W.cell? ⟨b, f + j * 4 + 1, none⟩ = some (.int .i64 y.key) ∧ W.cell? ⟨b, f + j * 4 + 2, none⟩ = some (.int .i64 y.count) ∧ W.cell? ⟨b, f + j * 4 + 3, none⟩ = some (.int .i64 y.sum) from fun W hW => by
              obtain ⟨b2, f2, e2, y0, y1, y2, y3⟩ := ((H.out.kept HU4.out).kept hW).at hy
              injection e2 with e2
              injection e2 with e2 e3
              subst e2 e3
              exact ⟨y0, y1, y2, y3⟩)
            have hjl : (j : Int) < l.length := by omega
            refine wp_region_G 22 (fun W => Upd0 w4 W) [false, false, false, false, false, false, false, false, false, false, false, false, false, false, false, false, false, false, false, false, false, false, false, false, false, false, false] rfl (by kernel_rfl) ?_
            refine wpG_takeT (i := 0) (v := .agg #[.int .i64 x.src, .int .i64 x.key, .int .i64 x.count, .int .i64 x.sum]) rfl (fun L hc h => (hc.waits (n := 22) (i := 13) (by kernel_rfl) (hc.waits (n := 13) (i := 10) (by kernel_rfl) (hc.waits (n := 10) (i := 4) (by kernel_rfl) (hc.waits (n := 4) (i := 2) (by kernel_rfl) (hc.waits (n := 2) (i := 1) (by kernel_rfl) (hc.waits (n := 1) (i := 0) (by kernel_rfl) h))))))) (by kernel_rfl) (fun _ _ _ h => h) hA (.inl ⟨rfl, fun w5 q1 => ?_⟩) ?_
            · obtain ⟨c0, c1, c2, c3⟩ := cells4_at ((q1.block _ (lt_of_heap HX4.out) (fun e => e)).trans HX4.out)
              go_simp
            simp only [Act.put, List.setIfInBounds_toArray, List.set]
            refine wpG_doIf (i := 1) rfl (by kernel_rfl) rfl (fun K hK => ?_)
            have HKK := Lib.hid hK
            clear hK
            go_step
            refine (tkey_any x _).mono ?_
            rintro _ w7 ⟨rfl, hu6⟩
            have hA5 := hA.trans hu6
            clear hu6
            simp only []
            refine HKK.out _ _ hA5 ?_
            clear HKK
            simp only [Act.put, List.setIfInBounds_toArray, List.set]
            refine wpG_doIf (i := 2) rfl (by kernel_rfl) rfl (fun K hK => ?_)
            have HKK := Lib.hid hK
            clear hK
            go_step
            refine (reccheck_any x.rec' _).mono ?_
            rintro _ w8 ⟨rfl, hu6⟩
            have hA6 := hA5.trans hu6
            clear hu6
            rw [hz]
            simp only []
            refine HKK.out _ _ hA6 ?_
            clear HKK
            simp only [Act.put, List.setIfInBounds_toArray, List.set]
            refine wpG_takeT (i := 3) (v := .bool false) rfl (fun L hc h => (hc.waits (n := 22) (i := 13) (by kernel_rfl) (hc.waits (n := 13) (i := 10) (by kernel_rfl) (hc.waits (n := 10) (i := 4) (by kernel_rfl) (hc.waits (n := 4) (i := 3) (by kernel_rfl) h))))) (by kernel_rfl) (fun _ _ _ h => h) hA6 (.inl ⟨rfl, fun w5 q1 => ?_⟩) ?_
            · go_simp
            simp only [Act.put, List.setIfInBounds_toArray, List.set]
            refine wpG_takeT (i := 4) (v := .bool false) rfl (fun L hc h => (hc.waits (n := 22) (i := 13) (by kernel_rfl) (hc.waits (n := 13) (i := 10) (by kernel_rfl) (hc.waits (n := 10) (i := 4) (by kernel_rfl) h)))) (by kernel_rfl) (fun _ _ _ h => h) hA6 (.inl ⟨rfl, fun w5 q1 => ?_⟩) ?_
            · go_simp
            simp only [Act.put, List.setIfInBounds_toArray, List.set]
            refine wpG_takeT (i := 5) (v := .pointer (some ⟨bx, 2, none⟩)) rfl (fun L hc h => (hc.waits (n := 22) (i := 13) (by kernel_rfl) (hc.waits (n := 13) (i := 10) (by kernel_rfl) (hc.waits (n := 10) (i := 9) (by kernel_rfl) (hc.waits (n := 9) (i := 8) (by kernel_rfl) (hc.waits (n := 8) (i := 7) (by kernel_rfl) (hc.waits (n := 7) (i := 6) (by kernel_rfl) (hc.waits (n := 6) (i := 5) (by kernel_rfl) h)))))))) (by kernel_rfl) (fun _ _ _ h => h) hA6 (.inl ⟨rfl, fun w5 q1 => ?_⟩) ?_
            · go_simp
            simp only [Act.put, List.setIfInBounds_toArray, List.set]
            refine wpG_takeT (i := 6) (v := .pointer (some ⟨bx, 2, none⟩)) rfl (fun L hc h => (hc.waits (n := 22) (i := 13) (by kernel_rfl) (hc.waits (n := 13) (i := 10) (by kernel_rfl) (hc.waits (n := 10) (i := 9) (by kernel_rfl) (hc.waits (n := 9) (i := 8) (by kernel_rfl) (hc.waits (n := 8) (i := 7) (by kernel_rfl) (hc.waits (n := 7) (i := 6) (by kernel_rfl) h))))))) (by kernel_rfl) (fun _ _ _ h => h) hA6 (.inl ⟨rfl, fun w5 q1 => ?_⟩) ?_
            · go_simp
            simp only [Act.put, List.setIfInBounds_toArray, List.set]
            refine wpG_takeT (i := 7) (v := .int .i64 x.count) rfl (fun L hc h => (hc.waits (n := 22) (i := 13) (by kernel_rfl) (hc.waits (n := 13) (i := 10) (by kernel_rfl) (hc.waits (n := 10) (i := 9) (by kernel_rfl) (hc.waits (n := 9) (i := 8) (by kernel_rfl) (hc.waits (n := 8) (i := 7) (by kernel_rfl) h)))))) (by kernel_rfl) (fun _ _ _ h => h) hA6 (.inl ⟨rfl, fun w5 q1 => ?_⟩) ?_
            · obtain ⟨c0, c1, c2, c3⟩ := cells4_at ((q1.block _ (lt_of_heap HX4.out) (fun e => e)).trans HX4.out)
              go_simp
            simp only [Act.put, List.setIfInBounds_toArray, List.set]
            refine wpG_takeT (i := 8) (v := .bool false) rfl (fun L hc h => (hc.waits (n := 22) (i := 13) (by kernel_rfl) (hc.waits (n := 13) (i := 10) (by kernel_rfl) (hc.waits (n := 10) (i := 9) (by kernel_rfl) (hc.waits (n := 9) (i := 8) (by kernel_rfl) h))))) (by kernel_rfl) (fun _ _ _ h => h) hA6 (.inl ⟨rfl, fun w5 q1 => ?_⟩) ?_
            · go_simp
            simp only [Act.put, List.setIfInBounds_toArray, List.set]
            refine wpG_takeT (i := 9) (v := .bool false) rfl (fun L hc h => (hc.waits (n := 22) (i := 13) (by kernel_rfl) (hc.waits (n := 13) (i := 10) (by kernel_rfl) (hc.waits (n := 10) (i := 9) (by kernel_rfl) h)))) (by kernel_rfl) (fun _ _ _ h => h) hA6 (.inl ⟨rfl, fun w5 q1 => ?_⟩) ?_
            · go_simp
            simp only [Act.put, List.setIfInBounds_toArray, List.set]
            refine wpG_takeT (i := 10) (v := .bool false) rfl (fun L hc h => (hc.waits (n := 22) (i := 13) (by kernel_rfl) (hc.waits (n := 13) (i := 10) (by kernel_rfl) h))) (by kernel_rfl) (fun _ _ _ h => h) hA6 (.inl ⟨rfl, fun w5 q1 => ?_⟩) ?_
            · go_simp
            simp only [Act.put, List.setIfInBounds_toArray, List.set]
            refine wpG_takeT (i := 11) (v := .int .i64 ((j : Int) + 1)) rfl (fun L hc h => (hc.waits (n := 22) (i := 13) (by kernel_rfl) (hc.waits (n := 13) (i := 12) (by kernel_rfl) (hc.waits (n := 12) (i := 11) (by kernel_rfl) h)))) (by kernel_rfl) (fun _ _ _ h => h) hA6 (.inl ⟨rfl, fun w5 q1 => ?_⟩) ?_
            · go_simp
            simp only [Act.put, List.setIfInBounds_toArray, List.set]
            refine wpG_takeT (i := 12) (v := .bool true) rfl (fun L hc h => (hc.waits (n := 22) (i := 13) (by kernel_rfl) (hc.waits (n := 13) (i := 12) (by kernel_rfl) h))) (by kernel_rfl) (fun _ _ _ h => h) hA6 (.inl ⟨rfl, fun w5 q1 => ?_⟩) ?_
            · go_simp
            simp only [Act.put, List.setIfInBounds_toArray, List.set]
            refine wpG_takeT (i := 13) (v := .bool true) rfl (fun L hc h => (hc.waits (n := 22) (i := 13) (by kernel_rfl) h)) (by kernel_rfl) (fun _ _ _ h => h) hA6 (.inl ⟨rfl, fun w5 q1 => ?_⟩) ?_
            · go_simp
            simp only [Act.put, List.setIfInBounds_toArray, List.set]
            refine wpG_takeT (i := 14) (v := .pointer (some ⟨b0, 0, none⟩)) rfl (fun L hc h => (hc.waits (n := 22) (i := 20) (by kernel_rfl) (hc.waits (n := 20) (i := 19) (by kernel_rfl) (hc.waits (n := 19) (i := 18) (by kernel_rfl) (hc.waits (n := 18) (i := 15) (by kernel_rfl) (hc.waits (n := 15) (i := 14) (by kernel_rfl) h)))))) (by kernel_rfl) (fun _ _ _ h => h) hA6 (.inl ⟨rfl, fun w5 q1 => ?_⟩) ?_
            · go_simp
            simp only [Act.put, List.setIfInBounds_toArray, List.set]
            refine wpG_takeT (i := 15) (v := .slice (some ⟨b, f, none⟩) l.length c) rfl (fun L hc h => (hc.waits (n := 22) (i := 20) (by kernel_rfl) (hc.waits (n := 20) (i := 19) (by kernel_rfl) (hc.waits (n := 19) (i := 18) (by kernel_rfl) (hc.waits (n := 18) (i := 15) (by kernel_rfl) h))))) (by kernel_rfl) (fun _ _ _ h => h) hA6 (.inl ⟨rfl, fun w5 q1 => ?_⟩) ?_
            · have c0 := cells1_of ((q1.block _ (lt_of_heap HX1.out) (fun e => e)).trans HX1.out)
              go_simp
            simp only [Act.put, List.setIfInBounds_toArray, List.set]
            refine wpG_takeT (i := 16) (v := .int .i64 ((j : Int) + 1)) rfl (fun L hc h => (hc.waits (n := 22) (i := 20) (by kernel_rfl) (hc.waits (n := 20) (i := 19) (by kernel_rfl) (hc.waits (n := 19) (i := 18) (by kernel_rfl) (hc.waits (n := 18) (i := 17) (by kernel_rfl) (hc.waits (n := 17) (i := 16) (by kernel_rfl) h)))))) (by kernel_rfl) (fun _ _ _ h => h) hA6 (.inl ⟨rfl, fun w5 q1 => ?_⟩) ?_
            · go_simp
            simp only [Act.put, List.setIfInBounds_toArray, List.set]
            refine wpG_takeT (i := 17) (v := .int .i64 j) rfl (fun L hc h => (hc.waits (n := 22) (i := 20) (by kernel_rfl) (hc.waits (n := 20) (i := 19) (by kernel_rfl) (hc.waits (n := 19) (i := 18) (by kernel_rfl) (hc.waits (n := 18) (i := 17) (by kernel_rfl) h))))) (by kernel_rfl) (fun _ _ _ h => h) hA6 (.inl ⟨rfl, fun w5 q1 => ?_⟩) ?_
            · have hw : IntKind.i64.wrap (j : Int) = j := by rw [IntKind.wrap_i64]; omega
              go_simp
            simp only [Act.put, List.setIfInBounds_toArray, List.set]
            refine wpG_takeT (i := 18) (v := .pointer (some ⟨b, f + j * 4, none⟩)) rfl (fun L hc h => (hc.waits (n := 22) (i := 20) (by kernel_rfl) (hc.waits (n := 20) (i := 19) (by kernel_rfl) (hc.waits (n := 19) (i := 18) (by kernel_rfl) h)))) (by kernel_rfl) (fun _ _ _ h => h) hA6 (.inl ⟨rfl, fun w5 q1 => ?_⟩) ?_
            · go_simp
            simp only [Act.put, List.setIfInBounds_toArray, List.set]
            refine wpG_takeT (i := 19) (v := .agg #[.int .i64 y.src, .int .i64 y.key, .int .i64 y.count, .int .i64 y.sum]) rfl (fun L hc h => (hc.waits (n := 22) (i := 20) (by kernel_rfl) (hc.waits (n := 20) (i := 19) (by kernel_rfl) h))) (by kernel_rfl) (fun _ _ _ h => h) hA6 (.inl ⟨rfl, fun w5 q1 => ?_⟩) ?_
            · obtain ⟨y0, y1, y2, y3⟩ := HY.out w5 q1
              go_simp
            simp only [Act.put, List.setIfInBounds_toArray, List.set]
            refine wpG_takeT (i := 21) (v := .agg #[.int .i64 x.src, .int .i64 x.key, .int .i64 x.count, .int .i64 x.sum]) rfl (fun L hc h => (hc.waits (n := 22) (i := 21) (by kernel_rfl) h)) (by kernel_rfl) (fun _ _ _ h => h) hA6 (.inl ⟨rfl, fun w5 q1 => ?_⟩) ?_
            · obtain ⟨c0, c1, c2, c3⟩ := cells4_at ((q1.block _ (lt_of_heap HX4.out) (fun e => e)).trans HX4.out)
              go_simp
            simp only [Act.put, List.setIfInBounds_toArray, List.set]
            refine wpG_doIf (i := 20) rfl (by kernel_rfl) rfl (fun K hK => ?_)
            have HKK := Lib.hid hK
            clear hK
            go_step
            refine (tkey_any y _).mono ?_
            rintro _ w26 ⟨rfl, hu6⟩
            have hA7 := hA6.trans hu6
            clear hu6
            simp only []
            refine HKK.out _ _ hA7 ?_
            clear HKK
            simp only [Act.put, List.setIfInBounds_toArray, List.set]
            refine wpG_tail_lit (k := 22) rfl rfl (by kernel_rfl) ?_
            simp only [List.drop]
            have HCM := Lib.hid (fun W => compare_any y.rec' x.rec' W)
            have HBA := Lib.hid (show badAt (prevAt l (j + 1)) x = decide (0 ≤ cmpR y.rec' x.rec') by rw [HPV.out]; simp [badAt, hz]; omega)
            obtain ⟨cm, hcm⟩ : ∃ cm, cm = cmpR y.rec' x.rec' := ⟨_, rfl⟩
            rw [← hcm] at HCM HBA
            clear hc hy hz hcm
            go_wp2_with (go_at_call 68; fail)
            refine (tkey_any x _).mono ?_
            rintro _ w22 ⟨rfl, hu6⟩
            have hA8 := hA7.trans hu6
            clear hu6
            simp only []
            go_wp2_with (go_at_call 133; fail)
            refine (HCM.out _).mono ?_
            rintro _ w23 ⟨rfl, hu6⟩
            have HA9 := Lib.hid (hA8.trans hu6)
            clear hu6 hA8 hA7 hA6 hA5 hA
            simp only []
            by_cases hcm : 0 ≤ cm
            · rw [decide_eq_true hcm] at HBA
              go_wp2
              go_ret
              exact ⟨ret_int (chkT_no (by rw [← HT2.out, tab_no HBA.out])).symm, HU.out.trans (HU4.out.trans HA9.out)⟩
            · rw [decide_eq_false hcm] at HBA
              have hcm' : cm < 0 := by omega
              go_wp2
              go_roundw
              case rel => exact ⟨j + 1 + 1, by omega, by go_num, Lib.hid (by rw [← HT2.out, tab_yes HBA.out, prevAt_succ HL.out]), Lib.hid (HU4.out.trans HA9.out)⟩
              case measure => simp [intOf]; omega
      · have HBAD := Lib.hid (show badAt (prevAt l k) x = true by simp [badAt, hz])
        have hz' : (chkRec x.rec' != 0) = true := by simpa using hz
        refine wp_region_G 22 (fun W => Upd0 w4 W) [false, false, false, false, false, false, false, false, false, false, false, false, false, false, false, false, false, false, false, false, false, false, false, false, false, false, false] rfl (by kernel_rfl) ?_
        refine wpG_takeT (i := 0) (v := .agg #[.int .i64 x.src, .int .i64 x.key, .int .i64 x.count, .int .i64 x.sum]) rfl (fun L hc h => (hc.waits (n := 22) (i := 13) (by kernel_rfl) (hc.waits (n := 13) (i := 10) (by kernel_rfl) (hc.waits (n := 10) (i := 4) (by kernel_rfl) (hc.waits (n := 4) (i := 2) (by kernel_rfl) (hc.waits (n := 2) (i := 1) (by kernel_rfl) (hc.waits (n := 1) (i := 0) (by kernel_rfl) h))))))) (by kernel_rfl) (fun _ _ _ h => h) hA (.inl ⟨rfl, fun w5 q1 => ?_⟩) ?_
        · obtain ⟨c0, c1, c2, c3⟩ := cells4_at ((q1.block _ (lt_of_heap HX4.out) (fun e => e)).trans HX4.out)
          go_simp
        simp only [Act.put, List.setIfInBounds_toArray, List.set]
        refine wpG_doIf (i := 1) rfl (by kernel_rfl) rfl (fun K hK => ?_)
        have HKK := Lib.hid hK
        clear hK
        go_step
        refine (tkey_any x _).mono ?_
        rintro _ w7 ⟨rfl, hu6⟩
        have hA5 := hA.trans hu6
        clear hu6
        simp only []
        refine HKK.out _ _ hA5 ?_
        clear HKK
        simp only [Act.put, List.setIfInBounds_toArray, List.set]
        refine wpG_doIf (i := 2) rfl (by kernel_rfl) rfl (fun K hK => ?_)
        have HKK := Lib.hid hK
        clear hK
        go_step
        refine (reccheck_any x.rec' _).mono ?_
        rintro _ w8 ⟨rfl, hu6⟩
        have hA6 := hA5.trans hu6
        clear hu6
        simp only []
        refine HKK.out _ _ hA6 ?_
        clear HKK
        simp only [Act.put, List.setIfInBounds_toArray, List.set]
        refine wpG_takeT (i := 3) (v := .bool true) rfl (fun L hc h => (hc.waits (n := 22) (i := 13) (by kernel_rfl) (hc.waits (n := 13) (i := 10) (by kernel_rfl) (hc.waits (n := 10) (i := 4) (by kernel_rfl) (hc.waits (n := 4) (i := 3) (by kernel_rfl) h))))) (by kernel_rfl) (fun _ _ _ h => h) hA6 (.inl ⟨rfl, fun w5 q1 => ?_⟩) ?_
        · go_simp
        simp only [Act.put, List.setIfInBounds_toArray, List.set]
        refine wpG_takeT (i := 4) (v := .bool true) rfl (fun L hc h => (hc.waits (n := 22) (i := 13) (by kernel_rfl) (hc.waits (n := 13) (i := 10) (by kernel_rfl) (hc.waits (n := 10) (i := 4) (by kernel_rfl) h)))) (by kernel_rfl) (fun _ _ _ h => h) hA6 (.inl ⟨rfl, fun w5 q1 => ?_⟩) ?_
        · go_simp
        simp only [Act.put, List.setIfInBounds_toArray, List.set]
        refine wpG_takeT (i := 5) (v := undef) rfl (fun L hc h => (hc.waits (n := 22) (i := 13) (by kernel_rfl) (hc.waits (n := 13) (i := 10) (by kernel_rfl) (hc.waits (n := 10) (i := 9) (by kernel_rfl) (hc.waits (n := 9) (i := 8) (by kernel_rfl) (hc.waits (n := 8) (i := 7) (by kernel_rfl) (hc.waits (n := 7) (i := 6) (by kernel_rfl) (hc.waits (n := 6) (i := 5) (by kernel_rfl) h)))))))) (by kernel_rfl) (fun _ _ _ h => h) hA6 (.inr ⟨rfl, rfl⟩) ?_
        simp only [Act.put, List.setIfInBounds_toArray, List.set]
        refine wpG_takeT (i := 6) (v := undef) rfl (fun L hc h => (hc.waits (n := 22) (i := 13) (by kernel_rfl) (hc.waits (n := 13) (i := 10) (by kernel_rfl) (hc.waits (n := 10) (i := 9) (by kernel_rfl) (hc.waits (n := 9) (i := 8) (by kernel_rfl) (hc.waits (n := 8) (i := 7) (by kernel_rfl) (hc.waits (n := 7) (i := 6) (by kernel_rfl) h))))))) (by kernel_rfl) (fun _ _ _ h => h) hA6 (.inr ⟨rfl, rfl⟩) ?_
        simp only [Act.put, List.setIfInBounds_toArray, List.set]
        refine wpG_takeT (i := 7) (v := undef) rfl (fun L hc h => (hc.waits (n := 22) (i := 13) (by kernel_rfl) (hc.waits (n := 13) (i := 10) (by kernel_rfl) (hc.waits (n := 10) (i := 9) (by kernel_rfl) (hc.waits (n := 9) (i := 8) (by kernel_rfl) (hc.waits (n := 8) (i := 7) (by kernel_rfl) h)))))) (by kernel_rfl) (fun _ _ _ h => h) hA6 (.inr ⟨rfl, rfl⟩) ?_
        simp only [Act.put, List.setIfInBounds_toArray, List.set]
        refine wpG_takeT (i := 8) (v := undef) rfl (fun L hc h => (hc.waits (n := 22) (i := 13) (by kernel_rfl) (hc.waits (n := 13) (i := 10) (by kernel_rfl) (hc.waits (n := 10) (i := 9) (by kernel_rfl) (hc.waits (n := 9) (i := 8) (by kernel_rfl) h))))) (by kernel_rfl) (fun _ _ _ h => h) hA6 (.inr ⟨rfl, rfl⟩) ?_
        simp only [Act.put, List.setIfInBounds_toArray, List.set]
        refine wpG_takeT (i := 9) (v := .bool true) rfl (fun L hc h => (hc.waits (n := 22) (i := 13) (by kernel_rfl) (hc.waits (n := 13) (i := 10) (by kernel_rfl) (hc.waits (n := 10) (i := 9) (by kernel_rfl) h)))) (by kernel_rfl) (fun _ _ _ h => h) hA6 (.inl ⟨rfl, fun w5 q1 => ?_⟩) ?_
        · go_simp
        simp only [Act.put, List.setIfInBounds_toArray, List.set]
        refine wpG_takeT (i := 10) (v := .bool true) rfl (fun L hc h => (hc.waits (n := 22) (i := 13) (by kernel_rfl) (hc.waits (n := 13) (i := 10) (by kernel_rfl) h))) (by kernel_rfl) (fun _ _ _ h => h) hA6 (.inl ⟨rfl, fun w5 q1 => ?_⟩) ?_
        · go_simp
        simp only [Act.put, List.setIfInBounds_toArray, List.set]
        refine wpG_takeT (i := 11) (v := undef) rfl (fun L hc h => (hc.waits (n := 22) (i := 13) (by kernel_rfl) (hc.waits (n := 13) (i := 12) (by kernel_rfl) (hc.waits (n := 12) (i := 11) (by kernel_rfl) h)))) (by kernel_rfl) (fun _ _ _ h => h) hA6 (.inr ⟨rfl, rfl⟩) ?_
        simp only [Act.put, List.setIfInBounds_toArray, List.set]
        refine wpG_takeT (i := 12) (v := undef) rfl (fun L hc h => (hc.waits (n := 22) (i := 13) (by kernel_rfl) (hc.waits (n := 13) (i := 12) (by kernel_rfl) h))) (by kernel_rfl) (fun _ _ _ h => h) hA6 (.inr ⟨rfl, rfl⟩) ?_
        simp only [Act.put, List.setIfInBounds_toArray, List.set]
        refine wpG_takeT (i := 13) (v := undef) rfl (fun L hc h => (hc.waits (n := 22) (i := 13) (by kernel_rfl) h)) (by kernel_rfl) (fun _ _ _ h => h) hA6 (.inr ⟨rfl, rfl⟩) ?_
        simp only [Act.put, List.setIfInBounds_toArray, List.set]
        refine wpG_takeT (i := 14) (v := undef) rfl (fun L hc h => (hc.waits (n := 22) (i := 20) (by kernel_rfl) (hc.waits (n := 20) (i := 19) (by kernel_rfl) (hc.waits (n := 19) (i := 18) (by kernel_rfl) (hc.waits (n := 18) (i := 15) (by kernel_rfl) (hc.waits (n := 15) (i := 14) (by kernel_rfl) h)))))) (by kernel_rfl) (fun _ _ _ h => h) hA6 (.inr ⟨rfl, rfl⟩) ?_
        simp only [Act.put, List.setIfInBounds_toArray, List.set]
        refine wpG_takeT (i := 15) (v := undef) rfl (fun L hc h => (hc.waits (n := 22) (i := 20) (by kernel_rfl) (hc.waits (n := 20) (i := 19) (by kernel_rfl) (hc.waits (n := 19) (i := 18) (by kernel_rfl) (hc.waits (n := 18) (i := 15) (by kernel_rfl) h))))) (by kernel_rfl) (fun _ _ _ h => h) hA6 (.inr ⟨rfl, rfl⟩) ?_
        simp only [Act.put, List.setIfInBounds_toArray, List.set]
        refine wpG_takeT (i := 16) (v := undef) rfl (fun L hc h => (hc.waits (n := 22) (i := 20) (by kernel_rfl) (hc.waits (n := 20) (i := 19) (by kernel_rfl) (hc.waits (n := 19) (i := 18) (by kernel_rfl) (hc.waits (n := 18) (i := 17) (by kernel_rfl) (hc.waits (n := 17) (i := 16) (by kernel_rfl) h)))))) (by kernel_rfl) (fun _ _ _ h => h) hA6 (.inr ⟨rfl, rfl⟩) ?_
        simp only [Act.put, List.setIfInBounds_toArray, List.set]
        refine wpG_takeT (i := 17) (v := undef) rfl (fun L hc h => (hc.waits (n := 22) (i := 20) (by kernel_rfl) (hc.waits (n := 20) (i := 19) (by kernel_rfl) (hc.waits (n := 19) (i := 18) (by kernel_rfl) (hc.waits (n := 18) (i := 17) (by kernel_rfl) h))))) (by kernel_rfl) (fun _ _ _ h => h) hA6 (.inr ⟨rfl, rfl⟩) ?_
        simp only [Act.put, List.setIfInBounds_toArray, List.set]
        refine wpG_takeT (i := 18) (v := undef) rfl (fun L hc h => (hc.waits (n := 22) (i := 20) (by kernel_rfl) (hc.waits (n := 20) (i := 19) (by kernel_rfl) (hc.waits (n := 19) (i := 18) (by kernel_rfl) h)))) (by kernel_rfl) (fun _ _ _ h => h) hA6 (.inr ⟨rfl, rfl⟩) ?_
        simp only [Act.put, List.setIfInBounds_toArray, List.set]
        refine wpG_takeT (i := 19) (v := undef) rfl (fun L hc h => (hc.waits (n := 22) (i := 20) (by kernel_rfl) (hc.waits (n := 20) (i := 19) (by kernel_rfl) h))) (by kernel_rfl) (fun _ _ _ h => h) hA6 (.inr ⟨rfl, rfl⟩) ?_
        simp only [Act.put, List.setIfInBounds_toArray, List.set]
        refine wpG_takeT (i := 20) (v := undef) rfl (fun L hc h => (hc.waits (n := 22) (i := 20) (by kernel_rfl) h)) (by kernel_rfl) (fun _ _ _ h => h) hA6 (.inr ⟨rfl, rfl⟩) ?_
        simp only [Act.put, List.setIfInBounds_toArray, List.set]
        refine wpG_takeT (i := 21) (v := undef) rfl (fun L hc h => (hc.waits (n := 22) (i := 21) (by kernel_rfl) h)) (by kernel_rfl) (fun _ _ _ h => h) hA6 (.inr ⟨rfl, rfl⟩) ?_
        simp only [Act.put, List.setIfInBounds_toArray, List.set]
        refine wpG_tail_lit (k := 22) rfl rfl (by kernel_rfl) ?_
        simp only [List.drop]
        clear hz hz'
        go_wp2
        go_ret
        exact ⟨ret_int (chkT_no (by rw [← HT2.out, tab_no HBAD.out])).symm, HU.out.trans (HU4.out.trans hA6)⟩
    · obtain rfl : k = l.length := by omega
      have h1 := HT.out
      rw [List.drop_of_length_le (Nat.le_refl _)] at h1
      go_wp2
      go_ret
      exact ⟨ret_int (chkT_yes h1.symm).symm, HU.out.trans HR.out⟩
end Go.Proofs.YtbonfdkgkcbkmaaGreat
end

section
namespace Go.Proofs.YtbonfdkgkcbkmaaGreat
set_option maxRecDepth 100000
open Go.RowKit Go.Shelf

attribute [local go_sem] Oper.semAt_some
end Go.Proofs.YtbonfdkgkcbkmaaGreat
end

section
namespace Go.Proofs.YtbonfdkgkcbkmaaGreat
set_option maxRecDepth 100000
open Go.RowKit Go.Shelf

attribute [local go_sem] Oper.semAt_some
/-- Rows of a table in a slice of one's own. -/
abbrev OwnC (w : World) (B : Nat) (v : Value) (l : List KcV) : Prop := w.ownsRow B 63 4 v l.length (l.map KcV.cells).flatten
theorem mapC_lens (l : List KcV) : ∀ y ∈ l.map KcV.cells, y.length = 4 := fun y hy => by obtain ⟨r, _, rfl⟩ := List.mem_map.1 hy; rfl
theorem OwnC.in' {w : World} {B : Nat} {a : Option Addr} {c : Nat} {l : List KcV} (h : OwnC w B (.slice a l.length c) l) : KcsIn w a l := Row.of_ownK (by omega) h (mapC_lens l) (by simp)
end Go.Proofs.YtbonfdkgkcbkmaaGreat
end

section
namespace Go.Proofs.YtbonfdkgkcbkmaaGreat
set_option maxRecDepth 100000
open Go.RowKit Go.Shelf

attribute [local go_sem] Oper.semAt_some
end Go.Proofs.YtbonfdkgkcbkmaaGreat
end

