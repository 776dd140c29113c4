/- Walks: whether two batches are the same. -/
import Derived.Test.YtbimkhdiplnbfaaGreatY3
import Derived.Test.YtbimkhdiplnbfaaGreatY17
import Derived.Test.YtbimkhdiplnbfaaGreatY18
import Derived.Test.YtbimkhdiplnbfaaGreatY20
import Derived.Test.YtbimkhdiplnbfaaGreatY21
import Derived.Test.YtbimkhdiplnbfaaGreatY28
import Derived.Maps.OwnSet
import Derived.Maps.Views
import Derived.Deep.CutBlock
set_option linter.unusedVariables false
set_option linter.unusedSimpArgs false

section
namespace Go.Proofs.YtbimkhdiplnbfaaGreat
set_option maxRecDepth 100000
open Go.RowKit Go.Shelf

end Go.Proofs.YtbimkhdiplnbfaaGreat
end

section
namespace Go.Proofs.YtbimkhdiplnbfaaGreat
set_option maxRecDepth 100000
open Go.RowKit Go.Shelf

theorem flat_put (L : List (SetV × Value × Value)) (i : Nat) (x : SetV) (y : SetV × Value × Value) (v u : Value) (hi : L[i]? = some y) (hw : x.was = y.1.was) (his : x.is = y.1.is) :
    (((L.flatMap elC).set (i * 5) (.string x.name)).set (i * 5 + 3) v).set (i * 5 + 4) u = (L.set i (x, v, u)).flatMap elC := by
  have hil := (List.getElem?_eq_some_iff.1 hi).1
  apply List.ext_getElem?
  intro p
  by_cases hp : p < 5 * L.length
  · obtain ⟨j, t, ht, hj, rfl⟩ : ∃ j t, t < 5 ∧ j < L.length ∧ p = j * 5 + t := ⟨p / 5, p % 5, by omega, by omega, by omega⟩
    by_cases hji : j = i
    · subst hji
      rw [flat_at (L.set j (x, v, u)) j t (x, v, u) (by simp [hil]) ht]
      have h2 := flat_at L j t y hi ht
      have hlen : j * 5 + 4 < (L.flatMap elC).length := by rw [flat_length]; omega
      match t, ht with
      | 0, _ => rw [List.getElem?_set_ne (by omega), List.getElem?_set_ne (by omega), Nat.add_zero, List.getElem?_set_self (by omega)]; rfl
      | 1, _ => rw [List.getElem?_set_ne (by omega), List.getElem?_set_ne (by omega), List.getElem?_set_ne (by omega), h2]; simp [elC, hw]
      | 2, _ => rw [List.getElem?_set_ne (by omega), List.getElem?_set_ne (by omega), List.getElem?_set_ne (by omega), h2]; simp [elC, his]
      | 3, _ => rw [List.getElem?_set_ne (by omega), List.getElem?_set_self (by simp only [List.length_set]; omega)]; rfl
      | 4, _ => rw [List.getElem?_set_self (by simp only [List.length_set]; omega)]; rfl
    · rw [List.getElem?_set_ne (by omega), List.getElem?_set_ne (by omega), List.getElem?_set_ne (by omega)]
      rw [flat_at L j t L[j] (List.getElem?_eq_getElem hj) ht, flat_at (L.set i (x, v, u)) j t L[j] (by rw [List.getElem?_set_ne (Ne.symm hji)]; exact List.getElem?_eq_getElem hj) ht]
  · rw [List.getElem?_eq_none (by simp only [List.length_set, flat_length]; omega), List.getElem?_eq_none (by rw [flat_length, List.length_set]; omega)]

theorem SetRow.put {w : World} {g cap B : Nat} {C : Nat → Prop} {l : List SetV} {i : Nat} {x x' : SetV} {v u : Value} (h : SetRow w B C (.slice (some ⟨g, 0, none⟩) l.length cap) l) (hr : RowC w C) (hi : l[i]? = some x) (hw : x'.was = x.was) (his : x'.is = x.is) (hv : BytesAt w C v x'.old) (hu : BytesAt w C u x'.new) (hf : x'.fine) :
    SetRow (((w.setCell ⟨g, i * 5, none⟩ (.string x'.name)).setCell ⟨g, i * 5 + 3, none⟩ v).setCell ⟨g, i * 5 + 4, none⟩ u) B C (.slice (some ⟨g, 0, none⟩) l.length cap) (l.set i x') ∧ Upd (fun k => k = g) w (((w.setCell ⟨g, i * 5, none⟩ (.string x'.name)).setCell ⟨g, i * 5 + 3, none⟩ v).setCell ⟨g, i * 5 + 4, none⟩ u) := by
  have hap : ∀ k, C k → ¬ k = g := fun k hk e => h.apart hr k hk (by rw [e]; rfl)
  have hupd : Upd (fun k => k = g) w (((w.setCell ⟨g, i * 5, none⟩ (.string x'.name)).setCell ⟨g, i * 5 + 3, none⟩ v).setCell ⟨g, i * 5 + 4, none⟩ u) := ((upd_own w g _ _).trans (upd_own _ g _ _)).trans (upd_own _ g _ _)
  obtain ⟨L, rfl, h1, h2, h3⟩ := h
  simp only [List.getElem?_map, Option.map_eq_some_iff] at hi
  obtain ⟨y, hy, rfl⟩ := hi
  refine ⟨⟨L.set i (x', v, u), by rw [List.map_set], ?_, fun z hz => ?_, fun z hz => ?_⟩, hupd⟩
  · have := (((h1.stored (i * 5) (.string x'.name)).1.stored (i * 5 + 3) v).1.stored (i * 5 + 4) u).1
    rw [flat_put L i x' y v u hy hw his] at this
    rw [List.length_set]
    exact this
  · rcases List.mem_or_eq_of_mem_set hz with hz | rfl
    · exact ⟨(h2 z hz).1.kept hupd hap, (h2 z hz).2.kept hupd hap⟩
    · exact ⟨hv.kept hupd hap, hu.kept hupd hap⟩
  · rcases List.mem_or_eq_of_mem_set hz with hz | rfl
    · exact h3 z hz
    · exact hf

theorem BytesAt.head {w : World} {C : Nat → Prop} {v : Value} {bs : List Int} (h : BytesAt w C v bs) {n : Nat} (hn : n ≤ bs.length) :
    ∃ u, (∀ W, (Instr.slice 39 v none (some (.int .i64 n)) none).run Tryz.prog W = .ok u W) ∧ BytesAt w C u (bs.take n) := by
  have hl : (bs.take n).length = n := by simp; omega
  rcases h with ⟨rfl, rfl⟩ | ⟨g, o, c, hg, rfl, h2, h3, h4⟩
  · obtain rfl : n = 0 := by simpa using hn
    refine ⟨.slice none 0 0, fun W => ?_, .inl ⟨rfl, rfl⟩⟩
    have := run_slice_h W 39 none 0 0 elem39 .i64 0 (by omega) (by omega)
    rw [show ((0 : Nat) : Int) = 0 from rfl, this, size39e]
    rfl
  · refine ⟨.slice (some ⟨g, o, none⟩) n c, fun W => ?_, .inr ⟨g, o, c, hg, by rw [hl], by rw [hl]; omega, h3, fun i u hi => ?_⟩⟩
    · rw [run_slice_h W 39 _ bs.length c elem39 .i64 n (by omega) (by omega), size39e]
      simp [Result.andThen, sliced, Addr.add_zero']
    · have hi2 := (List.getElem?_eq_some_iff.1 hi).1
      simp only [bcells, List.length_map, hl] at hi2
      refine h4 i u ?_
      simp only [bcells, List.getElem?_map, List.getElem?_take_of_lt hi2] at hi ⊢
      exact hi

/-- A set, clipped. -/
def clipV (x : SetV) : SetV := ⟨x.name.extract 0 (min x.name.size 40), x.was, x.is, x.old.take 3001, x.new.take 3001⟩
end Go.Proofs.YtbimkhdiplnbfaaGreat
end

section
namespace Go.Proofs.YtbimkhdiplnbfaaGreat
set_option maxRecDepth 100000
open Go.RowKit Go.Shelf

/-- A register in memory: its log, its epoch, its map, its area. -/
def RegAt (w : World) (p : Nat) (lg : Value) (ev : Int) (mv : Value) (area : Int) : Prop := w.heap[p]? = some (.cells #[lg, .int .u64 ev, mv, .int .i64 area] 172 (0, 0))

theorem area_any {p : Nat} {lg mv : Value} {ev area : Int} (w : World) (h : RegAt w p lg ev mv area) :
    Calls Tryz.prog 46 #[.pointer (some ⟨p, 0, none⟩)] w fun e w' => e = .returned (.int .i64 area) ∧ w = w' := by
  have c3 : w.cell? ⟨p, 3, none⟩ = some (.int .i64 area) := by rw [cell_of_heap h]; rfl
  clear h
  go_enter Tryz.func46, Tryz.ntmps46
  go_wp2
  go_ret
  exact ⟨rfl, rfl⟩

theorem epoch_any {p : Nat} {lg mv : Value} {ev area : Int} (w : World) (h : RegAt w p lg ev mv area) :
    Calls Tryz.prog 36 #[.pointer (some ⟨p, 0, none⟩)] w fun e w' => e = .returned (.int .u64 ev) ∧ w = w' := by
  have c1 : w.cell? ⟨p, 1, none⟩ = some (.int .u64 ev) := by rw [cell_of_heap h]; rfl
  clear h
  go_enter Tryz.func36, Tryz.ntmps36
  go_wp2
  go_ret
  exact ⟨rfl, rfl⟩

/-- Whether bytes may be a transaction that fills so many sectors. -/
def fitsF (n : Int) (m : Int) : Bool := decide (n ≤ 40000) && decide (secsI n ≤ m)
theorem fits_any {a : Option Addr} {n c : Nat} {m : Int} (w : World) :
    Calls Tryz.prog 97 #[.slice a n c, .int .i64 m] w fun e w' => e = .returned (.bool (fitsF n m)) ∧ w = w' := by
  unfold fitsF
  by_cases h : n ≤ 40000
  · have h1 : (n : Int) ≤ 40000 := by omega
    rw [decide_eq_true h1, Bool.true_and]
    go_enter Tryz.func97, Tryz.ntmps97
    go_wp2_with (go_at_call 113; fail)
    refine (sectors_any n w).mono ?_
    rintro e w' ⟨rfl, rfl⟩
    simp only []
    go_wp2
    go_ret
    exact ⟨rfl, rfl⟩
  · have h1 : ¬ (n : Int) ≤ 40000 := by omega
    rw [decide_eq_false h1, Bool.false_and]
    go_enter Tryz.func97, Tryz.ntmps97
    go_wp2
    go_ret
    exact ⟨rfl, rfl⟩

theorem wbroken_any {q p : Nat} {X : Lg} {G : Nat → Prop} (w : World) (h : Log w q p X G) :
    Calls Tryz.prog 74 #[.pointer (some ⟨q, 0, none⟩)] w fun e w' => e = .returned (.bool X.broken) ∧ w = w' := by
  obtain ⟨PV, vs, h1, _⟩ := h
  obtain ⟨c0, c1, c2, c3, c4, c5, c6, c7⟩ := cells8_of h1.main
  clear h1
  go_enter Tryz.func74, Tryz.ntmps74
  go_wp2
  go_ret
  exact ⟨rfl, rfl⟩

theorem broken_any {r q p : Nat} {mv : Value} {ev area : Int} {X : Lg} {G : Nat → Prop} (w : World) (hr : RegAt w r (.pointer (some ⟨q, 0, none⟩)) ev mv area) (h : Log w q p X G) :
    Calls Tryz.prog 48 #[.pointer (some ⟨r, 0, none⟩)] w fun e w' => e = .returned (.bool X.broken) ∧ w = w' := by
  have c0 : w.cell? ⟨r, 0, none⟩ = some (.pointer (some ⟨q, 0, none⟩)) := by rw [cell_of_heap hr]; rfl
  have H := Lib.hid h
  clear hr h
  go_enter Tryz.func48, Tryz.ntmps48
  go_wp2_with (go_at_call 74; fail)
  refine (wbroken_any w H.out).mono ?_
  rintro e w' ⟨rfl, rfl⟩
  simp only []
  go_wp2
  go_ret
  exact ⟨rfl, rfl⟩
end Go.Proofs.YtbimkhdiplnbfaaGreat
end

section
namespace Go.Proofs.YtbimkhdiplnbfaaGreat
set_option maxRecDepth 100000
open Go.RowKit Go.Shelf

/-- An element of the map reads as itself. -/
def RV (v : Value) : Option (DataW Value × List MemPlace) := some (.held v, [])

theorem Tryz.underlying165 : Tryz.prog.underlying 165 = some (.map 9 39) := by kernel_rfl
theorem zero39 (w : World) : (zeroValue 39).run Tryz.prog w = .ok (.slice none 0 0) w := by kernel_rfl

/-- The map of values: of each name, its bytes. -/
def MapAt (w : World) (b n : Nat) (C : Nat → Prop) (M : ByteArray → Option (List Int)) : Prop := ∃ D : DataW Value, w.ownsMap Tryz.prog 9 RV b n D ∧ RowC w C ∧
  ∀ s : ByteArray, s.size ≤ maxLen → ∃ v, D.atKey (.string s.data.toList) (.held (.slice none 0 0)) = .held v ∧ Maps.has D (.string s.data.toList) = (M s).isSome ∧ BytesAt w C v ((M s).getD [])

theorem MapAt.look {w : World} {b n : Nat} {C : Nat → Prop} {M : ByteArray → Option (List Int)} (h : MapAt w b n C M) {s : ByteArray} (hs : s.size ≤ maxLen) :
    ∃ v, (Instr.lookup 165 (.map (some b)) (.string s) true).run Tryz.prog w = .ok (.tuple #[v, .bool (M s).isSome]) w ∧ BytesAt w C v ((M s).getD []) := by
  obtain ⟨D, h1, _, h2⟩ := h
  obtain ⟨v, k1, k2, k3⟩ := h2 s hs
  obtain ⟨v', ps, hr, hv⟩ := h1.look_ok (Maps.string_keyed Tryz.underlying9s') Tryz.underlying165 (zero39 w) (zd := .held (.slice none 0 0)) (zp := []) rfl (key := .string s) (WideMaps.keyOf_string_mk Tryz.underlying9s' hs)
  rw [k1, RV] at hv
  have e : v' = v := by
    injection hv with hv
    injection hv with hv
    injection hv
  subst e
  rw [k2] at hr
  exact ⟨_, hr, k3⟩

set_option maxHeartbeats 4000000 in
theorem value_any {p b n : Nat} {C : Nat → Prop} {lg : Value} {ev area : Int} {M : ByteArray → Option (List Int)} {s : ByteArray} (w : World) (h : RegAt w p lg ev (.map (some b)) area) (hm : MapAt w b n C M) (hs : s.size ≤ maxLen) (hl : ((M s).getD []).length ≤ 1099511627776) :
    Calls Tryz.prog 34 #[.pointer (some ⟨p, 0, none⟩), .string s] w fun e w' => ∃ u, e = .returned (.tuple #[u, .bool (M s).isSome]) ∧ OwnB w' w.heap.size u ((M s).getD []) ∧ Upd (fun _ => False) w w' := by
  obtain ⟨v, hlk, hv⟩ := hm.look hs
  obtain ⟨va, vn, vc, rfl⟩ : ∃ a n c, v = .slice a n c := by
    obtain ⟨a, c, e, _⟩ := hv.slice
    exact ⟨_, _, _, e⟩
  have c2 : w.cell? ⟨p, 2, none⟩ = some (.map (some b)) := by rw [cell_of_heap h]; rfl
  obtain ⟨f, hf⟩ : ∃ f, f = (M s).isSome := ⟨_, rfl⟩
  obtain ⟨bs, hbs⟩ : ∃ bs, bs = (M s).getD [] := ⟨_, rfl⟩
  rw [← hf] at hlk ⊢
  rw [← hbs] at hv hl ⊢
  have HC := Lib.hid (clone_any w hl hv.bytesIn)
  clear hv h hm hf hbs hs
  go_enter Tryz.func34, Tryz.ntmps34
  go_wp2_with (go_at_call 99; fail)
  refine HC.out.mono ?_
  rintro e w' ⟨u, rfl, g1, _, g3⟩
  obtain ⟨ua, um, uc, rfl⟩ := g1.bytesAt.1.slice'
  have G1 := Lib.hid g1; have G3 := Lib.hid g3
  clear g1 g3
  simp only []
  go_wp2
  go_returns
  exact ⟨_, rfl, G1.out, G3.out⟩
end Go.Proofs.YtbimkhdiplnbfaaGreat
end

section
namespace Go.Proofs.YtbimkhdiplnbfaaGreat
set_option maxRecDepth 100000
open Go.RowKit Go.Shelf

theorem MapAt.made (w : World) : MapAt (w.alloc (.map #[] 0)) w.heap.size 0 (fun _ => False) (fun _ => none) :=
  ⟨_, World.ownsMap_made w _ _ _, fun k hk => hk.elim, fun s _ => ⟨.slice none 0 0, rfl, rfl, .inl ⟨rfl, rfl⟩⟩⟩

theorem lit_ne {s t : ByteArray} (h : t ≠ s) : (Lit.string t.data.toList) ≠ .string s.data.toList := by
  intro e
  injection e with e
  exact h (ByteArray.ext (Array.toList_inj.1 e))

theorem MapAt.isMapBlock {w : World} {b n : Nat} {C : Nat → Prop} {M : ByteArray → Option (List Int)} (h : MapAt w b n C M) : ∃ es c, w.heap[b]? = some (.map es c) := by
  obtain ⟨D, ⟨es, c, h1, _⟩, _⟩ := h
  exact ⟨es, c, h1⟩
theorem MapAt.apart {w : World} {b n : Nat} {C : Nat → Prop} {M : ByteArray → Option (List Int)} (h : MapAt w b n C M) {E : Nat → Prop} (hE : RowC w E) : ∀ k, E k → ¬ k = b := by
  rintro k hk rfl
  obtain ⟨es, c, h1⟩ := h.isMapBlock
  obtain ⟨cs, h2⟩ := hE k hk
  rw [h1] at h2
  cases h2
theorem MapAt.rowC {w : World} {b n : Nat} {C : Nat → Prop} {M : ByteArray → Option (List Int)} (h : MapAt w b n C M) : RowC w C := h.choose_spec.2.1

/-- A map's name, with what is set. -/
def setM (M : ByteArray → Option (List Int)) (s : ByteArray) (o : Option (List Int)) : ByteArray → Option (List Int) := fun t => if t = s then o else M t

theorem MapAt.put {w : World} {b n : Nat} {C E : Nat → Prop} {M : ByteArray → Option (List Int)} {s : ByteArray} {v : Value} {bs : List Int} (h : MapAt w b n C M) (hn : n < maxLen) (hs : s.size ≤ maxLen) (hv : BytesAt w E v bs) (hE : RowC w E) :
    ∃ w', (Instr.mapUpdate 165 (.map (some b)) (.string s) v).run Tryz.prog w = .ok () w' ∧ MapAt w' b (n + 1) (fun k => C k ∨ E k) (setM M s (some bs)) ∧ Upd (fun k => k = b) w w' := by
  have ha := h.apart h.rowC
  have hb := h.apart hE
  obtain ⟨D, h1, h0, h2⟩ := h
  obtain ⟨w', hr, g1, g2⟩ := h1.store (val := v) (d := .held v) (ps := []) (Maps.string_keyed Tryz.underlying9s') Tryz.underlying165 hn (key := .string s) (WideMaps.keyOf_string_mk Tryz.underlying9s' hs) rfl
  have hu : Upd (fun k => k = b) w w' := Upd.of_grown g2.grown (fun k hk => by simpa using hk.symm)
  refine ⟨w', hr, ⟨_, g1, fun k hk => hk.elim (h0.kept hu ha k) (hE.kept hu hb k), fun t ht => ?_⟩, hu⟩
  by_cases e : t = s
  · subst e
    refine ⟨v, Maps.atKey_put_same (k := .string _) h1.isMap trivial _ _, ?_, ?_⟩
    · rw [Maps.has_put_same (k := .string _) h1.isMap trivial]; simp [setM]
    · have := (hv.kept hu hb).mono (C' := fun k => C k ∨ E k) (fun _ => .inr)
      simpa [setM] using this
  · obtain ⟨v', k1, k2, k3⟩ := h2 t ht
    refine ⟨v', by rw [Maps.atKey_put_other (lit_ne e)]; exact k1, by rw [Maps.has_put_other (lit_ne e), k2]; simp [setM, e], ?_⟩
    have := (k3.kept hu ha).mono (C' := fun k => C k ∨ E k) (fun _ => .inl)
    simpa [setM, e] using this

theorem MapAt.del {w : World} {b n : Nat} {C : Nat → Prop} {M : ByteArray → Option (List Int)} {s : ByteArray} (h : MapAt w b n C M) (hs : s.size ≤ maxLen) (ty : TypeId) :
    ∃ w', (Builtin.delete_ #[165, 9] ty #[.map (some b), .string s]).run Tryz.prog w = .ok (.tuple #[]) w' ∧ MapAt w' b n C (setM M s none) ∧ Upd (fun k => k = b) w w' := by
  have ha := h.apart h.rowC
  obtain ⟨D, h1, h0, h2⟩ := h
  obtain ⟨w', hr, g1, g2⟩ := h1.drop (Maps.string_keyed Tryz.underlying9s') Tryz.underlying165 (key := .string s) (WideMaps.keyOf_string_mk Tryz.underlying9s' hs) ty
  have hu : Upd (fun k => k = b) w w' := Upd.of_grown g2.grown (fun k hk => by simpa using hk.symm)
  refine ⟨w', hr, ⟨_, g1, h0.kept hu ha, fun t ht => ?_⟩, hu⟩
  by_cases e : t = s
  · subst e
    exact ⟨.slice none 0 0, Maps.atKey_del_same _, by rw [Maps.has_del_same]; simp [setM], by simp [setM]; exact .inl ⟨rfl, rfl⟩⟩
  · obtain ⟨v', k1, k2, k3⟩ := h2 t ht
    refine ⟨v', by rw [Maps.atKey_del_other (lit_ne e)]; exact k1, by rw [Maps.has_del_other (lit_ne e), k2]; simp [setM, e], ?_⟩
    have := k3.kept hu ha
    simpa [setM, e] using this
end Go.Proofs.YtbimkhdiplnbfaaGreat
end

section
namespace Go.Proofs.YtbimkhdiplnbfaaGreat
set_option maxRecDepth 100000
open Go.RowKit Go.Shelf

set_option maxHeartbeats 4000000 in
theorem rformat_good {p area N K : Nat} {D : Dk} {F : Nat → Prop} (w : World) (hD : Dsk w p D F) (hg : D.Good N) (hok : D.Ok K) (hK : K ≤ 1000000) (ha : 4 ≤ area ∧ area ≤ 1000) (hlen : 2 + 2 * area ≤ N) :
    Calls Tryz.prog 47 #[.pointer (some ⟨p, 0, none⟩), .int .i64 area] w fun e w' => ∃ r b q G' F', e = .returned (.tuple #[.pointer (some ⟨r, 0, none⟩), .int .i64 0]) ∧ RegAt w' r (.pointer (some ⟨q, 0, none⟩)) 0 (.map (some b)) area ∧ MapAt w' b 0 (fun _ => False) (fun _ => none) ∧
      WalG w' q p ⟨fmtH area, [[]], 1, false⟩ (fmtD D area 3) G' F' N (K + 20000) ∧ (∀ k, G' k → w.heap.size ≤ k) ∧ (∀ k, F' k → F k ∨ w.heap.size ≤ k) ∧ Upd F w w' ∧ w.heap.size ≤ b ∧ b < r ∧ (∀ k, G' k → k < b) ∧ ∀ k, F' k → k < b := by
  have HC := Lib.hid (format_good w hD hg hok hK ha hlen)
  clear hD hg hok hK ha hlen
  have hmk : ∀ W : World, (Instr.makeMap 165 none).run Tryz.prog W = .ok (.map (some W.heap.size)) (W.alloc (.map #[] 0)) := fun W => run_makeMap 165 W
  go_enter Tryz.func47, Tryz.ntmps47
  go_wp2_with (go_at_call 41; fail)
  refine HC.out.mono ?_
  rintro e w1 ⟨q, G', F', rfl, h1, h2, h3, h4⟩
  have H1 := Lib.hid h1; have H2 := Lib.hid h2; have H3 := Lib.hid h3; have H4 := Lib.hid h4
  clear h1 h2 h3 h4 HC
  simp only []
  obtain ⟨w2, hw2⟩ : ∃ w2, w2 = (w1.alloc (.map #[] 0)).alloc (.cells #[.pointer (some ⟨q, 0, none⟩), .int .u64 0, .map (some w1.heap.size), .int .i64 area] 172) := ⟨_, rfl⟩
  have hu2 : Upd (fun _ => False) w1 w2 := by rw [hw2]; exact ((Upd.refl _ w1).alloc _).alloc _
  have hr2 : RegAt w2 (w1.heap.size + 1) (.pointer (some ⟨q, 0, none⟩)) 0 (.map (some w1.heap.size)) area := by
    unfold RegAt
    rw [hw2]
    exact alloc_at (by simp)
  have hm2 : MapAt w2 w1.heap.size 0 (fun _ => False) (fun _ => none) := by
    obtain ⟨D, g1, g0, g2⟩ := MapAt.made w1
    rw [hw2]
    exact ⟨D, g1.alloc _, fun k hk => hk.elim, fun s hs => by
      obtain ⟨v, k1, k2, k3⟩ := g2 s hs
      exact ⟨v, k1, k2, k3.kept ((Upd.refl (fun _ => False) _).alloc _) (fun _ _ e => e)⟩⟩
  have HW2 := Lib.hid hw2; have HU2 := Lib.hid hu2; have HR2 := Lib.hid hr2; have HM2 := Lib.hid hm2
  clear hw2 hu2 hr2 hm2
  go_wp2
  go_returns
  rw [← HW2.out]
  exact ⟨_, _, q, G', F', rfl, HR2.out, HM2.out, H1.out.kept HU2.out (fun _ _ e => e) (fun _ _ e => e), H2.out, H3.out, H4.out.trans (HU2.out.mono (fun _ _ e => e.elim)), H4.out.size, by omega, H1.out.wal.1.lt, H1.out.wal.2.1.lt⟩
end Go.Proofs.YtbimkhdiplnbfaaGreat
end

section
namespace Go.Proofs.YtbimkhdiplnbfaaGreat
set_option maxRecDepth 100000
open Go.RowKit

theorem snap_any {q p : Nat} {X : Lg} {G : Nat → Prop} {b : List Int} (w : World) (h : Log w q p X G) (hok : X.Ok) (hb : X.parts[0]? = some b) :
    Calls Tryz.prog 71 #[.pointer (some ⟨q, 0, none⟩)] w fun e w' => ∃ u, e = .returned u ∧ OwnB w' w.heap.size u b ∧ Upd (fun _ => False) w w' := by
  obtain ⟨PV, vs, h1, _⟩ := h
  have hl : 0 < X.parts.length := (List.getElem?_eq_some_iff.1 hb).1
  have hvl := h1.vslen
  have hlb := (hok.bytes b (List.mem_of_getElem? hb)).2
  obtain ⟨v, hv⟩ : ∃ v, vs[0]? = some v := ⟨vs[0], List.getElem?_eq_getElem (by omega)⟩
  have hp := h1.parts 0 v b hv hb
  obtain ⟨c0, c1, c2, c3, c4, c5, c6, c7⟩ := cells8_of h1.main
  rcases h1.row.2 with ⟨_, h3⟩ | ⟨g, cap, cur, rfl, _⟩
  · omega
  have d0 : w.cell? ⟨g, 0, none⟩ = some v := World.ownsRow.cells h1.row rfl 0 v hv
  have HC := Lib.hid (clone_any w (by omega) hp.bytesIn)
  obtain ⟨n, hn⟩ : ∃ n, n = X.parts.length := ⟨_, rfl⟩
  rw [← hn] at c5 hl
  have hln : (0 : Int) < n := by omega
  clear h1 c0 c1 c2 c3 c4 c6 c7 hp hv hvl hb hok hn
  go_enter Tryz.func71, Tryz.ntmps71
  go_wp2_with (go_at_call 99; fail)
  refine HC.out.mono ?_
  rintro e w1 ⟨u, rfl, ho, _, hu⟩
  have HO := Lib.hid ho; have HU := Lib.hid hu
  clear ho hu HC
  simp only []
  go_wp2
  go_ret
  exact ⟨_, rfl, HO.out, HU.out⟩
end Go.Proofs.YtbimkhdiplnbfaaGreat
end

section
namespace Go.Proofs.YtbimkhdiplnbfaaGreat
set_option maxRecDepth 100000
open Go.RowKit

set_option maxRecDepth 100000 in
set_option maxHeartbeats 4000000 in
theorem get_any {q p bx : Nat} {X : Lg} {G F : Nat → Prop} {D : Dk} {place : Int} (w : World) (h : Log w q p X G) (hok : X.Ok) (hbx : w.heap[bx]? = some (.cells #[.pointer (some ⟨q, 0, none⟩)] 38 (0, 0))) (hD : Dsk w p D F) (hdok : D.Ok 1099511627774)
    (hFG : ∀ k, G k → ¬ F k) (hFb : ¬ F bx) (hp : 0 ≤ place ∧ place ≤ 1099511627776) :
    Calls Tryz.prog 171 #[.int .i64 place, .pointer (some ⟨bx, 0, none⟩)] w fun e w' => e = .returned (.tuple #[.agg (bcells (D.reads (atF X.h.area place))).toArray, .int .i64 (D.callE (atF X.h.area place) false)]) ∧ Dsk w' p (D.callD (atF X.h.area place) false) F ∧ Upd F w w' := by
  have hq := h.mem
  obtain ⟨PV, vs, h1, _⟩ := h
  have hm := h1.main
  have ha := hok.area
  have hrl : (D.reads (atF X.h.area place)).length = 64 := (reads_blk hdok _).1
  obtain ⟨i, hi⟩ : ∃ i, i = atF X.h.area place := ⟨_, rfl⟩
  have har : 1 ≤ X.h.area ∧ X.h.area ≤ 1000 := by omega
  have hat : ∀ W, Calls Tryz.prog 161 #[X.h.val, .int .i64 place] W fun e w' => e = .returned (.int .i64 i) ∧ Upd (fun _ => False) W w' := fun W => by rw [hi]; exact at_any X.h place W har hp
  rw [← hi] at hrl ⊢
  have HRL : RowKit.Hid ((bcells (D.reads i)).length = 64) := Lib.hid (by simp [bcells, hrl])
  have HRS : RowKit.Hid ((bcells (D.reads i)).toArray.size = 64) := Lib.hid (by simp [bcells, hrl])
  have HZ : RowKit.Hid ((bcells zblk).toArray.size = 64) := Lib.hid (by simp [bcells, zblk])
  have HIR : RowKit.Hid ((Tryz.prog.info? 48).map (·.size) = some (bcells (D.reads i)).toArray.size) := Lib.hid (by rw [Tryz.info56p]; simp [bcells, hrl])
  have HIL : RowKit.Hid ((Tryz.prog.info? 48).map (·.size) = some (bcells (D.reads i)).length) := Lib.hid (by rw [Tryz.info56p]; simp [bcells, hrl])
  have HR1 := Lib.hid (all_oneCell_toArray (bcells_one (D.reads i)))
  have HI := Lib.hid hi; have HAT := Lib.hid hat; have HD := Lib.hid hD; have HOK := Lib.hid hdok; have HFB := Lib.hid hFb; have HFQ := Lib.hid (hFG q hq); have HQL := Lib.hid (lt_of_heap hm); have HFL := Lib.hid hD.lt; have HBX := Lib.hid hbx
  have HFW : RowKit.Hid (¬ F w.heap.size) := Lib.hid (fun e => by have := hD.lt _ e; omega)
  have hu1 : Upd (fun _ => False) w (w.alloc (.cells (bcells zblk).toArray 48)) := (Upd.refl _ w).alloc _
  have hb1 : (w.alloc (.cells (bcells zblk).toArray 48)).heap[w.heap.size]? = some (.cells (bcells zblk).toArray 48 (0, 0)) := alloc_at rfl
  have hbx1 := (hu1.block _ (lt_of_heap hbx) (fun e => e)).trans hbx
  have hm1 := (hu1.block _ (lt_of_heap hm) (fun e => e)).trans hm
  have hd1 := hD.kept hu1 (fun _ _ e => e)
  clear hm h1 hq hok ha hrl hi har hat hp hD hdok hFb hFG hbx HI
  go_enter Tryz.func171, Tryz.ntmps171
  go_upto_region 1 with fail
  refine (?_ : Code.wp _ _ _ _ (w.alloc (.cells (bcells zblk).toArray 48)))
  obtain ⟨w1, hw1⟩ : ∃ w1, w1 = w.alloc (.cells (bcells zblk).toArray 48) := ⟨_, rfl⟩
  rw [← hw1] at hu1 hb1 hbx1 hm1 hd1 ⊢
  have HU1 := Lib.hid hu1; have HB1 := Lib.hid hb1; have HBX1 := Lib.hid hbx1; have HM1 := Lib.hid hm1; have HD := Lib.hid hd1
  clear hu1 hb1 hbx1 hm1 hd1 hw1
  have hA : Upd (fun k => F k ∨ k = w.heap.size) w1 w1.drew := (Upd.refl _ w1).drew
  refine wp_region_G 14 (fun W => Upd (fun k => F k ∨ k = w.heap.size) w1 W) [false, false, false, false, false, false, false, false, false, false, false, false, false, false, false] rfl (by kernel_rfl) ?_
  refine wpG_takeT (i := 0) (v := .pointer (some ⟨q, 0, none⟩)) rfl (fun L hc h => (hc.waits (n := 14) (i := 12) (by kernel_rfl) (hc.waits (n := 12) (i := 10) (by kernel_rfl) (hc.waits (n := 10) (i := 3) (by kernel_rfl) (hc.waits (n := 3) (i := 2) (by kernel_rfl) (hc.waits (n := 2) (i := 1) (by kernel_rfl) (hc.waits (n := 1) (i := 0) (by kernel_rfl) h))))))) (by kernel_rfl) (fun _ _ _ h => h) hA (.inl ⟨rfl, fun w5 q1 => ?_⟩) ?_
  · have cc : w5.cell? ⟨bx, 0, none⟩ = some (.pointer (some ⟨q, 0, none⟩)) := by simp [World.cell?, (q1.block _ (lt_of_heap HBX1.out) (fun e => e.elim HFB.out (fun e => by have := lt_of_heap HBX.out; omega))).trans HBX1.out]
    go_simp
  simp only [Act.put, List.setIfInBounds_toArray, List.set]
  refine wpG_takeT (i := 1) (v := .pointer (some ⟨q, 0, none⟩)) rfl (fun L hc h => (hc.waits (n := 14) (i := 12) (by kernel_rfl) (hc.waits (n := 12) (i := 10) (by kernel_rfl) (hc.waits (n := 10) (i := 3) (by kernel_rfl) (hc.waits (n := 3) (i := 2) (by kernel_rfl) (hc.waits (n := 2) (i := 1) (by kernel_rfl) h)))))) (by kernel_rfl) (fun _ _ _ h => h) hA (.inl ⟨rfl, fun w5 q1 => ?_⟩) ?_
  · go_simp
  simp only [Act.put, List.setIfInBounds_toArray, List.set]
  refine wpG_takeT (i := 2) (v := .pointer (some ⟨q, 4, none⟩)) rfl (fun L hc h => (hc.waits (n := 14) (i := 12) (by kernel_rfl) (hc.waits (n := 12) (i := 10) (by kernel_rfl) (hc.waits (n := 10) (i := 3) (by kernel_rfl) (hc.waits (n := 3) (i := 2) (by kernel_rfl) h))))) (by kernel_rfl) (fun _ _ _ h => h) hA (.inl ⟨rfl, fun w5 q1 => ?_⟩) ?_
  · go_simp
  simp only [Act.put, List.setIfInBounds_toArray, List.set]
  refine wpG_takeT (i := 3) (v := .pointer (some ⟨p, 0, none⟩)) rfl (fun L hc h => (hc.waits (n := 14) (i := 12) (by kernel_rfl) (hc.waits (n := 12) (i := 10) (by kernel_rfl) (hc.waits (n := 10) (i := 3) (by kernel_rfl) h)))) (by kernel_rfl) (fun _ _ _ h => h) hA (.inl ⟨rfl, fun w5 q1 => ?_⟩) ?_
  · have cc : w5.cell? ⟨q, 4, none⟩ = some (.pointer (some ⟨p, 0, none⟩)) := by simp [World.cell?, (q1.block _ (lt_of_heap HM1.out) (fun e => e.elim HFQ.out (fun e => by have := HQL.out; omega))).trans HM1.out, Lg.cells]
    go_simp
  simp only [Act.put, List.setIfInBounds_toArray, List.set]
  refine wpG_takeT (i := 4) (v := .pointer (some ⟨q, 0, none⟩)) rfl (fun L hc h => (hc.waits (n := 14) (i := 12) (by kernel_rfl) (hc.waits (n := 12) (i := 10) (by kernel_rfl) (hc.waits (n := 10) (i := 9) (by kernel_rfl) (hc.waits (n := 9) (i := 7) (by kernel_rfl) (hc.waits (n := 7) (i := 6) (by kernel_rfl) (hc.waits (n := 6) (i := 5) (by kernel_rfl) (hc.waits (n := 5) (i := 4) (by kernel_rfl) h)))))))) (by kernel_rfl) (fun _ _ _ h => h) hA (.inl ⟨rfl, fun w5 q1 => ?_⟩) ?_
  · have cc : w5.cell? ⟨bx, 0, none⟩ = some (.pointer (some ⟨q, 0, none⟩)) := by simp [World.cell?, (q1.block _ (lt_of_heap HBX1.out) (fun e => e.elim HFB.out (fun e => by have := lt_of_heap HBX.out; omega))).trans HBX1.out]
    go_simp
  simp only [Act.put, List.setIfInBounds_toArray, List.set]
  refine wpG_takeT (i := 5) (v := .pointer (some ⟨q, 0, none⟩)) rfl (fun L hc h => (hc.waits (n := 14) (i := 12) (by kernel_rfl) (hc.waits (n := 12) (i := 10) (by kernel_rfl) (hc.waits (n := 10) (i := 9) (by kernel_rfl) (hc.waits (n := 9) (i := 7) (by kernel_rfl) (hc.waits (n := 7) (i := 6) (by kernel_rfl) (hc.waits (n := 6) (i := 5) (by kernel_rfl) h))))))) (by kernel_rfl) (fun _ _ _ h => h) hA (.inl ⟨rfl, fun w5 q1 => ?_⟩) ?_
  · go_simp
  simp only [Act.put, List.setIfInBounds_toArray, List.set]
  refine wpG_takeT (i := 6) (v := .pointer (some ⟨q, 0, none⟩)) rfl (fun L hc h => (hc.waits (n := 14) (i := 12) (by kernel_rfl) (hc.waits (n := 12) (i := 10) (by kernel_rfl) (hc.waits (n := 10) (i := 9) (by kernel_rfl) (hc.waits (n := 9) (i := 7) (by kernel_rfl) (hc.waits (n := 7) (i := 6) (by kernel_rfl) h)))))) (by kernel_rfl) (fun _ _ _ h => h) hA (.inl ⟨rfl, fun w5 q1 => ?_⟩) ?_
  · go_simp
  simp only [Act.put, List.setIfInBounds_toArray, List.set]
  refine wpG_takeT (i := 7) (v := X.h.val) rfl (fun L hc h => (hc.waits (n := 14) (i := 12) (by kernel_rfl) (hc.waits (n := 12) (i := 10) (by kernel_rfl) (hc.waits (n := 10) (i := 9) (by kernel_rfl) (hc.waits (n := 9) (i := 7) (by kernel_rfl) h))))) (by kernel_rfl) (fun _ _ _ h => h) hA (.inl ⟨rfl, fun w5 q1 => ?_⟩) ?_
  · refine run_load_mid' rfl rfl [.int .i64 X.h.turn, .int .i64 X.h.area, .int .i64 X.h.place, .int .i64 X.h.number] (fun j v hj => ?_) Tryz.underlying184 rfl Tryz.size107r
    have hm := (q1.block _ (lt_of_heap HM1.out) (fun e => e.elim HFQ.out (fun e => by have := HQL.out; omega))).trans HM1.out
    match j, hj with
    | 0, hj => simp at hj; subst hj; simp [World.cell?, hm, Lg.cells]
    | 1, hj => simp at hj; subst hj; simp [World.cell?, hm, Lg.cells]
    | 2, hj => simp at hj; subst hj; simp [World.cell?, hm, Lg.cells]
    | 3, hj => simp at hj; subst hj; simp [World.cell?, hm, Lg.cells]
    | j + 4, hj => simp at hj
  simp only [Act.put, List.setIfInBounds_toArray, List.set]
  refine wpG_takeT (i := 8) (v := .int .i64 place) rfl (fun L hc h => (hc.waits (n := 14) (i := 12) (by kernel_rfl) (hc.waits (n := 12) (i := 10) (by kernel_rfl) (hc.waits (n := 10) (i := 9) (by kernel_rfl) (hc.waits (n := 9) (i := 8) (by kernel_rfl) h))))) (by kernel_rfl) (fun _ _ _ h => h) hA (.inl ⟨rfl, fun w5 q1 => ?_⟩) ?_
  · go_simp
  simp only [Act.put, List.setIfInBounds_toArray, List.set]
  refine wpG_doIf (i := 9) rfl (by kernel_rfl) rfl (fun K hK => ?_)
  have HKK := Lib.hid hK
  clear hK
  go_step
  refine (HAT.out _).mono ?_
  rintro e w2 ⟨rfl, hu2⟩
  have hA2 : Upd (fun k => F k ∨ k = w.heap.size) w1 w2 := hA.trans (hu2.mono (fun _ _ e => e.elim))
  have HU2 := Lib.hid (((Upd.refl (fun _ => False) w1).drew).trans hu2)
  clear hA hu2
  simp only []
  refine HKK.out _ _ hA2 ?_
  clear HKK
  simp only [List.setIfInBounds_toArray, List.set]
  refine wpG_doIf (i := 10) rfl (by kernel_rfl) rfl (fun K hK => ?_)
  have HKK := Lib.hid hK
  clear hK
  go_step
  refine (read_any i w2 (HD.out.kept HU2.out (fun _ _ e => e)) HOK.out).mono ?_
  rintro e w3 ⟨rfl, hd3, hu3⟩
  have hA : Upd (fun k => F k ∨ k = w.heap.size) w1 w3 := hA2.trans (hu3.mono (fun _ _ e => .inl e))
  have hb3 : w3.heap[w.heap.size]? = some (.cells (bcells zblk).toArray 48 (0, 0)) := (hu3.block _ (lt_of_heap ((HU2.out.block _ (lt_of_heap HB1.out) (fun e => e)).trans HB1.out)) HFW.out).trans ((HU2.out.block _ (lt_of_heap HB1.out) (fun e => e)).trans HB1.out)
  have HD3 := Lib.hid hd3; have HU3 := Lib.hid (HU2.out.mono (F := fun _ => False) (G := F) (fun _ _ e => e.elim) |>.trans hu3); have HB3 := Lib.hid hb3
  clear hA2 hd3 hu3 hb3
  generalize hrv : bcells (D.reads i) = rv at *
  have HRV := Lib.hid hrv
  clear hrv
  simp only []
  refine HKK.out _ _ hA ?_
  clear HKK
  simp only [List.setIfInBounds_toArray, List.set]
  refine wpG_takeT (i := 11) (v := .agg rv.toArray) rfl (fun L hc h => (hc.waits (n := 14) (i := 13) (by kernel_rfl) (hc.waits (n := 13) (i := 11) (by kernel_rfl) h))) (by kernel_rfl) (fun _ _ _ h => h) hA (.inl ⟨rfl, fun w5 q1 => ?_⟩) ?_
  · go_simp
  simp only [Act.put, List.setIfInBounds_toArray, List.set]
  refine wpG_takeT (i := 12) (v := .int .i64 (D.callE i false)) rfl (fun L hc h => (hc.waits (n := 14) (i := 12) (by kernel_rfl) h)) (by kernel_rfl) (fun _ _ _ h => h) hA (.inl ⟨rfl, fun w5 q1 => ?_⟩) ?_
  · go_simp
  simp only [Act.put, List.setIfInBounds_toArray, List.set]
  refine wpG_do (i := 13) rfl (by kernel_rfl) rfl (fun K hK => ?_)
  refine wp_store_mid 48 (.tmp 3) (.tmp 16) rfl w.heap.size 0 rv.toArray rfl rfl (by have q := there_block HB3.out; rw [HZ.out] at q; rw [HRS.out]; exact q) HIR.out HR1.out ?_
  have hAv := Upd.setCells (b := w.heap.size) (F := fun k => F k ∨ k = w.heap.size) (.inr rfl) rv 0 hA
  have hAw := Upd.setCells (b := w.heap.size) (F := fun k => k = w.heap.size) rfl rv 0 (Upd.refl _ w3)
  have hAc := heap_setCells_whole (vs := rv) HB3.out (by rw [HZ.out, HRL.out])
  have HAW := Lib.hid hAw; have HAC := Lib.hid hAc
  clear hAw hAc
  refine hK _ _ hAv ?_
  clear hK hAv hA
  simp only [Act.put, List.setIfInBounds_toArray, List.set]
  refine wpG_tail_lit (k := 14) rfl rfl (by kernel_rfl) ?_
  simp only [List.drop]
  go_wp2
  have hl3 := run_loadVar_mid (P := Tryz.prog) _ w.heap.size 0 48 rv _ (rangeAt_block HAC.out) Tryz.underlying48 rfl HIL.out
  refine bodyPost_ret (results_cell_tmp Tryz.results171 rfl hl3) rfl ⟨by rw [HRV.out]; rfl, HD3.out.kept HAW.out (fun k hk e => by have := HFL.out k hk; omega), (HU1.out.mono (F := fun _ => False) (G := F) (fun _ _ e => e.elim) |>.trans HU3.out).step HAW.out (fun k hk e => by omega)⟩

end Go.Proofs.YtbimkhdiplnbfaaGreat
end

section
namespace Go.Proofs.YtbimkhdiplnbfaaGreat
set_option maxRecDepth 100000
open Go.RowKit Go.Shelf

/-- What comes of whole. -/
def WholeAns (w : World) (p : Nat) (F : Nat → Prop) (R : Option (List Int) × Int × Dk) (e : Ending) (w' : World) : Prop :=
  Dsk w' p R.2.2 F ∧ Upd F w w' ∧ match R.1 with
  | none => e = .returned (.tuple #[.slice none 0 0, .bool false, .int .i64 R.2.1])
  | some b => ∃ v, e = .returned (.tuple #[v, .bool true, .int .i64 0]) ∧ OwnB w' w.heap.size v b ∧ Bytes b ∧ b.length ≤ 40000

structure WhAt (w : World) (p : Nat) (hd : Hd) (F : Nat → Prop) (D : Dk) (W : World) : Prop where
  dsk : Dsk W p D F
  upd : Upd F w W
  box : W.heap[w.heap.size]? = some (.cells #[.int .i64 hd.turn, .int .i64 hd.area, .int .i64 hd.place, .int .i64 hd.number] 184 (0, 0))

theorem WhAt.kept {w W W' : World} {p : Nat} {hd : Hd} {F G : Nat → Prop} {D : Dk} (h : WhAt w p hd F D W) (hu : Upd G W W') (hG : ∀ k, G k → w.heap.size < k) (hF : ∀ k, F k → k < w.heap.size) : WhAt w p hd F D W' :=
  ⟨h.dsk.kept hu (fun k h1 h2 => by have := hG k h2; have := hF k h1; omega), h.upd.step hu (fun k h1 h2 => by have := hG k h2; omega), (hu.block _ (lt_of_heap h.box) (fun e => by have := hG _ e; omega)).trans h.box⟩

theorem WhAt.read {w W W' : World} {p : Nat} {hd : Hd} {F : Nat → Prop} {D D' : Dk} (h : WhAt w p hd F D W) (hd' : Dsk W' p D' F) (hu : Upd F W W') (hF : ∀ k, F k → k < w.heap.size) : WhAt w p hd F D' W' :=
  ⟨hd', h.upd.step hu (fun k _ h2 => h2), (hu.block _ (lt_of_heap h.box) (fun e => by have := hF _ e; omega)).trans h.box⟩

/-- The part's bytes, as far as they are read. -/
structure BufAt (w W : World) (g n : Nat) (bs : List Int) : Prop where
  len : bs.length = n
  short : n ≤ 40000
  byte : Bytes bs
  blk : W.heap[g]? = some (.cells (bcells bs).toArray 5 (0, 0))
  gt : w.heap.size < g

theorem BufAt.kept {w W W' : World} {g n : Nat} {bs : List Int} {G : Nat → Prop} (h : BufAt w W g n bs) (hu : Upd G W W') (hg : ¬ G g) : BufAt w W' g n bs :=
  ⟨h.len, h.short, h.byte, (hu.block _ (lt_of_heap h.blk) hg).trans h.blk, h.gt⟩

theorem bytes_over {b : List Int} {off : Nat} {src : List Int} (h1 : Bytes b) (h2 : Bytes src) : Bytes (overF b off src) := by
  intro x hx
  unfold overF at hx
  rcases List.mem_append.1 hx with hx | hx
  · exact h1 x (List.mem_of_mem_take hx)
  · rcases List.mem_append.1 hx with hx | hx
    · exact h2 x (List.mem_of_mem_take hx)
    · exact h1 x (List.mem_of_mem_drop hx)

theorem bytes_drop {b : List Int} {o : Nat} (h : Bytes b) : Bytes (b.drop o) := fun x hx => h x (List.mem_of_mem_drop hx)

/-- Where the loop stands at its k-th round. -/
def LoopR (w : World) (R : Option (List Int) × Int × Dk) (hd : Hd) (number place left : Int) (snap : Bool) (kk : Nat) (b turn many : Value) (W : World) (D : Dk) : Prop :=
  (kk = 0 ∧ b = .slice none 0 0 ∧ turn = .int .i64 0 ∧ many = .int .i64 1 ∧ R = wholeD hd number place snap left D) ∨
  (1 ≤ kk ∧ ∃ (t : Int) (n : Nat) (bs : List Int) (g : Nat), b = .slice (some ⟨g, 0, none⟩) n n ∧ turn = .int .i64 t ∧ many = .int .i64 (secsN n) ∧ kk ≤ secsN n ∧ (1 ≤ t ∧ t ≤ 4294967295) ∧ R = goD hd number place t snap (secsN n - kk) kk bs D ∧ BufAt w W g n bs)

theorem LoopR.more {w : World} {R : Option (List Int) × Int × Dk} {hd : Hd} {number place left : Int} {snap : Bool} {kk : Nat} {b turn many : Value} {W : World} {D : Dk} (h : LoopR w R hd number place left snap kk b turn many W D) : ∃ m : Int, many = .int .i64 m ∧ ((kk : Int) < m ∨ ((kk : Int) = m ∧ ∃ bs g n, b = .slice (some ⟨g, 0, none⟩) n n ∧ R = (some bs, 0, D) ∧ BufAt w W g n bs)) ∧ m ≤ 1000 := by
  rcases h with ⟨rfl, _, _, rfl, _⟩ | ⟨_, t, n, bs, g, rfl, rfl, rfl, h3, _, h4, h5⟩
  · exact ⟨1, rfl, .inl (by omega), by omega⟩
  · refine ⟨secsN n, rfl, ?_, by have := h5.short; unfold secsN; omega⟩
    by_cases h6 : kk < secsN n
    · exact .inl (by omega)
    · refine .inr ⟨by omega, bs, g, n, rfl, ?_, h5⟩
      rw [h4, show secsN n - kk = 0 by omega]
      rfl

/-- What is said of a round behind its reading. -/
def Cont (R : Option (List Int) × Int × Dk) (hd : Hd) (number place _left : Int) (snap : Bool) (kk : Nat) (t : Int) (n : Nat) (bs s : List Int) (o : Nat) (D' : Dk) : Prop :=
  (overF bs (48 * kk - 4) (s.drop o)).length = n ∧ (cutF t number snap (overF bs (48 * kk - 4) (s.drop o)) kk = s → R = goD hd number place t snap (secsN n - (kk + 1)) (kk + 1) (overF bs (48 * kk - 4) (s.drop o)) D') ∧
  (cutF t number snap (overF bs (48 * kk - 4) (s.drop o)) kk ≠ s → R = (none, 0, D'))

theorem goD_step {hd : Hd} {number place t : Int} {snap : Bool} {m k : Nat} {b : List Int} {D : Dk} (he : D.callE (atF hd.area (place + k)) false ≠ 0) : goD hd number place t snap (m + 1) k b D = (none, D.callE (atF hd.area (place + k)) false, D.callD (atF hd.area (place + k)) false) := by
  unfold goD; rw [if_neg he]

theorem LoopR.fails {w : World} {R : Option (List Int) × Int × Dk} {hd : Hd} {number place left : Int} {snap : Bool} {kk : Nat} {b turn many : Value} {W : World} {D : Dk} {m : Int} (h : LoopR w R hd number place left snap kk b turn many W D) (hm : many = .int .i64 m) (hk : (kk : Int) < m) (hl : left ≠ 0)
    (he : D.callE (atF hd.area (place + kk)) false ≠ 0) : R = (none, D.callE (atF hd.area (place + kk)) false, D.callD (atF hd.area (place + kk)) false) := by
  rcases h with ⟨rfl, _, _, _, h4⟩ | ⟨_, t, n, bs, g, rfl, rfl, h2, h3, _, h4, h5⟩
  · rw [h4]
    rw [show place + ((0 : Nat) : Int) = place by omega] at he ⊢
    unfold wholeD
    rw [if_neg hl, if_neg he]
  · rw [hm] at h2
    obtain rfl : m = secsN n := by injection h2
    rw [h4, show secsN n - kk = (secsN n - (kk + 1)) + 1 by omega]
    exact goD_step he

theorem LoopR.cont {w : World} {R : Option (List Int) × Int × Dk} {hd : Hd} {number place left : Int} {snap : Bool} {kk : Nat} {b turn many : Value} {W : World} {D : Dk} {m : Int} (h : LoopR w R hd number place left snap kk b turn many W D) (hm : many = .int .i64 m) (hk : (kk : Int) < m) (h1 : 1 ≤ kk)
    (he : D.callE (atF hd.area (place + kk)) false = 0) : ∃ (t : Int) (n : Nat) (bs : List Int) (g : Nat), b = .slice (some ⟨g, 0, none⟩) n n ∧ turn = .int .i64 t ∧ m = secsN n ∧ (1 ≤ t ∧ t ≤ 4294967295) ∧ BufAt w W g n bs ∧ Cont R hd number place left snap kk t n bs (D.reads (atF hd.area (place + kk))) 16 (D.callD (atF hd.area (place + kk)) false) := by
  rcases h with ⟨rfl, _⟩ | ⟨_, t, n, bs, g, rfl, rfl, h2, h3, ht, h4, h5⟩
  · omega
  · rw [hm] at h2
    obtain rfl : m = secsN n := by injection h2
    have hl : (overF bs (48 * kk - 4) ((D.reads (atF hd.area (place + kk))).drop 16)).length = n := by
      rw [overF_length _ _ _ (by have := h5.len; have hk' : kk < secsN n := by omega
                                 unfold secsN at hk'; omega), h5.len]
    refine ⟨t, n, bs, g, rfl, rfl, rfl, ht, h5, hl, fun hc => ?_, fun hc => ?_⟩
    · rw [h4, show secsN n - kk = (secsN n - (kk + 1)) + 1 by omega]
      rw (occs := .pos [1]) [goD]
      rw [if_pos he, if_pos hc]
    · rw [h4, show secsN n - kk = (secsN n - (kk + 1)) + 1 by omega]
      rw (occs := .pos [1]) [goD]
      rw [if_pos he, if_neg hc]

theorem cont_zero {R : Option (List Int) × Int × Dk} {hd : Hd} {number place left : Int} {snap : Bool} {D : Dk} (hR : R = wholeD hd number place snap left D) (hl : left ≠ 0) (he : D.callE (atF hd.area place) false = 0) :
    (¬ Starts hd left (D.reads (atF hd.area place)) → R = (none, 0, D.callD (atF hd.area place) false)) ∧
    (Starts hd left (D.reads (atF hd.area place)) → Cont R hd number place left snap 0 (startT (D.reads (atF hd.area place))) (startN (D.reads (atF hd.area place))).toNat (List.replicate (startN (D.reads (atF hd.area place))).toNat 0) (D.reads (atF hd.area place)) 20 (D.callD (atF hd.area place) false)) := by
  have hu : ∀ s, overF (List.replicate (startN s).toNat 0) (48 * 0 - 4) (s.drop 20) = startB s := fun s => rfl
  refine ⟨fun hs => ?_, fun hs => ⟨by rw [overF_length _ _ _ (by omega)]; simp, fun hc => ?_, fun hc => ?_⟩⟩
  · rw [hR]; unfold wholeD
    rw [if_neg hl, if_pos he, if_neg hs]
  · rw [hu] at hc ⊢
    rw [hR]; unfold wholeD
    rw [if_neg hl, if_pos he, if_pos hs, if_pos hc]
  · rw [hu] at hc
    rw [hR]; unfold wholeD
    rw [if_neg hl, if_pos he, if_pos hs, if_neg hc]

end Go.Proofs.YtbimkhdiplnbfaaGreat
end

section
namespace Go.Proofs.YtbimkhdiplnbfaaGreat
set_option maxRecDepth 100000
open Go.RowKit Go.Shelf

theorem arr56 : Tryz.prog.underlying 48 = some (.array (Tryz.prog.arrayLen 48) (Tryz.prog.elem 48)) := by kernel_rfl
theorem size56e (W : World) : (sizeOf (Tryz.prog.elem 48)).run Tryz.prog W = .ok 1 W := by kernel_rfl
theorem len56 : Tryz.prog.arrayLen 48 = 64 := by kernel_rfl
theorem slice_16 (g : Nat) (W : World) : (Instr.sliceAt 48 (.pointer (some ⟨g, 0, none⟩)) (some (.int .i64 16)) none none).run Tryz.prog W = .ok (.slice (some ⟨g, 16, none⟩) 48 48) W := by
  rw [run_sliceAt_array_l W 48 _ arr56 .i64 16 (by omega) (by rw [len56]; omega), size56e, len56]
  rfl
theorem slice_all (g : Nat) (W : World) : (Instr.sliceAt 48 (.pointer (some ⟨g, 0, none⟩)) none none none).run Tryz.prog W = .ok (.slice (some ⟨g, 0, none⟩) 64 64) W := by
  rw [run_sliceAt_array_all W 48 _ arr56, size56e, len56]
  rfl
theorem slice_own4 (g : Nat) (W : World) : (Instr.slice 39 (.slice (some ⟨g, 16, none⟩) 48 48) (some (.int .i64 4)) none none).run Tryz.prog W = .ok (.slice (some ⟨g, 20, none⟩) 44 44) W := by
  rw [run_slice_l W 39 _ 48 48 elem28 .i64 4 (by omega) (by omega), size28e]
  rfl
theorem slice_from (g n c off : Nat) (h1 : off ≤ n) (_h2 : n ≤ c) (h3 : off = 0 ∨ off < c) (W : World) : (Instr.slice 39 (.slice (some ⟨g, 0, none⟩) n c) (some (.int .i64 off)) none none).run Tryz.prog W = .ok (.slice (some ⟨g, off, none⟩) (n - off) (c - off)) W := by
  rw [run_slice_l W 39 _ n c elem28 .i64 off (by omega) (by omega), size28e]
  simp only [Result.andThen, sliced, Int.toNat_natCast]
  rcases h3 with rfl | h3
  · simp [Addr.add]
  · rw [if_neg (by omega)]
    simp [Addr.add]
    omega

theorem made_bytes (n : Nat) : madeCells #[.int .u8 0] n = (bcells (List.replicate n 0)).toArray := by
  apply Array.ext
  · simp [madeCells, bcells]
  · intro i h1 h2
    simp [madeCells, bcells, Nat.mod_one]

theorem split4 {s : List Int} (h : 4 ≤ s.length) : ∃ a0 a1 a2 a3 r, s = a0 :: a1 :: a2 :: a3 :: r ∧ be s = be4 a0 a1 a2 a3 4 := by
  match s, h with
  | a0 :: a1 :: a2 :: a3 :: r, _ => exact ⟨a0, a1, a2, a3, r, rfl, rfl⟩

theorem bytesIn_arr {W : World} {gs : Nat} {s : List Int} (o : Nat) (hl : s.length = 64) (ho : o ≤ 64) (hb : W.heap[gs]? = some (.cells (bcells s).toArray 48 (0, 0))) : BytesIn W (.slice (some ⟨gs, o, none⟩) (64 - o) (64 - o)) (s.drop o) := by
  refine .inr ⟨⟨gs, o, none⟩, 64 - o, by simp [hl], by simp [hl], by unfold maxLen; omega, fun i u hi => ?_⟩
  rw [Addr.add_mid, cell_of_heap hb]
  have e : bcells (s.drop o) = (bcells s).drop o := by simp [bcells]
  rw [e, List.getElem?_drop] at hi
  rw [List.getElem?_toArray, hi]

theorem splice_over {bs s : List Int} {off o : Nat} (h1 : off ≤ bs.length) : splice (bcells bs) off (bcells ((s.drop o).take (bs.length - off))) = bcells (overF bs off (s.drop o)) := by
  unfold splice overF
  simp only [bcells, List.map_append, List.map_take, List.map_drop]
  congr 2
  apply List.ext_getElem?
  intro j
  rw [List.getElem?_drop, List.getElem?_drop]
  by_cases h : (s.drop o).length ≤ bs.length - off
  · congr 1
    simp at h ⊢
    omega
  · rw [List.getElem?_eq_none, List.getElem?_eq_none]
    · simp at h ⊢; omega
    · simp at h ⊢; omega

theorem wpList_copy_upd {P : Program} {w : World} {ops : Array Oper} {rest : List Oper} {o : Oper} {a : Act} {Q : Exit → Act → World → Prop} (hgd : o.guard = none) (d s : Operand) (dT sT : TypeId)
    (ho : o.op = .call { callee := .builtin .copy, args := #[d, s], argTypes := #[dT, sT] }) (elem : TypeId) (hu : P.underlying dT = some (.slice elem)) (hsz : (P.info? elem).map (·.size) = some 1)
    (dLen dCap sLen sCap : Nat) (g off : Nat) (ad : Addr) (hd : a.eval d = .slice (some ⟨g, off, none⟩) dLen dCap) (hs : a.eval s = .slice (some ad) sLen sCap)
    (cur : List Value) (t : TypeId) (hg : w.heap[g]? = some (.cells cur.toArray t (0, 0))) (cs : List Value) (hn : cs.length = Nat.min sLen dLen)
    (hsrc : ∀ j v, cs[j]? = some v → w.cell? (ad.add j) = some v)
    (hfit : off + cs.length ≤ cur.length) (h1 : ∀ v ∈ cs, v.oneCell' = true)
    (h : ∀ w', w'.heap[g]? = some (.cells (splice cur off cs).toArray t (0, 0)) → Upd (fun k => k = g) w w' → wpList P ops Q rest (a.put o.dst (goInt cs.length)) w') :
    wpList P ops Q (o :: rest) a w := by
  refine wpList_copy_own hgd d s dT sT ho elem hu hsz g off dLen dCap ad sLen sCap hd hs cur.toArray t hg cs hn hsrc (by simpa using hfit) h1 ?_
  refine h _ (show _ = _ by simpa [splice] using setRow_heap w g _ _ t _ hg) ⟨rfl, rfl, rfl, by simp [World.setRow], fun k hk hgk => setRow_other w g k _ hgk⟩

theorem neqV (xs ys : List Int) (hx : xs.length = 64) (hy : ys.length = 64) (W : World) : (binOp .neq 48 (.agg (bcells xs).toArray) (.agg (bcells ys).toArray)).run Tryz.prog W = .ok (.bool (!(xs == ys))) W := neq_bytes W hx hy

theorem own_buf {w W : World} {g n : Nat} {bs : List Int} (h : BufAt w W g n bs) : OwnB W w.heap.size (.slice (some ⟨g, 0, none⟩) n n) bs := by
  obtain ⟨h1, h2, h3, h4, h5⟩ := h
  subst h1
  refine ⟨by simp [bcells], .inr ⟨g, bs.length, (bcells bs).toArray, rfl, by omega, h4, Nat.le_refl _, by unfold maxLen; omega, by simp [bcells], by rw [List.take_of_length_le (by simp [bcells])]⟩⟩

set_option maxRecDepth 100000 in
set_option maxHeartbeats 8000000 in
theorem whole_any {q p bx : Nat} {X : Lg} {G F : Nat → Prop} {D : Dk} {N : Nat} {number place left : Int} {snap : Bool} (w : World) (hlg : Log w q p X G) (hok : X.Ok) (hbx : w.heap[bx]? = some (.cells #[.pointer (some ⟨q, 0, none⟩)] 38 (0, 0))) (hD : Dsk w p D F) (hdok : D.Ok N) (hN : N ≤ 1099511620000)
    (hFG : ∀ k, G k → ¬ F k) (hFb : ¬ F bx) (hp : 0 ≤ place ∧ place ≤ 1000000) (hnum : 0 ≤ number ∧ number ≤ 4294967295) (hl : 0 ≤ left ∧ left ≤ 1000) :
    Calls Tryz.prog 172 #[X.h.val, .int .i64 number, .int .i64 place, .bool snap, .int .i64 left, .func (.func 171) #[] #[.pointer (some ⟨bx, 0, none⟩)]] w fun e w' => WholeAns w p F (wholeD X.h number place snap left D) e w' := by
  have hFL := hD.lt
  have hturn := hok.turn
  have hbxl := lt_of_heap hbx
  obtain ⟨R, hR⟩ : ∃ R, R = wholeD X.h number place snap left D := ⟨_, rfl⟩
  rw [← hR]
  have hu1 : Upd (fun _ => False) w (w.alloc (.cells #[.int .i64 X.h.turn, .int .i64 X.h.area, .int .i64 X.h.place, .int .i64 X.h.number] 184)) := (Upd.refl _ w).alloc _
  have hat1 : WhAt w p X.h F D (w.alloc (.cells #[.int .i64 X.h.turn, .int .i64 X.h.area, .int .i64 X.h.place, .int .i64 X.h.number] 184)) := ⟨hD.kept hu1 (fun _ _ e => e), hu1.mono (fun _ _ e => e.elim), alloc_at rfl⟩
  by_cases hl0 : left = 0
  · subst hl0
    have hR' : R = (none, 0, D) := by rw [hR]; unfold wholeD; rw [if_pos rfl]
    have HR := Lib.hid hR'; have HAT := Lib.hid hat1
    clear hlg hok hbx hD hdok hN hFG hFb hFL hturn hbxl hR hu1 hat1 hR'
    go_enter Tryz.func172, Tryz.ntmps172
    go_upto_region 1 with fail
    refine (?_ : Code.wp _ _ _ _ (w.alloc (.cells #[.int .i64 X.h.turn, .int .i64 X.h.area, .int .i64 X.h.place, .int .i64 X.h.number] 184)))
    go_wp2
    go_ret3
    rw [HR.out]
    exact ⟨HAT.out.dsk, HAT.out.upd, rfl⟩
  · have HGET : RowKit.Hid (∀ W D' pl, WhAt w p X.h F D' W → D'.Ok 1099511627774 → 0 ≤ pl ∧ pl ≤ 1099511627776 → Calls Tryz.prog 171 #[.int .i64 pl, .pointer (some ⟨bx, 0, none⟩)] W fun e w' => e = .returned (.tuple #[.agg (bcells (D'.reads (atF X.h.area pl))).toArray, .int .i64 (D'.callE (atF X.h.area pl) false)]) ∧ WhAt w p X.h F (D'.callD (atF X.h.area pl) false) w' ∧ Upd F W w') := Lib.hid (fun W D' pl hat hdk hpl =>
      (get_any W (hlg.kept hat.upd (fun k hk => hFG k hk)) hok ((hat.upd.block _ hbxl hFb).trans hbx) hat.dsk hdk (fun k hk => hFG k hk) hFb hpl).mono (by
        rintro e w' ⟨rfl, h1, h2⟩
        exact ⟨rfl, hat.read h1 h2 hFL, h2⟩))
    have HR := Lib.hid hR; have HAT := Lib.hid hat1; have HOK := Lib.hid hdok; have HFL := Lib.hid hFL; have HL0 := Lib.hid hl0
    obtain ⟨w1, hw1⟩ : ∃ w1, w1 = w.alloc (.cells #[.int .i64 X.h.turn, .int .i64 X.h.area, .int .i64 X.h.place, .int .i64 X.h.number] 184) := ⟨_, rfl⟩
    rw [← hw1] at HAT
    have hne0 : (left == 0) = false := by simpa using hl0
    clear hlg hok hbx hD hdok hFG hFb hFL hbxl hR hu1 hat1
    go_enter Tryz.func172, Tryz.ntmps172
    go_upto_region 1 with fail
    refine (?_ : Code.wp _ _ _ _ (w.alloc (.cells #[.int .i64 X.h.turn, .int .i64 X.h.area, .int .i64 X.h.place, .int .i64 X.h.number] 184)))
    rw [← hw1]
    clear hw1
    go_upto_region 6 with fail
    go_loopg [15, 16, 17, 18] 1001 (fun gk b turn many kv wr => ∃ (kk : Nat) (Dc : Dk), kk ≤ 1000 ∧ gk = 1001 - kk ∧ kv = .int .i64 kk ∧ Dc.Ok (N + kk) ∧ WhAt w p X.h F Dc wr ∧ LoopR w R X.h number place left snap kk b turn many wr Dc)
    case atStart => exact ⟨0, D, by omega, rfl, rfl, HOK.out, HAT.out, .inl ⟨rfl, rfl, rfl, rfl, HR.out⟩⟩
    case round =>
      obtain ⟨kk, Dc, hkk, rfl, rfl, hdc, hat, hlr⟩ := hrel
      obtain ⟨m, rfl, hmore, hm1⟩ := hlr.more
      have HLR := Lib.hid hlr; have HA := Lib.hid hat; have HDC := Lib.hid hdc
      clear hlr hat hdc HAT HOK HR
      rcases hmore with hlt | ⟨heq, bs, g, n, rfl, hRe, hbuf⟩
      rotate_left
      · have hnl : ¬ (kk : Int) < m := by omega
        have HRE := Lib.hid hRe; have HBUF := Lib.hid hbuf
        clear hRe hbuf heq
        go_wp2
        go_ret3
        rw [HRE.out]
        have hb := HBUF.out
        refine ⟨HA.out.dsk, HA.out.upd, _, rfl, ?_, hb.byte, by rw [hb.len]; exact hb.short⟩
        exact own_buf hb
      · go_wp2_with (go_at_call 171; fail)
        refine (HGET.out _ Dc (place + kk) HA.out (HDC.out.mono (by omega)) (by omega)).mono ?_
        rintro e w3 ⟨rfl, hat3, hu3⟩
        have hsb := reads_blk (HDC.out.mono (show N + kk ≤ 1099511627774 by omega)) (atF X.h.area (place + kk))
        have hcz : kk = 0 → LoopR w R X.h number place left snap 0 u15 u16 (.int .i64 m) wr Dc := fun e => by have := HLR.out; rw [e] at this; exact this
        have hfail := fun he => HLR.out.fails rfl hlt HL0.out he
        have hcont := fun h1 he => HLR.out.cont rfl hlt h1 he
        obtain ⟨s, hs⟩ : ∃ s, s = Dc.reads (atF X.h.area (place + kk)) := ⟨_, rfl⟩
        obtain ⟨E, hE⟩ : ∃ E, E = Dc.callE (atF X.h.area (place + kk)) false := ⟨_, rfl⟩
        obtain ⟨D2, hD2⟩ : ∃ D2, D2 = Dc.callD (atF X.h.area (place + kk)) false := ⟨_, rfl⟩
        have hd2 : D2.Ok (N + (kk + 1)) := by rw [hD2]; exact Dk.Ok.mono (HDC.out.callD _ _) (by omega)
        rw [← hs] at hsb hcont ⊢
        rw [← hE] at hfail hcont ⊢
        rw [← hD2] at hfail hcont hat3
        have hsl := hsb.1
        obtain ⟨f1, f2, f3⟩ := fresh56 w3 s hsl
        have HIS : RowKit.Hid ((Tryz.prog.info? 48).map (·.size) = some (bcells s).length) := Lib.hid (by rw [Tryz.info56p]; simp [bcells, hsl])
        have H1B := Lib.hid (all_oneCell_toArray (bcells_one s))
        have F1 := Lib.hid f1; have HSB := Lib.hid f2; have HU3 := Lib.hid hu3; have HSL := Lib.hid hsb; have HFAIL := Lib.hid hfail; have HCONT := Lib.hid hcont; have HCZ := Lib.hid hcz; have HD2 := Lib.hid hd2
        have HE := Lib.hid hE; have HS := Lib.hid hs; have HDD := Lib.hid hD2
        have HBX3 := Lib.hid hat3.box
        have HU34 := Lib.hid (hu3.trans (f3.mono (fun _ _ e => e.elim)))
        have HA4 := Lib.hid (hat3.kept f3 (fun _ e => e.elim) HFL.out)
        clear f1 f2 f3 hsl hsb hu3 hfail hcont hcz hd2 hE hs hD2 hat3 HLR HDC HA
        simp only []
        iterate 13 go_step
        refine (?_ : wpList _ _ _ _ _ (w3.alloc (.cells (bcells zblk).toArray 48)))
        refine wpList_store_mid rfl 48 (.tmp 19) (.tmp 37) rfl w3.heap.size 0 (bcells s).toArray rfl rfl F1.out (by rw [HIS.out]; simp) H1B.out ?_
        obtain ⟨w4, hw4⟩ : ∃ w4, w4 = (w3.alloc (.cells (bcells zblk).toArray 48)).setCells w3.heap.size 0 (bcells s) := ⟨_, rfl⟩
        rw [← hw4] at HA4 HSB HU34
        rw [show (bcells s).toArray.toList = bcells s from rfl, ← hw4]
        clear hw4 F1 H1B
        obtain ⟨gs, hgs⟩ : ∃ gs, gs = w3.heap.size := ⟨_, rfl⟩
        rw [← hgs] at HSB ⊢
        have hgw : w.heap.size < gs := by rw [hgs]; exact Nat.lt_of_lt_of_le (lt_of_heap HBX3.out) (Nat.le_refl _)
        have HGR : RowKit.Hid (wr.heap.size ≤ gs) := Lib.hid (by rw [hgs]; exact HU3.out.size)
        clear hgs
        by_cases hE0 : E = 0
        rotate_left
        · have hEb : (E != 0) = true := by simpa using hE0
          have HRE := Lib.hid (HFAIL.out (by simpa using hE0))
          clear hE0
          go_wp2
          go_ret3
          rw [HRE.out]
          exact ⟨HA4.out.dsk, HA4.out.upd, rfl⟩
        · subst hE0
          have h16 := slice_16 gs
          go_upto_if 44 with fail
          go_cut [15, 16, 17, 21, 22, 23] from 26 to 94 (fun b turn many own _ _ wx => ∃ (t : Int) (n : Nat) (bs : List Int) (g o ml : Nat), b = .slice (some ⟨g, 0, none⟩) n n ∧ turn = .int .i64 t ∧ many = .int .i64 (secsN n) ∧ own = .slice (some ⟨gs, o, none⟩) ml ml ∧ (o + ml = 64 ∧ o ≤ 20) ∧ (1 ≤ t ∧ t ≤ 4294967295) ∧ kk < secsN n ∧ BufAt w wx g n bs ∧ g ≠ gs ∧ wx.heap[gs]? = some (.cells (bcells s).toArray 48 (0, 0)) ∧ WhAt w p X.h F D2 wx ∧ Cont R X.h number place left snap kk t n bs s o D2)
          case first =>
            rcases Nat.eq_zero_or_pos kk with hk0 | hk1
            · subst hk0
              rcases HCZ.out rfl with ⟨_, rfl, rfl, hm1', hRw⟩ | ⟨hx, _⟩
              rotate_left
              · omega
              obtain rfl : m = 1 := by injection hm1'
              have e0 : place + ((0 : Nat) : Int) = place := by omega
              have hE' : Dc.callE (atF X.h.area place) false = 0 := by have := HE.out; rw [e0] at this; exact this.symm
              have hS' : Dc.reads (atF X.h.area place) = s := by have := HS.out; rw [e0] at this; exact this.symm
              have hD' : Dc.callD (atF X.h.area place) false = D2 := by have := HDD.out; rw [e0] at this; exact this.symm
              obtain ⟨hno, hyes⟩ := cont_zero hRw HL0.out hE'
              rw [hS', hD'] at hno hyes
              have hsl := HSL.out.1
              obtain ⟨a0, a1, a2, a3, r0, hs4, hbe⟩ := split4 (s := s) (by omega)
              obtain ⟨n0, n1, n2, n3, r1, hn4, hbn⟩ := split4 (s := s.drop 16) (by simp; omega)
              have hBs : Bytes s := HSL.out.2
              have hB0 : Bytes [a0, a1, a2, a3] := fun x hx => hBs x (by rw [hs4]; simp at hx; rcases hx with rfl | rfl | rfl | rfl <;> simp)
              have hB1 : Bytes [n0, n1, n2, n3] := fun x hx => hBs x (List.mem_of_mem_drop (i := 16) (by rw [hn4]; simp at hx; rcases hx with rfl | rfl | rfl | rfl <;> simp))
              have hTb := be4_bound hB0; have hZb := be4_bound hB1
              have hK0 : ∀ W rr, Rd W rr s → Calls Tryz.prog 193 #[.pointer (some ⟨rr, 0, none⟩)] W fun e w' => e = .returned (.int .u32 (startT s)) ∧ Upd (fun k => k = rr) W w' := fun W rr hr => by
                rw [show startT s = be4 a0 a1 a2 a3 4 from hbe]
                refine (u32_any W (by rw [hs4] at hr; exact hr) hB0).mono ?_
                rintro e w' ⟨rfl, _, h2⟩
                exact ⟨rfl, h2⟩
              have hK1 : ∀ W rr, Rd W rr (s.drop 16) → Calls Tryz.prog 193 #[.pointer (some ⟨rr, 0, none⟩)] W fun e w' => e = .returned (.int .u32 (startN s)) ∧ Upd (fun k => k = rr) W w' := fun W rr hr => by
                rw [show startN s = be4 n0 n1 n2 n3 4 from hbn]
                refine (u32_any W (by rw [hn4] at hr; exact hr) hB1).mono ?_
                rintro e w' ⟨rfl, _, h2⟩
                exact ⟨rfl, h2⟩
              rw [← show startT s = be4 a0 a1 a2 a3 4 from hbe] at hTb
              rw [← show startN s = be4 n0 n1 n2 n3 4 from hbn] at hZb
              unfold Starts at hno hyes
              have hin0 : BytesIn w4 (.slice (some ⟨gs, 0, none⟩) 64 64) s := by simpa using bytesIn_arr 0 hsl (by omega) HSB.out
              have hin1 : BytesIn w4 (.slice (some ⟨gs, 16, none⟩) 48 48) (s.drop 16) := bytesIn_arr 16 hsl (by omega) HSB.out
              obtain ⟨T, hT⟩ : ∃ T, T = startT s := ⟨_, rfl⟩
              rw [← hT] at hno hyes hK0 hTb
              obtain ⟨Zn, hZ⟩ := Int.eq_ofNat_of_zero_le hZb.1
              rw [hZ] at hno hyes hK1 hZb
              simp only [Int.toNat_natCast] at hno hyes
              have hne1 : s.drop 16 ≠ [] := by intro e; have := congrArg List.length e; simp at this; omega
              have hne0' : s ≠ [] := by rintro rfl; simp at hsl
              have v0 : IntKind.i64.wrap T = T := by rw [IntKind.wrap_i64]; omega
              have v1 : IntKind.i64.wrap (Zn : Int) = Zn := by rw [IntKind.wrap_i64]; omega
              have hall := slice_all gs
              have HNO := Lib.hid hno; have HYES := Lib.hid hyes; have HK0 := Lib.hid hK0; have HK1 := Lib.hid hK1; have HIN0 := Lib.hid hin0; have HIN1 := Lib.hid hin1; have HNE1 := Lib.hid hne1; have HNE0 := Lib.hid hne0'; have HSN := Lib.hid hsl
              clear hno hyes hK0 hK1 hin0 hin1 hne1 hne0' hsl hs4 hn4 hbe hbn hB0 hB1 hBs hT hZ hE' hS' hD' hRw e0 hm1' HCZ HCONT HFAIL HS HE HDD
              go_wp2_with (go_at_call 88; fail)
              refine (oread_any w4 HIN0.out HNE0.out (by have := HSN.out; omega)).mono ?_
              rintro e w5 ⟨rfl, hr5, hu5⟩
              have HR5 := Lib.hid hr5; have HU5 := Lib.hid hu5
              clear hr5 hu5 hall
              simp only []
              go_wp2_with (go_at_call 193; fail)
              refine (HK0.out _ _ HR5.out).mono ?_
              rintro e w6 ⟨rfl, hu6⟩
              have HU6 : RowKit.Hid (Upd (fun _ => False) w4 w6) := Lib.hid (HU5.out.step hu6 (fun k hk e => by omega))
              clear hu6 HR5 HU5
              simp only []
              go_wp2_with (go_at_call 88; fail)
              refine (oread_any w6 (HIN1.out.kept HU6.out) HNE1.out (by have := HSN.out; simp; omega)).mono ?_
              rintro e w7 ⟨rfl, hr7, hu7⟩
              have HR7 := Lib.hid hr7; have HU7 := Lib.hid hu7
              clear hr7 hu7
              simp only []
              go_wp2_with (go_at_call 193; fail)
              refine (HK1.out _ _ HR7.out).mono ?_
              rintro e w8 ⟨rfl, hu8⟩
              have HU8 : RowKit.Hid (Upd (fun _ => False) w4 w8) := Lib.hid ((HU6.out.trans HU7.out).step hu8 (fun k hk e => by have := HU6.out.size; omega))
              have HA8 := Lib.hid (HA4.out.kept HU8.out (fun _ e => e.elim) HFL.out)
              have HSB8 := Lib.hid ((HU8.out.block _ (lt_of_heap HSB.out) (fun e => e)).trans HSB.out)
              clear hu8 HR7 HU7 HU6 HK0 HK1 HIN0 HIN1 HNE0 HNE1 HSB HA4
              simp only []
              have cc : w8.cell? ⟨w.heap.size, 0, none⟩ = some (.int .i64 X.h.turn) := by simp [World.cell?, HA8.out.box]
              go_upto_region 16 with fail
              by_cases h1 : T < 1
              · have HRE := Lib.hid (HNO.out (fun q => by omega))
                go_wp2
                go_ret3
                rw [HRE.out]
                exact ⟨HA8.out.dsk, HA8.out.upd, rfl⟩
              · by_cases h2 : T > X.h.turn
                · have HRE := Lib.hid (HNO.out (fun q => by omega))
                  go_wp2
                  go_ret3
                  rw [HRE.out]
                  exact ⟨HA8.out.dsk, HA8.out.upd, rfl⟩
                · by_cases h3 : (Zn : Int) > 40000
                  · have HRE := Lib.hid (HNO.out (fun q => by omega))
                    go_wp2
                    go_ret3
                    rw [HRE.out]
                    exact ⟨HA8.out.dsk, HA8.out.upd, rfl⟩
                  · have HSEC := Lib.hid (secsI_nat (n := Zn) (by omega))
                    by_cases h4 : (secsN Zn : Int) > left
                    · have HRE := Lib.hid (HNO.out (fun q => by omega))
                      go_wp2_with (go_at_call 113; refine (sectors_any _ _).mono ?_; rintro e w9 ⟨rfl, rfl⟩; rw [HSEC.out])
                      go_ret3
                      rw [HRE.out]
                      exact ⟨HA8.out.dsk, HA8.out.upd, rfl⟩
                    · have HYE := Lib.hid (HYES.out ⟨by omega, by omega, by omega, by omega⟩)
                      clear HYES HNO
                      have HYES := HYE
                      clear HYE
                      have HSP : RowKit.Hid (0 < secsN Zn) := Lib.hid (by have := secsN_pos Zn; omega)
                      have hu8s : w.heap.size < w8.heap.size := lt_of_heap HA8.out.box
                      have hg8 : gs < w8.heap.size := lt_of_heap HSB8.out
                      have hT1 : 1 ≤ T ∧ T ≤ 4294967295 := by omega
                      have hZ4 : Zn ≤ 40000 := by omega
                      have hmk : ∀ W, (Instr.makeSlice 39 (.int .u32 (Zn : Int)) (.int .u32 (Zn : Int))).run Tryz.prog W = .ok (.slice (some ⟨W.heap.size, 0, none⟩) Zn Zn) (W.alloc (.cells (madeCells #[.int .u8 0] Zn) 5)) := fun W => run_make_row' (P := Tryz.prog) 39 5 (.int .u8 0) 1 Tryz.underlying39 Tryz.info5p rfl .u32 .u32 Zn (by omega) (by omega) W
                      have h20 := slice_own4 gs
                      have hA : Upd (fun _ => False) w8 w8.drew := (Upd.refl _ w8).drew
                      go_wp2_with (first | (go_at_call 113; refine (sectors_any _ _).mono ?_; rintro e w9 ⟨rfl, rfl⟩; rw [HSEC.out]))
                      refine wp_region_G 9 (fun W => Upd (fun _ => False) w8 W) [false, false, false, false, false, false, false, false, false, false] rfl (by kernel_rfl) ?_
                      refine wpG_takeT (i := 0) (v := .int .u32 Zn) rfl (fun L hc h => (hc.waits (n := 9) (i := 8) (by kernel_rfl) (hc.waits (n := 8) (i := 7) (by kernel_rfl) (hc.waits (n := 7) (i := 1) (by kernel_rfl) (hc.waits (n := 1) (i := 0) (by kernel_rfl) h))))) (by kernel_rfl) (fun _ _ _ h => h) hA (.inl ⟨rfl, fun w5 q1 => ?_⟩) ?_
                      · go_simp
                      simp only [Act.put, List.setIfInBounds_toArray, List.set]
                      refine wpG_takeT (i := 2) (v := .int .u32 Zn) rfl (fun L hc h => (hc.waits (n := 9) (i := 8) (by kernel_rfl) (hc.waits (n := 8) (i := 4) (by kernel_rfl) (hc.waits (n := 4) (i := 3) (by kernel_rfl) (hc.waits (n := 3) (i := 2) (by kernel_rfl) h))))) (by kernel_rfl) (fun _ _ _ h => h) hA (.inl ⟨rfl, fun w5 q1 => ?_⟩) ?_
                      · go_simp
                      simp only [Act.put, List.setIfInBounds_toArray, List.set]
                      refine wpG_takeT (i := 3) (v := .int .i64 Zn) rfl (fun L hc h => (hc.waits (n := 9) (i := 8) (by kernel_rfl) (hc.waits (n := 8) (i := 4) (by kernel_rfl) (hc.waits (n := 4) (i := 3) (by kernel_rfl) h)))) (by kernel_rfl) (fun _ _ _ h => h) hA (.inl ⟨rfl, fun w5 q1 => ?_⟩) ?_
                      · go_simp
                      simp only [Act.put, List.setIfInBounds_toArray, List.set]
                      refine wpG_takeT (i := 5) (v := .slice (some ⟨gs, 16, none⟩) 48 48) rfl (fun L hc h => (hc.waits (n := 9) (i := 6) (by kernel_rfl) (hc.waits (n := 6) (i := 5) (by kernel_rfl) h))) (by kernel_rfl) (fun _ _ _ h => h) hA (.inl ⟨rfl, fun w5 q1 => ?_⟩) ?_
                      · go_simp
                      simp only [Act.put, List.setIfInBounds_toArray, List.set]
                      refine wpG_takeT (i := 6) (v := .slice (some ⟨gs, 20, none⟩) 44 44) rfl (fun L hc h => (hc.waits (n := 9) (i := 6) (by kernel_rfl) h)) (by kernel_rfl) (fun _ _ _ h => h) hA (.inl ⟨rfl, fun w5 q1 => ?_⟩) ?_
                      · go_simp
                      simp only [Act.put, List.setIfInBounds_toArray, List.set]
                      refine wpG_do2 (i := 1) (j := 4) rfl rfl (by kernel_rfl) rfl rfl (fun K hK => ?_) (fun K hK => ?_)
                      · have HKK := Lib.hid hK
                        clear hK
                        go_step
                        have hA9 : Upd (fun _ => False) w8 (w8.drew.alloc (.cells (madeCells #[.int .u8 0] Zn) 5)) := hA.alloc _
                        refine HKK.out _ _ hA9 ?_
                        clear HKK
                        simp only [List.setIfInBounds_toArray, List.set]
                        refine wpG_do (i := 4) rfl (by kernel_rfl) rfl (fun K hK => ?_)
                        have HKK := Lib.hid hK
                        clear hK
                        go_step
                        refine (sectors_any _ _).mono ?_
                        rintro e wz ⟨rfl, rfl⟩
                        rw [HSEC.out]
                        simp only []
                        refine HKK.out _ _ hA9 ?_
                        clear HKK
                        simp only [List.setIfInBounds_toArray, List.set]
                        refine wpG_do (i := 7) rfl (by kernel_rfl) rfl (fun K hK => ?_)
                        have HKK := Lib.hid hK
                        clear hK
                        go_step
                        refine HKK.out _ _ hA9 ?_
                        clear HKK
                        simp only [List.setIfInBounds_toArray, List.set]
                        refine wpG_do (i := 8) rfl (by kernel_rfl) rfl (fun K hK => ?_)
                        have HKK := Lib.hid hK
                        clear hK
                        go_step
                        refine HKK.out _ _ hA9 ?_
                        clear HKK
                        simp only [List.setIfInBounds_toArray, List.set]
                        refine wpG_tail_lit (k := 9) rfl rfl (by kernel_rfl) ?_
                        simp only [List.drop]
                        have HB9 : RowKit.Hid ((w8.drew.alloc (.cells (madeCells #[.int .u8 0] Zn) 5)).heap[w8.heap.size]? = some (.cells (bcells (List.replicate Zn 0)).toArray 5 (0, 0))) := Lib.hid (by rw [← made_bytes]; exact alloc_at rfl)
                        go_wp2
                        go_meet
                        case rel =>
                          have hu9 := hA9
                          exact ⟨T, Zn, List.replicate Zn 0, _, 20, 44, rfl, rfl, rfl, rfl, ⟨rfl, by omega⟩, hT1, HSP.out, ⟨by simp, hZ4, Bytes.zeros _, HB9.out, by have := hu8s; omega⟩, by have := hg8; omega, (hu9.block _ (lt_of_heap HSB8.out) (fun e => e)).trans HSB8.out, HA8.out.kept hu9 (fun _ e => e.elim) HFL.out, HYES.out⟩
                      · have HKK := Lib.hid hK
                        clear hK
                        go_step
                        refine (sectors_any _ _).mono ?_
                        rintro e wz ⟨rfl, rfl⟩
                        rw [HSEC.out]
                        simp only []
                        refine HKK.out _ _ hA ?_
                        clear HKK
                        simp only [List.setIfInBounds_toArray, List.set]
                        refine wpG_do (i := 1) rfl (by kernel_rfl) rfl (fun K hK => ?_)
                        have HKK := Lib.hid hK
                        clear hK
                        go_step
                        have hA9 : Upd (fun _ => False) w8 (w8.drew.alloc (.cells (madeCells #[.int .u8 0] Zn) 5)) := hA.alloc _
                        refine HKK.out _ _ hA9 ?_
                        clear HKK
                        simp only [List.setIfInBounds_toArray, List.set]
                        refine wpG_do (i := 7) rfl (by kernel_rfl) rfl (fun K hK => ?_)
                        have HKK := Lib.hid hK
                        clear hK
                        go_step
                        refine HKK.out _ _ hA9 ?_
                        clear HKK
                        simp only [List.setIfInBounds_toArray, List.set]
                        refine wpG_do (i := 8) rfl (by kernel_rfl) rfl (fun K hK => ?_)
                        have HKK := Lib.hid hK
                        clear hK
                        go_step
                        refine HKK.out _ _ hA9 ?_
                        clear HKK
                        simp only [List.setIfInBounds_toArray, List.set]
                        refine wpG_tail_lit (k := 9) rfl rfl (by kernel_rfl) ?_
                        simp only [List.drop]
                        have HB9 : RowKit.Hid ((w8.drew.alloc (.cells (madeCells #[.int .u8 0] Zn) 5)).heap[w8.heap.size]? = some (.cells (bcells (List.replicate Zn 0)).toArray 5 (0, 0))) := Lib.hid (by rw [← made_bytes]; exact alloc_at rfl)
                        go_wp2
                        go_meet
                        case rel =>
                          have hu9 := hA9
                          exact ⟨T, Zn, List.replicate Zn 0, _, 20, 44, rfl, rfl, rfl, rfl, ⟨rfl, by omega⟩, hT1, HSP.out, ⟨by simp, hZ4, Bytes.zeros _, HB9.out, by have := hu8s; omega⟩, by have := hg8; omega, (hu9.block _ (lt_of_heap HSB8.out) (fun e => e)).trans HSB8.out, HA8.out.kept hu9 (fun _ e => e.elim) HFL.out, HYES.out⟩
            · have hkb : ((kk : Int) == 0) = false := by simp; omega
              obtain ⟨t, n, bs, g, rfl, rfl, hmn, ht, hbuf, hc⟩ := HCONT.out hk1 rfl
              have hgg : g ≠ gs := by have := lt_of_heap hbuf.blk; have := HGR.out; omega
              have HMN := Lib.hid hmn; have HBUF := Lib.hid hbuf; have HC := Lib.hid hc
              clear hmn hbuf hc
              go_wp2
              go_meet
              case rel => exact ⟨t, n, bs, g, 16, 48, rfl, rfl, by rw [HMN.out], rfl, ⟨rfl, by omega⟩, ht, by have := HMN.out; omega, HBUF.out.kept HU34.out (fun e => by have := HFL.out _ e; have := HBUF.out.gt; omega), hgg, HSB.out, HA4.out, HC.out⟩
          case rest =>
            obtain ⟨t, n, bs, g, o, ml, rfl, rfl, rfl, rfl, ⟨homl, ho20⟩, ht, hks, hbuf, hgg, hsb, hatx, hc⟩ := hcut
            have HBUF := Lib.hid hbuf; have HSBX := Lib.hid hsb; have HAX := Lib.hid hatx; have HC := Lib.hid hc; have HGG := Lib.hid hgg
            have hn4 : n ≤ 40000 := hbuf.short
            have hofn : 48 * kk - 4 ≤ n := by unfold secsN at hks; omega
            have hof3 : 48 * kk - 4 = 0 ∨ 48 * kk - 4 < n := by unfold secsN at hks; omega
            clear hbuf hsb hatx hc hgg HBX3 HCZ HCONT HFAIL HS HE HDD HSB HA4 HU34 HU3 h16
            obtain ⟨off, hoff⟩ : ∃ off, off = 48 * kk - 4 := ⟨_, rfl⟩
            rw [← hoff] at hofn hof3
            have HOFF := Lib.hid hoff
            have hlen48 : ((s.drop o).take (n - off)).length = Nat.min ml (n - off) := by have := HSL.out.1; simp only [List.length_take, List.length_drop]; rw [show s.length - o = ml by omega]; exact Nat.min_comm _ _
            have hcs : ∀ j v, (bcells ((s.drop o).take (n - off)))[j]? = some v → wc.cell? ((⟨gs, o, none⟩ : Addr).add j) = some v := by
              intro j v hj
              rw [Addr.add_mid, cell_of_heap HSBX.out, List.getElem?_toArray]
              have e : bcells ((s.drop o).take (n - off)) = ((bcells s).drop o).take (n - off) := by simp [bcells]
              rw [e] at hj
              have hj2 : j < n - off := by
                have := (List.getElem?_eq_some_iff.1 hj).1
                simp only [List.length_take] at this
                omega
              rw [List.getElem?_take_of_lt hj2, List.getElem?_drop] at hj
              exact hj
            have hfit : off + (bcells ((s.drop o).take (n - off))).length ≤ (bcells bs).length := by
              rw [bcells_length, bcells_length, hlen48, HBUF.out.len]
              have h5 : Nat.min ml (n - off) ≤ n - off := Nat.min_le_right ml (n - off)
              show off + Nat.min ml (n - off) ≤ n
              omega
            have hone : ∀ v ∈ bcells ((s.drop o).take (n - off)), v.oneCell' = true := bcells_one _
            obtain ⟨cs, hcs0⟩ : ∃ cs, cs = bcells ((s.drop o).take (n - off)) := ⟨_, rfl⟩
            have hsp : splice (bcells bs) off cs = bcells (overF bs off (s.drop o)) := by
              rw [hcs0, ← HBUF.out.len]; exact splice_over (by rw [HBUF.out.len]; exact hofn)
            have hcl : cs.length = Nat.min ml (n - off) := by rw [hcs0, bcells_length]; exact hlen48
            rw [← hcs0] at hcs hfit hone
            have HCS := Lib.hid hcs; have HFIT := Lib.hid hfit; have HONE := Lib.hid hone; have HSPL := Lib.hid hsp; have HCL := Lib.hid hcl
            clear hcs hfit hone hsp hcl hcs0 hlen48 hoff
            have hsf := slice_from g n n off hofn (Nat.le_refl _) hof3
            iterate 18 go_step
            rw [show max (48 * (kk : Int) - 4) 0 = (off : Int) by rw [HOFF.out]; omega]
            iterate 6 go_step
            refine wpList_copy_upd rfl (.tmp 84) (.tmp 85) 39 39 rfl 5 Tryz.underlying39 (by kernel_rfl) (n - off) (n - off) ml ml g off ⟨gs, o, none⟩ rfl rfl (bcells bs) 5 HBUF.out.blk cs HCL.out HCS.out HFIT.out HONE.out ?_
            intro wd hwd hud
            rw [HSPL.out] at hwd
            have hnb : Bytes (overF bs off (s.drop o)) := bytes_over HBUF.out.byte (bytes_drop HSL.out.2)
            have hc := HC.out
            unfold Cont at hc
            rw [← HOFF.out] at hc
            obtain ⟨nb, hnb0⟩ : ∃ nb, nb = overF bs off (s.drop o) := ⟨_, rfl⟩
            rw [← hnb0] at hc hnb hwd
            obtain ⟨hc0, hc1, hc2⟩ := hc
            have hbd : BufAt w wd g n nb := ⟨hc0, hn4, hnb, hwd, HBUF.out.gt⟩
            have HBD := Lib.hid hbd; have HC1 := Lib.hid hc1; have HC2 := Lib.hid hc2
            have HSBD := Lib.hid ((hud.block _ (lt_of_heap HSBX.out) (fun e => HGG.out e.symm)).trans HSBX.out)
            have HAD := Lib.hid (HAX.out.kept hud (fun k e => by rw [e]; exact HBUF.out.gt) HFL.out)
            have hbi : BytesIn wd (.slice (some ⟨g, 0, none⟩) n n) nb := (own_buf hbd).bytesIn
            have HBI := Lib.hid hbi
            have HSP2 : RowKit.Hid ((Nat.min ml (n - off)) = cs.length) := Lib.hid HCL.out.symm
            have hnl : kk < secsN nb.length := by rw [hc0]; exact hks
            have hnl4 : nb.length ≤ 40000 := by rw [hc0]; exact hn4
            have HNL := Lib.hid hnl
            clear hwd hud hnb hnb0 hc0 hc1 hc2 hbd hbi hnl HBUF HSBX HAX HC HCS HFIT HONE HSPL hsf HGG HCL
            go_upto_region 20 with fail
            have hA : Upd (fun _ => False) wd wd.drew := (Upd.refl _ wd).drew
            refine wp_region_G 7 (fun W => Upd (fun _ => False) wd W) [false, false, false, false, false, false, false, false] rfl (by kernel_rfl) ?_
            refine wpG_takeT (i := 0) (v := .int .i64 t) rfl (fun L hc h => (hc.waits (n := 7) (i := 5) (by kernel_rfl) (hc.waits (n := 5) (i := 0) (by kernel_rfl) h))) (by kernel_rfl) (fun _ _ _ h => h) hA (.inl ⟨rfl, fun w5 q1 => ?_⟩) ?_
            · go_simp
            simp only [Act.put, List.setIfInBounds_toArray, List.set]
            refine wpG_takeT (i := 1) (v := .int .i64 number) rfl (fun L hc h => (hc.waits (n := 7) (i := 5) (by kernel_rfl) (hc.waits (n := 5) (i := 1) (by kernel_rfl) h))) (by kernel_rfl) (fun _ _ _ h => h) hA (.inl ⟨rfl, fun w5 q1 => ?_⟩) ?_
            · go_simp
            simp only [Act.put, List.setIfInBounds_toArray, List.set]
            refine wpG_takeT (i := 2) (v := .bool snap) rfl (fun L hc h => (hc.waits (n := 7) (i := 5) (by kernel_rfl) (hc.waits (n := 5) (i := 2) (by kernel_rfl) h))) (by kernel_rfl) (fun _ _ _ h => h) hA (.inl ⟨rfl, fun w5 q1 => ?_⟩) ?_
            · go_simp
            simp only [Act.put, List.setIfInBounds_toArray, List.set]
            refine wpG_takeT (i := 3) (v := .slice (some ⟨g, 0, none⟩) n n) rfl (fun L hc h => (hc.waits (n := 7) (i := 5) (by kernel_rfl) (hc.waits (n := 5) (i := 3) (by kernel_rfl) h))) (by kernel_rfl) (fun _ _ _ h => h) hA (.inl ⟨rfl, fun w5 q1 => ?_⟩) ?_
            · go_simp
            simp only [Act.put, List.setIfInBounds_toArray, List.set]
            refine wpG_takeT (i := 4) (v := .int .i64 kk) rfl (fun L hc h => (hc.waits (n := 7) (i := 5) (by kernel_rfl) (hc.waits (n := 5) (i := 4) (by kernel_rfl) h))) (by kernel_rfl) (fun _ _ _ h => h) hA (.inl ⟨rfl, fun w5 q1 => ?_⟩) ?_
            · go_simp
            simp only [Act.put, List.setIfInBounds_toArray, List.set]
            refine wpG_takeT (i := 6) (v := .agg (bcells s).toArray) rfl (fun L hc h => (hc.waits (n := 7) (i := 6) (by kernel_rfl) h)) (by kernel_rfl) (fun _ _ _ h => h) hA (.inl ⟨rfl, fun w5 q1 => ?_⟩) ?_
            · refine run_load_mid' rfl rfl (bcells s) ?_ Tryz.underlying48 rfl HIS.out
              exact rangeAt_block ((q1.block _ (lt_of_heap HSBD.out) (fun e => e)).trans HSBD.out)
            simp only [Act.put, List.setIfInBounds_toArray, List.set]
            refine wpG_doIf (i := 5) rfl (by kernel_rfl) rfl (fun K hK => ?_)
            have HKK := Lib.hid hK
            clear hK
            go_step
            refine (cut_any (b := nb) (k := kk) _ (by omega) hnum (HBI.out.kept hA) HBD.out.byte hnl4 HNL.out).mono ?_
            rintro e w9 ⟨rfl, hu9⟩
            have hA2 : Upd (fun _ => False) wd w9 := hA.trans hu9
            clear hA hu9
            simp only []
            refine HKK.out _ _ hA2 ?_
            clear HKK
            simp only [List.setIfInBounds_toArray, List.set]
            refine wpG_tail_lit (k := 7) rfl rfl (by kernel_rfl) ?_
            simp only [List.drop]
            refine wpList_exec rfl (run_exec_neq rfl rfl rfl (neqV _ _ (by rw [cutF_length, allF_len48]) HSL.out.1 _)) ?_
            by_cases hcs : cutF t number snap nb kk = s
            · have HRE := Lib.hid (HC1.out hcs)
              have hq : (!(cutF t number snap nb kk == s)) = false := by simp [hcs]
              rw [hq]
              clear hcs hq
              go_wp2
              go_roundg (1001 - (kk + 1))
              case measure => omega
              case rel => exact ⟨kk + 1, D2, by omega, rfl, congrArg _ (by omega), HD2.out, HAD.out.kept hA2 (fun _ e => e.elim) HFL.out, .inr ⟨by omega, t, n, nb, g, rfl, rfl, rfl, by omega, ht, HRE.out, HBD.out.kept hA2 (fun e => e)⟩⟩
            · have HRE := Lib.hid (HC2.out hcs)
              have hq : (!(cutF t number snap nb kk == s)) = true := by simp [hcs]
              rw [hq]
              have HAE := Lib.hid (HAD.out.kept hA2 (fun _ e => e.elim) HFL.out)
              clear hcs hq
              go_wp2
              go_ret3
              rw [HRE.out]
              exact ⟨HAE.out.dsk, HAE.out.upd, rfl⟩

end Go.Proofs.YtbimkhdiplnbfaaGreat
end

