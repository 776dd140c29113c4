/- The claims' frame: rows of calls that came in, each with what it keeps. -/
import Derived.Test.YtbimkhdiplnbfaaU18
import Derived.Test.YtbimkhdiplnbfaaU23

namespace Go.Proofs.Ytbimkhdiplnbfaa
open Go.ChangeShapes Go.WideShapes Go.ChangeAt Go.RowKit Go.Joins Go.Deep

theorem keepIn_of' {w : World} {ka : Option Addr} {kn kc : Nat} (h : (ka = none ∧ kn = 0 ∧ kc = 0) ∨ ∃ (a : Addr) (B : Nat → Bool), ka = some a ∧ kn ≤ kc ∧ kc ≤ maxLen ∧ ∀ i, i < kc → w.cell? (a.add i) = some (.bool (B i))) : ∃ B, KeepIn w ka kn kc B := by
  rcases h with h | ⟨a, B, h1, h2, h3, h4⟩
  · exact ⟨fun _ => false, .inl h⟩
  · exact ⟨B, .inr ⟨a, h1, h2, h3, h4⟩⟩

/-- A call that came in. -/
def GoodC (w : World) (x : CallR) : Prop := (0 ≤ x.c ∧ x.c ≤ 255) ∧ (-9223372036854775808 ≤ x.n ∧ x.n ≤ 9223372036854775807) ∧ ∃ B, KeepIn w x.ka x.kn x.kc B

instance : Inhabited CallR := ⟨⟨0, 0, 0, 0, none, 0, 0⟩⟩

set_option maxRecDepth 100000 in
theorem open_cellsK {H : Type} {enc : TypeId × Value → H} {w : World} {base : Nat} {held : Bool} {n : Nat} {cs : List Value} {y : DataW H × List MemPlace} (h : DataW.trod enc Try.prog w base (fun _ => true) held n 51 cs = some y) :
    ∃ x : CallR, cs = cells5 x ∧ GoodC w x := by
  obtain ⟨xs, m, _, hx, hll, hlen, hff⟩ := DataW.trod_struct Try.underlying51 h
  have hl : cs.length = 5 := by rw [hll, Try.cells51]
  match cs, hl with
  | [c0, c1, c2, c3, c4], _ =>
    match xs, hlen with
    | [y0, y1, y2, y3, y4], _ =>
      have k3 : Try.prog.cellsOf 3 = 1 := by kernel_rfl
      have k5 : Try.prog.cellsOf 5 = 1 := by kernel_rfl
      have k49 : Try.prog.cellsOf 49 = 1 := by kernel_rfl
      have h0 : DataW.trod enc Try.prog w base (fun _ => true) held m 3 [c0] = some y0 := by simpa [k3] using hff 0 _ rfl
      have h1 : DataW.trod enc Try.prog w base (fun _ => true) held m 3 [c1] = some y1 := by simpa [k3] using hff 1 _ rfl
      have h2 : DataW.trod enc Try.prog w base (fun _ => true) held m 3 [c2] = some y2 := by simpa [k3] using hff 2 _ rfl
      have h3 : DataW.trod enc Try.prog w base (fun _ => true) held m 5 [c3] = some y3 := by simpa [k5] using hff 3 _ rfl
      have h4 : DataW.trod enc Try.prog w base (fun _ => true) held m 49 [c4] = some y4 := by simpa [k49] using hff 4 _ rfl
      obtain ⟨k, e0, rfl, w0⟩ := DataW.trod_int Try.underlying3 h0
      obtain ⟨i, e1, rfl, w1⟩ := DataW.trod_int Try.underlying3 h1
      obtain ⟨q, e2, rfl, w2⟩ := DataW.trod_int Try.underlying3 h2
      obtain ⟨c, e3, rfl, w3⟩ := DataW.trod_int Try.underlying5 h3
      simp at e0 e1 e2 e3
      subst e0 e1 e2 e3
      rcases Deep.open_bools Try.underlying49 Try.underlying4 (by kernel_rfl) h4 with ⟨e4, _⟩ | ⟨a, len, cap, B, e4, _, hl, hm, _, hc⟩
      · simp at e4; subst e4
        exact ⟨⟨k, i, q, c, none, 0, 0⟩, rfl, wf_u8 w3, wf_i64 w2, keepIn_of' (.inl ⟨rfl, rfl, rfl⟩)⟩
      · simp at e4; subst e4
        exact ⟨⟨k, i, q, c, some a, len, cap⟩, rfl, wf_u8 w3, wf_i64 w2, keepIn_of' (.inr ⟨a, B, rfl, hl, hm, hc⟩)⟩

set_option maxRecDepth 100000 in
theorem open_callsK {H : Type} {enc : TypeId × Value → H} {w : World} {base : Nat} {held : Bool} {r : Reach} {b0 : Nat} {v : Value} {d : DataW H} {p : List MemPlace} (hv : Value.okWide Try.prog w r b0 65 v) (h : DataW.Trod enc Try.prog w base (fun _ => true) held 65 v d p) :
    ∃ (sa : Option Addr) (sc : Nat) (L : List CallR), v = .slice sa L.length sc ∧ CallsIn w sa sc L ∧ ∀ x ∈ L, GoodC w x := by
  obtain ⟨a, len, cap, rfl⟩ := okWide_slice Try.underlying65 hv
  obtain ⟨fuel, hf⟩ := h
  rcases open_slice Try.underlying65 hf with ⟨hcs, _⟩ | ⟨a', len', cap', m, n, D, Pl, hcs, hb, hl, hm, hmm, _, hel⟩
  · simp [Value.cells] at hcs
    obtain ⟨rfl, rfl, rfl⟩ := hcs
    exact ⟨none, 0, [], rfl, .inl ⟨rfl, rfl, rfl⟩, fun x hx => by simp at hx⟩
  · simp [Value.cells] at hcs
    obtain ⟨rfl, rfl, rfl⟩ := hcs
    simp only [if_true] at hmm
    subst hmm
    rw [Try.cells51] at hel
    obtain ⟨f, hf⟩ := choose_lt (α := CallR) (p := fun i x => w.cells? base (a'.add (i * 5)) 5 = some (cells5 x) ∧ GoodC w x) (fun i hi => by
      obtain ⟨cs', h1, h2⟩ := hel i hi
      obtain ⟨x, rfl, h3⟩ := open_cellsK h2
      exact ⟨x, h1, h3⟩)
    refine ⟨some a', m, (List.range len).map f, by simp, .inr ⟨a', rfl, by simpa using hl, hm, fun j u hj => ?_⟩, fun x hx => ?_⟩
    · have hjl : j < len * 5 := by
        have := (List.getElem?_eq_some_iff.1 hj).1
        rw [flat5_length] at this
        simpa using this
      obtain ⟨q, hq⟩ : ∃ q, q = j / 5 := ⟨_, rfl⟩
      obtain ⟨t, ht⟩ : ∃ t, t = j % 5 := ⟨_, rfl⟩
      have hjj : j = q * 5 + t := by omega
      have ht5 : t < 5 := by omega
      have hql : q < len := by omega
      clear hq ht
      subst hjj
      rw [flat5_at _ q t (f q) (by simp [hql]) ht5] at hj
      obtain ⟨_, _, h3⟩ := World.cells?_some (hf q (by omega)).1
      rw [← Addr.add_add, h3 t ht5]
      exact hj
    · simp at hx
      obtain ⟨i, hi, rfl⟩ := hx
      exact (hf i (by omega)).2

end Go.Proofs.Ytbimkhdiplnbfaa
