/- DiskCarries holds: as many calls are carried out as said, one fails, the last one finds the power gone; no condition. -/
import Derived.Test.YtbimkhdiplnbfaaW6
import Derived.Test.YtbimkhdiplnbfaaLaw
namespace Go.Proofs.Ytbimkhdiplnbfaa
open Go.ChangeShapes Go.WideShapes Go.ChangeAt Go.RowKit Go.Joins Go.Deep

theorem okWide_arr {P : Program} {w : World} {r : Reach} {base : Nat} {t e : TypeId} {n : Nat} {v : Value} (ht : P.underlying t = some (.array n e)) (h : Value.okWide P w r base t v) : ∃ cs, v = .agg cs ∧ cs.size = P.cellsOf t := by
  simp only [Value.okWide, ht, Cell.okWide] at h
  cases v <;> simp_all [Cell.ok]

instance : Inhabited CallR := ⟨⟨0, 0, 0, 0, none, 0, 0⟩⟩

set_option maxRecDepth 100000 in
theorem open_cells5 {H : Type} {enc : TypeId × Value → H} {w : World} {base : Nat} {held : Bool} {n : Nat} {cs : List Value} {y : DataW H × List MemPlace} (h : DataW.trod enc Try.prog w base (fun _ => true) held n 51 cs = some y) :
    ∃ x : CallR, cs = cells5 x ∧ 0 ≤ x.c ∧ x.c ≤ 255 := by
  obtain ⟨xs, m, _, hx, hll, hlen, hff⟩ := DataW.trod_struct Try.underlying51 h
  have hl : cs.length = 5 := by rw [hll, Try.cells51]
  match cs, hl with
  | [c0, c1, c2, c3, c4], _ =>
    match xs, hlen with
    | [y0, y1, y2, y3, y4], _ =>
      have k3 : Try.prog.cellsOf 3 = 1 := by kernel_rfl
      have k5 : Try.prog.cellsOf 5 = 1 := by kernel_rfl
      have k49 : Try.prog.cellsOf 49 = 1 := by kernel_rfl
      have h0 : DataW.trod enc Try.prog w base (fun _ => true) held m 3 [c0] = some y0 := by simpa [k3] using hff 0 _ rfl
      have h1 : DataW.trod enc Try.prog w base (fun _ => true) held m 3 [c1] = some y1 := by simpa [k3] using hff 1 _ rfl
      have h2 : DataW.trod enc Try.prog w base (fun _ => true) held m 3 [c2] = some y2 := by simpa [k3] using hff 2 _ rfl
      have h3 : DataW.trod enc Try.prog w base (fun _ => true) held m 5 [c3] = some y3 := by simpa [k5] using hff 3 _ rfl
      have h4 : DataW.trod enc Try.prog w base (fun _ => true) held m 49 [c4] = some y4 := by simpa [k49] using hff 4 _ rfl
      obtain ⟨k, e0, rfl, w0⟩ := DataW.trod_int Try.underlying3 h0
      obtain ⟨i, e1, rfl, w1⟩ := DataW.trod_int Try.underlying3 h1
      obtain ⟨q, e2, rfl, w2⟩ := DataW.trod_int Try.underlying3 h2
      obtain ⟨c, e3, rfl, w3⟩ := DataW.trod_int Try.underlying5 h3
      simp at e0 e1 e2 e3
      subst e0 e1 e2 e3
      obtain ⟨a, l, cc, e4⟩ := slice_form Try.underlying49 h4
      simp at e4
      subst e4
      exact ⟨⟨k, i, q, c, a, l, cc⟩, rfl, wf_u8 w3⟩

set_option maxRecDepth 100000 in
theorem open_calls {H : Type} {enc : TypeId × Value → H} {w : World} {base : Nat} {held : Bool} {r : Reach} {b0 : Nat} {v : Value} {d : DataW H} {p : List MemPlace} (hv : Value.okWide Try.prog w r b0 65 v) (h : DataW.Trod enc Try.prog w base (fun _ => true) held 65 v d p) :
    ∃ (sa : Option Addr) (sc : Nat) (L : List CallR), v = .slice sa L.length sc ∧ CallsIn w sa sc L ∧ ∀ x ∈ L, 0 ≤ x.c ∧ x.c ≤ 255 := by
  obtain ⟨a, len, cap, rfl⟩ := okWide_slice Try.underlying65 hv
  obtain ⟨fuel, hf⟩ := h
  rcases open_slice Try.underlying65 hf with ⟨hcs, _⟩ | ⟨a', len', cap', m, n, D, Pl, hcs, hb, hl, hm, hmm, _, hel⟩
  · simp [Value.cells] at hcs
    obtain ⟨rfl, rfl, rfl⟩ := hcs
    exact ⟨none, 0, [], rfl, .inl ⟨rfl, rfl, rfl⟩, fun x hx => by simp at hx⟩
  · simp [Value.cells] at hcs
    obtain ⟨rfl, rfl, rfl⟩ := hcs
    simp only [if_true] at hmm
    subst hmm
    rw [Try.cells51] at hel
    obtain ⟨f, hf⟩ := choose_lt (α := CallR) (p := fun i x => w.cells? base (a'.add (i * 5)) 5 = some (cells5 x) ∧ 0 ≤ x.c ∧ x.c ≤ 255) (fun i hi => by
      obtain ⟨cs', h1, h2⟩ := hel i hi
      obtain ⟨x, rfl, h3⟩ := open_cells5 h2
      exact ⟨x, h1, h3⟩)
    refine ⟨some a', m, (List.range len).map f, by simp, .inr ⟨a', rfl, by simpa using hl, hm, fun j u hj => ?_⟩, fun x hx => ?_⟩
    · have hjl : j < len * 5 := by
        have := (List.getElem?_eq_some_iff.1 hj).1
        rw [flat5_length] at this
        simpa using this
      obtain ⟨q, hq⟩ : ∃ q, q = j / 5 := ⟨_, rfl⟩
      obtain ⟨t, ht⟩ : ∃ t, t = j % 5 := ⟨_, rfl⟩
      have hjj : j = q * 5 + t := by omega
      have ht5 : t < 5 := by omega
      have hql : q < len := by omega
      clear hq ht
      subst hjj
      rw [flat5_at _ q t (f q) (by simp [hql]) ht5] at hj
      obtain ⟨_, _, h3⟩ := World.cells?_some (hf q (by omega)).1
      rw [← Addr.add_add, h3 t ht5]
      exact hj
    · simp at hx
      obtain ⟨i, hi, rfl⟩ := hx
      exact (hf i (by omega)).2

set_option maxRecDepth 100000 in
theorem open_pair2 {H : Type} {enc : TypeId × Value → H} {w : World} {base : Nat} {held : Bool} {r : Reach} {b0 : Nat} {v : Value} {d : DataW H} {p : List MemPlace} (hv : Value.okWide Try.prog w r b0 90 v) (h : DataW.Trod enc Try.prog w base (fun _ => true) held 90 v d p) :
    ∃ k0 k1 : Int, v = .agg #[.int .i64 k0, .int .i64 k1] := by
  obtain ⟨cs, rfl, hsz⟩ := okWide_arr Try.underlying90 hv
  obtain ⟨fuel, hf⟩ := h
  obtain ⟨xs, m, _, _, hll, hlen, hff⟩ := DataW.trod_array Try.underlying90 hf
  have k3 : Try.prog.cellsOf 3 = 1 := by kernel_rfl
  have hs2 : cs.size = 2 := by rw [hsz]; kernel_rfl
  obtain ⟨l⟩ := cs
  match l, hs2 with
  | [c0, c1], _ =>
    match xs, hlen with
    | [y0, y1], _ =>
      have h0 : DataW.trod enc Try.prog w base (fun _ => true) held m 3 [c0] = some y0 := by simpa [k3, Value.cells] using hff 0 (by omega)
      have h1 : DataW.trod enc Try.prog w base (fun _ => true) held m 3 [c1] = some y1 := by simpa [k3, Value.cells] using hff 1 (by omega)
      obtain ⟨k, e0, _, _⟩ := DataW.trod_int Try.underlying3 h0
      obtain ⟨i, e1, _, _⟩ := DataW.trod_int Try.underlying3 h1
      simp at e0 e1
      subst e0 e1
      exact ⟨k, i, rfl⟩

set_option maxRecDepth 100000 in
theorem carries_lifted (os : Os) (started : os.Started) (H : Type) (enc : TypeId × Value → H) :
    ReturnsInHanded {} Try.checked os 10 .any (Rows.diskCarriesSpec.pre6 enc Try.prog Try.f10 Rows.diskCarriesRow.domain false) (Rows.diskCarriesSpec.post enc Try.prog Try.f10 false true false false) := by
  refine returnsInHanded_of_change (C := Try.checked) Try.own started (by kernel_rfl) Try.func10
    (ChangeSpec.witness6 (enc := enc) (C := Try.checked) false ⟨#[], #[.int .i64 0, .slice none 0 0, .agg #[.int .i64 0, .int .i64 0]], []⟩ 8 (by kernel_rfl) (by kernel_rfl) (by kernel_rfl) (by kernel_rfl)) ?_
  intro W base args ds gs before hval0 hW _ _
  have hval : ∀ (j : Nat) t v, Try.f10.params[j]? = some t → args[j]? = some v → Value.okWide Try.prog W .any base t v := hval0
  have hW' : DataW.Whole enc Try.prog Try.f10.params.toList Rows.diskCarriesSpec.vars false W args.toList ds gs before := hW
  obtain ⟨p, q, hA0, hV, rfl, hfz, hnd⟩ := hW
  have hA : DataW.TrodAll enc Try.prog W 0 (fun _ => true) true Try.f10.params.toList args.toList ds p := hA0
  rw [Try.params10] at hA hval
  obtain ⟨v0, v1, v2, d0, d1, d2, p0, p1, p2, rfl, rfl, rfl, h0, h1, h2⟩ := trodAll_three hA
  obtain ⟨rfl, rfl⟩ := trodVars_none hV
  clear hA0 hval0
  obtain ⟨n, rfl, rfl, rfl, wn⟩ := open_int Try.underlying3 (hval 0 3 v0 rfl rfl) h0
  obtain ⟨sa, sc, L, rfl, hin, hLc⟩ := open_calls (hval 1 65 v1 rfl rfl) h1
  obtain ⟨k0, k1, rfl⟩ := open_pair2 (hval 2 90 v2 rfl rfl) h2
  refine (carries_run n k0 k1 sa sc L W hin hLc).mono fun en W' ⟨he, hb⟩ => ?_
  subst he
  exact ⟨_, rfl, law_post Try.laidOut rfl Try.underlying4 (by decide +kernel) rfl hW' rfl rfl rfl hb.below⟩

theorem diskCarries_holds : Rows.DiskCarriesSaid :=
  OpenClaim.holds_of_wide 10 Try.f10 rfl rfl rfl rfl rfl rfl rfl ⟨rfl, rfl, rfl, rfl, rfl⟩ rfl rfl rfl rfl rfl (by kernel_rfl) Try.func10 (by kernel_rfl)
    (of_decide_eq_true (by kernel_rfl)) (by unfold Func.isWrapper; rw [if_neg (of_decide_eq_false (by kernel_rfl))]; exact ⟨rfl, rfl⟩)
    (fun os started H enc _ => carries_lifted os started H enc)

#print axioms diskCarries_holds
end Go.Proofs.Ytbimkhdiplnbfaa
