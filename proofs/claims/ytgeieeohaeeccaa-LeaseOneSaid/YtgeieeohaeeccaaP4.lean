/- LeaseOne holds: at each tick one alone holds the lease, with one epoch, and each who acquires has a greater epoch than all ahead; no condition. -/
import Derived.Test.YtgeieeohaeeccaaO1
import Derived.Test.YtgeieeohaeeccaaLaw
import Derived.Deep.Grids
namespace Go.Proofs.Ytgeieeohaeeccaa
open Go.ChangeShapes Go.WideShapes Go.ChangeAt Go.RowKit Go.Joins Go.Deep

instance : Inhabited DeedR := ⟨⟨0, 0, 0, 0, 0⟩⟩
theorem Try.cells43 : Try.prog.cellsOf 43 = 5 := by kernel_rfl

set_option maxRecDepth 100000 in
theorem open_cellsD {H : Type} {enc : TypeId × Value → H} {w : World} {base : Nat} {held : Bool} {n : Nat} {cs : List Value} {y : DataW H × List MemPlace} (h : DataW.trod enc Try.prog w base (fun _ => true) held n 43 cs = some y) :
    ∃ x : DeedR, cs = cellsD x := by
  obtain ⟨xs, m, _, hx, hll, hlen, hff⟩ := DataW.trod_struct Try.underlying43 h
  have hl : cs.length = 5 := by rw [hll, Try.cells43]
  match cs, hl with
  | [c0, c1, c2, c3, c4], _ =>
    match xs, hlen with
    | [y0, y1, y2, y3, y4], _ =>
      have k3 : Try.prog.cellsOf 3 = 1 := by kernel_rfl
      have k2 : Try.prog.cellsOf 2 = 1 := by kernel_rfl
      have h0 : DataW.trod enc Try.prog w base (fun _ => true) held m 3 [c0] = some y0 := by simpa [k3] using hff 0 _ rfl
      have h1 : DataW.trod enc Try.prog w base (fun _ => true) held m 3 [c1] = some y1 := by simpa [k3] using hff 1 _ rfl
      have h2 : DataW.trod enc Try.prog w base (fun _ => true) held m 2 [c2] = some y2 := by simpa [k2] using hff 2 _ rfl
      have h3 : DataW.trod enc Try.prog w base (fun _ => true) held m 2 [c3] = some y3 := by simpa [k2] using hff 3 _ rfl
      have h4 : DataW.trod enc Try.prog w base (fun _ => true) held m 3 [c4] = some y4 := by simpa [k3] using hff 4 _ rfl
      obtain ⟨k, e0, rfl, _⟩ := DataW.trod_int Try.underlying3 h0
      obtain ⟨i, e1, rfl, _⟩ := DataW.trod_int Try.underlying3 h1
      obtain ⟨q, e2, rfl, _⟩ := DataW.trod_int Try.underlying2 h2
      obtain ⟨c, e3, rfl, _⟩ := DataW.trod_int Try.underlying2 h3
      obtain ⟨g, e4, rfl, _⟩ := DataW.trod_int Try.underlying3 h4
      simp at e0 e1 e2 e3 e4
      subst e0 e1 e2 e3 e4
      exact ⟨⟨k, i, q, c, g⟩, rfl⟩

set_option maxRecDepth 100000 in
theorem open_deeds {H : Type} {enc : TypeId × Value → H} {w : World} {base : Nat} {held : Bool} {r : Reach} {b0 : Nat} {v : Value} {d : DataW H} {p : List MemPlace} (hv : Value.okWide Try.prog w r b0 39 v) (h : DataW.Trod enc Try.prog w base (fun _ => true) held 39 v d p) :
    ∃ (sa : Option Addr) (sc : Nat) (L : List DeedR), v = .slice sa L.length sc ∧ DeedsIn w sa sc L := by
  obtain ⟨a, len, cap, rfl⟩ := okWide_slice Try.underlying39 hv
  obtain ⟨fuel, hf⟩ := h
  rcases open_slice Try.underlying39 hf with ⟨hcs, _⟩ | ⟨a', len', cap', m, n, D, Pl, hcs, hb, hl, hm, hmm, _, hel⟩
  · simp [Value.cells] at hcs
    obtain ⟨rfl, rfl, rfl⟩ := hcs
    exact ⟨none, 0, [], rfl, .inl ⟨rfl, rfl, rfl⟩⟩
  · simp [Value.cells] at hcs
    obtain ⟨rfl, rfl, rfl⟩ := hcs
    simp only [if_true] at hmm
    subst hmm
    rw [Try.cells43] at hel
    obtain ⟨f, hf⟩ := choose_lt (α := DeedR) (p := fun i x => w.cells? base (a'.add (i * 5)) 5 = some (cellsD x)) (fun i hi => by
      obtain ⟨cs', h1, h2⟩ := hel i hi
      obtain ⟨x, rfl⟩ := open_cellsD h2
      exact ⟨x, h1⟩)
    refine ⟨some a', m, (List.range len).map f, by simp, .inr ⟨a', rfl, by simpa using hl, hm, fun i d hd j u hj => ?_⟩⟩
    have hil : i < len := by
      have := (List.getElem?_eq_some_iff.1 hd).1
      simpa using this
    obtain rfl : d = f i := by simpa [hil] using hd.symm
    obtain ⟨_, _, h3⟩ := World.cells?_some (hf i (by omega))
    have hj5 : j < 5 := by
      have := (List.getElem?_eq_some_iff.1 hj).1
      simpa [cellsD] using this
    rw [h3 j hj5]
    exact hj

set_option maxRecDepth 100000 in
theorem one_lifted (os : Os) (started : os.Started) (H : Type) (enc : TypeId × Value → H) :
    ReturnsInHanded {} Try.checked os 5 .any (Rows.leaseOneSpec.pre6 enc Try.prog Try.f5 Rows.leaseOneRow.domain false) (Rows.leaseOneSpec.post enc Try.prog Try.f5 false true false false) := by
  refine returnsInHanded_of_change (C := Try.checked) Try.own started (by kernel_rfl) Try.func5
    (ChangeSpec.witness6 (enc := enc) (C := Try.checked) false ⟨#[], #[.slice none 0 0], []⟩ 8 (by kernel_rfl) (by kernel_rfl) (by kernel_rfl) (by kernel_rfl)) ?_
  intro W base args ds gs before hval0 hW _ _
  have hval : ∀ (j : Nat) t v, Try.f5.params[j]? = some t → args[j]? = some v → Value.okWide Try.prog W .any base t v := hval0
  have hW' : DataW.Whole enc Try.prog Try.f5.params.toList Rows.leaseOneSpec.vars false W args.toList ds gs before := hW
  obtain ⟨p, q, hA0, hV, rfl, hfz, hnd⟩ := hW
  have hA : DataW.TrodAll enc Try.prog W 0 (fun _ => true) true Try.f5.params.toList args.toList ds p := hA0
  rw [Try.params5] at hA hval
  obtain ⟨v0, d0, rfl, rfl, h0⟩ := trodAll_one hA
  obtain ⟨rfl, rfl⟩ := trodVars_none hV
  clear hA0 hval0
  obtain ⟨sa, sc, L, rfl, hin⟩ := open_deeds (hval 0 39 v0 rfl rfl) h0
  refine (leaseOne_run sa sc L W hin).mono fun en W' ⟨he, hb⟩ => ?_
  subst he
  exact ⟨_, rfl, law_post Try.laidOut rfl Try.underlying4 (by decide +kernel) rfl hW' rfl rfl rfl hb.below⟩

theorem leaseOne_holds : Rows.LeaseOneSaid :=
  OpenClaim.holds_of_wide 5 Try.f5 rfl rfl rfl rfl rfl rfl rfl ⟨rfl, rfl, rfl, rfl, rfl⟩ rfl rfl rfl rfl rfl (by kernel_rfl) Try.func5 (by kernel_rfl)
    (of_decide_eq_true (by kernel_rfl)) (by unfold Func.isWrapper; rw [if_neg (of_decide_eq_false (by kernel_rfl))]; exact ⟨rfl, rfl⟩)
    (fun os started H enc _ => one_lifted os started H enc)

#print axioms leaseOne_holds
end Go.Proofs.Ytgeieeohaeeccaa
