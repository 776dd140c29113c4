/- Works that came in: opened, within the form's reach. -/
import Derived.Test.YtbonfdkgkcbkmaaGreatW8
import Derived.Test.YtbonfdkgkcbkmaaGreatW20
import Derived.Deep.Matrix
import Derived.Deep.Grids
import Derived.Deep.Slices
import Derived.ChangeSlices
import Derived.SizedLaws
set_option linter.unusedVariables false
set_option linter.unusedSimpArgs false

namespace Go.Proofs.YtbonfdkgkcbkmaaGreat
set_option maxRecDepth 100000
set_option maxRecDepth 100000
open Go.ChangeShapes Go.WideShapes Go.ChangeAt Go.RowKit Go.Joins Go.Deep

instance inhRecO : Inhabited RecV := ⟨⟨0, 0, 0⟩⟩
instance inhOpO : Inhabited OpM := ⟨⟨0, 0, none, 0, [], 0, 0⟩⟩
instance inhInO : Inhabited InM := ⟨⟨0, none, 0, []⟩⟩
instance inhOffO : Inhabited { o : List Int // o.length = 8 } := ⟨⟨zer8, rfl⟩⟩
theorem spot_none {w : World} {b o : Nat} {sp : _} {n : Nat} {cs : List Value} {base : Nat} (h : w.cells? base ((⟨b, o, sp⟩ : Addr).add 0) (n + 1) = some cs) : sp = none := by
  obtain ⟨_, hl, h3⟩ := World.cells?_some h
  have h4 := h3 0 (by omega)
  have hlt : 0 < cs.length := by omega
  rw [List.getElem?_eq_getElem hlt] at h4
  simpa [Addr.add] using World.cell?_spot h4

section
variable {H : Type}

/-- No string, slice or map in what was read is greater than the form's reach. -/
def Sized (t : TypeId) (d : DataW H) : Prop := ∀ n ∈ d.weights Tryz.prog t, n ≤ 140737488351232

theorem weightsAll_mem {e : TypeId} {k : Nat} : ∀ {l : List (DataW H)} {d : DataW H}, d ∈ l → k ∈ d.weights Tryz.prog e → k ∈ DataW.weightsAll Tryz.prog e l
  | d :: r, x, h, hk => by
    simp only [DataW.weightsAll, List.mem_append]
    rcases List.mem_cons.1 h with rfl | h
    · exact .inl hk
    · exact .inr (weightsAll_mem h hk)
theorem Sized.slice {t e : TypeId} {elems spare : List (DataW H)} (h : Sized t (.slice elems spare)) (ht : Tryz.prog.underlying t = some (.slice e)) :
    (elems.length + spare.length) * Tryz.prog.bytesOf e ≤ 140737488351232 ∧ ∀ d ∈ elems, Sized e d := by
  have hw : DataW.weights Tryz.prog t (.slice elems spare) = (elems.length + spare.length) * Tryz.prog.bytesOf e :: (DataW.weightsAll Tryz.prog e elems ++ DataW.weightsAll Tryz.prog e spare) := by
    simp only [DataW.weights, ht]
  unfold Sized at h
  rw [hw] at h
  refine ⟨h _ (List.mem_cons_self ..), fun d hd k hk => h k (List.mem_cons_of_mem _ (List.mem_append_left _ (weightsAll_mem hd hk)))⟩
theorem Sized.field {t : TypeId} {fs : Array Field} {parts : List (DataW H)} (h : Sized t (.agg parts)) (ht : Tryz.prog.underlying t = some (.struct fs)) {i : Nat} {u : TypeId} {d : DataW H} (hi : (fs.toList.map (·.type))[i]? = some u) (hd : parts[i]? = some d) : Sized u d := by
  have hw : DataW.weights Tryz.prog t (.agg parts) = DataW.weightsEach Tryz.prog (fs.toList.map (·.type)) parts := by
    simp only [DataW.weights, ht]
  unfold Sized at h
  rw [hw] at h
  exact fun k hk => h k (DataW.weights_mem_each hi hd k hk)

theorem add_none' (b o k : Nat) : (⟨b, o, none⟩ : Addr).add k = ⟨b, o + k, none⟩ := by unfold Addr.add; split <;> first | rfl | simp_all

variable {enc : TypeId × Value → H} {w : World} {base : Nat} {held : Bool} {n : Nat} {cs : List Value} {y : DataW H × List MemPlace}

/-- A row opened, whatever its elements are. -/
theorem open_rowU {α : Type} [Inhabited α] {t e : TypeId} {s bz : Nat} (ht : Tryz.prog.underlying t = some (.slice e)) (hc : Tryz.prog.cellsOf e = s + 1) (hbz : Tryz.prog.bytesOf e = bz) (C : α → List Value) (hC : ∀ x, (C x).length = s + 1) (G : α → Prop)
    (hel : ∀ (m : Nat) (cs : List Value) (y : DataW H × List MemPlace), DataW.trod enc Tryz.prog w base (fun _ => true) held m e cs = some y → Sized e y.1 → ∃ x, cs = C x ∧ G x)
    (h : DataW.trod enc Tryz.prog w base (fun _ => true) held n t cs = some y) (hS : Sized t y.1) :
    ∃ (a : Option Addr) (c : Nat) (xs : List α), cs = [.slice a xs.length c] ∧ Row (s + 1) w a (xs.map C) ∧ (∀ x ∈ xs, G x) ∧ xs.length ≤ c ∧ c * bz ≤ 140737488351232 ∧ c ≤ maxLen := by
  rcases open_slice ht h with ⟨rfl, rfl⟩ | ⟨a', len, cap, m, n', D, Pl, rfl, hb, hl, hm, hmm, rfl, hel'⟩
  · exact ⟨none, 0, [], rfl, Row.nil _ _ _, fun x hx => by simp at hx, by simp, by omega, by simp⟩
  · simp only [if_true] at hmm
    subst hmm
    rw [hc] at hel'
    obtain ⟨hb1, hb2⟩ := hS.slice ht
    rw [hbz] at hb1
    simp only [List.length_map, List.length_range] at hb1
    have hD : ∀ i, i < len → Sized e (D i) := fun i hi => hb2 _ (List.mem_map.2 ⟨i, List.mem_range.2 hi, rfl⟩)
    obtain ⟨f, hf⟩ := choose_lt (α := α) (n := len) (p := fun i z => w.cells? base (a'.add (i * (s + 1))) (s + 1) = some (C z) ∧ G z) (fun i hi => by
      obtain ⟨cs', h1, h2⟩ := hel' i (by omega)
      obtain ⟨x, rfl, g⟩ := hel _ _ _ h2 (hD i hi)
      exact ⟨x, h1, g⟩)
    have hget : ∀ i x, ((List.range len).map f)[i]? = some x → i < len ∧ x = f i := fun i x hx => by
      rw [List.getElem?_map, Option.map_eq_some_iff] at hx
      obtain ⟨j, hj, rfl⟩ := hx
      obtain ⟨h1, h2⟩ := List.getElem?_eq_some_iff.1 hj
      simp at h1 h2
      exact ⟨h1, by rw [h2]⟩
    refine ⟨some a', m, (List.range len).map f, by simp, fun i x hx => ?_, fun x hx => ?_, by simp; omega, ?_, hm⟩
    · rw [List.getElem?_map, Option.map_eq_some_iff] at hx
      obtain ⟨z, hz, rfl⟩ := hx
      obtain ⟨hi, rfl⟩ := hget i z hz
      refine ⟨hC _, ?_⟩
      obtain ⟨b, o, sp⟩ := a'
      have hsp : sp = none := spot_none (n := s) (by have := (hf 0 (by omega)).1; rwa [Nat.zero_mul] at this)
      subst hsp
      refine ⟨b, o, rfl, fun t u hu => ?_⟩
      obtain ⟨_, _, h3⟩ := World.cells?_some (hf i hi).1
      have htl : t < s + 1 := by have := (List.getElem?_eq_some_iff.1 hu).1; rw [hC] at this; exact this
      have h4 := h3 t htl
      rw [add_none', add_none', hu] at h4
      rw [← Nat.add_assoc]
      exact h4
    · obtain ⟨i, hi⟩ := List.getElem?_of_mem hx
      obtain ⟨hi2, rfl⟩ := hget i x hi
      exact (hf i hi2).2
    · have : len + (m - len) = m := by omega
      rw [this] at hb1
      exact hb1
theorem Tryz.c2 : Tryz.prog.cellsOf 2 = 1 := by kernel_rfl
theorem Tryz.c3 : Tryz.prog.cellsOf 3 = 1 := by kernel_rfl
theorem Tryz.c29 : Tryz.prog.cellsOf 36 = 3 := by kernel_rfl
theorem Tryz.c50 : Tryz.prog.cellsOf 39 = 1 := by kernel_rfl
theorem Tryz.c52 : Tryz.prog.cellsOf 41 = 2 := by kernel_rfl
theorem Tryz.b3 : Tryz.prog.bytesOf 3 = 8 := by kernel_rfl
theorem Tryz.b29 : Tryz.prog.bytesOf 36 = 24 := by kernel_rfl
theorem open_recU (h : DataW.trod enc Tryz.prog w base (fun _ => true) held n 36 cs = some y) : ∃ r : RecV, cs = r.cells := by
  obtain ⟨xs, m, _, rfl, hll, hlen, hff⟩ := DataW.trod_struct Tryz.underlying36 h
  have hl : cs.length = 3 := by rw [hll, Tryz.c29]
  match cs, hl with
  | [c0, c1, c2], _ =>
    match xs, hlen with
    | [y0, y1, y2], _ =>
      have k2 := Tryz.c2; have k3 := Tryz.c3
      have h0 : DataW.trod enc Tryz.prog w base (fun _ => true) held m 3 [c0] = some y0 := by simpa [k3] using hff 0 _ rfl
      have h1 : DataW.trod enc Tryz.prog w base (fun _ => true) held m 3 [c1] = some y1 := by simpa [k3] using hff 1 _ rfl
      have h2 : DataW.trod enc Tryz.prog w base (fun _ => true) held m 2 [c2] = some y2 := by simpa [k2, k3] using hff 2 _ rfl
      obtain ⟨z0, e0, _⟩ := DataW.trod_int Tryz.underlying3 h0
      obtain ⟨z1, e1, _⟩ := DataW.trod_int Tryz.underlying3 h1
      obtain ⟨z2, e2, _⟩ := DataW.trod_int Tryz.underlying2 h2
      simp at e0 e1 e2
      subst e0 e1 e2
      exact ⟨⟨z0, z1, z2⟩, rfl⟩
theorem open_inU (h : DataW.trod enc Tryz.prog w base (fun _ => true) held n 41 cs = some y) (hS : Sized 41 y.1) : ∃ x : InM, cs = x.cells ∧ RecsIn w x.ra x.recs ∧ x.recs.length ≤ 140737488351232 := by
  obtain ⟨xs, m, _, rfl, hll, hlen, hff⟩ := DataW.trod_struct Tryz.underlying41 h
  have hl : cs.length = 2 := by rw [hll, Tryz.c52]
  match cs, hl with
  | [c0, c1], _ =>
    match xs, hlen with
    | [y0, y1], _ =>
      have k3 := Tryz.c3; have k50 := Tryz.c50
      have h0 : DataW.trod enc Tryz.prog w base (fun _ => true) held m 3 [c0] = some y0 := by simpa [k3] using hff 0 _ rfl
      have h1 : DataW.trod enc Tryz.prog w base (fun _ => true) held m 39 [c1] = some y1 := by simpa [k3, k50] using hff 1 _ rfl
      have s1 : Sized 39 y1.1 := hS.field Tryz.underlying41 (i := 1) rfl rfl
      obtain ⟨z0, e0, _⟩ := DataW.trod_int Tryz.underlying3 h0
      obtain ⟨a, c, l, e1, g1, _, g3, g4, _⟩ := open_rowU (s := 2) Tryz.underlying39 Tryz.c29 Tryz.b29 RecV.cells (fun _ => rfl) (fun _ => True) (fun m cs y h _ => by obtain ⟨r, e⟩ := open_recU h; exact ⟨r, e, trivial⟩) h1 s1
      simp at e0 e1
      subst e0 e1
      exact ⟨⟨z0, a, c, l⟩, rfl, g1, by show l.length ≤ _; omega⟩
end
end Go.Proofs.YtbonfdkgkcbkmaaGreat
