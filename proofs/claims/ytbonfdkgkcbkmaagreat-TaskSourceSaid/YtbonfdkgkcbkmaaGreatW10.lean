/- Walks: wakes. -/
import Derived.Test.YtbonfdkgkcbkmaaGreatW4
import Derived.Test.YtbonfdkgkcbkmaaGreatW8
import Derived.Test.YtbonfdkgkcbkmaaGreatW9
import Derived.Maps.AppendAt
import Derived.Lib.SliceRun
set_option linter.unusedVariables false
set_option linter.unusedSimpArgs false

section
namespace Go.Proofs.YtbonfdkgkcbkmaaGreat
set_option maxRecDepth 100000
set_option maxRecDepth 100000
open Go.RowKit Go.Shelf

attribute [local go_sem] Oper.semAt_some
theorem flat_at {s : Nat} : ∀ {xs : List (List Value)} {i : Nat} {x : List Value}, (∀ y ∈ xs, y.length = s) → xs[i]? = some x → ∀ t u, x[t]? = some u → xs.flatten[i * s + t]? = some u
  | [], _, _, _, h, _, _, _ => by simp at h
  | y :: l, 0, x, hl, h, t, u, hu => by
    simp at h; subst h
    rw [List.flatten_cons, List.getElem?_append_left (by have := (List.getElem?_eq_some_iff.1 hu).1; omega)]
    simpa using hu
  | y :: l, i + 1, x, hl, h, t, u, hu => by
    have h3 : y.length = s := hl y (by simp)
    rw [List.flatten_cons, List.getElem?_append_right (by rw [h3, Nat.succ_mul]; omega), h3, show (i + 1) * s + t - s = i * s + t by rw [Nat.succ_mul]; omega]
    exact flat_at (fun z hz => hl z (by simp [hz])) (by simpa using h) t u hu
theorem row_flat {s : Nat} {w : World} {g : Nat} {ty : TypeId} {xs : List (List Value)} (h : w.heap[g]? = some (.cells xs.flatten.toArray ty (0, 0))) (hl : ∀ y ∈ xs, y.length = s) : Row s w (some ⟨g, 0, none⟩) xs := fun i x hx =>
  ⟨hl x (List.mem_of_getElem? hx), g, 0, rfl, fun t u hu => by
    rw [Nat.zero_add, cell_of_heap h]
    simpa using flat_at hl hx t u hu⟩
end Go.Proofs.YtbonfdkgkcbkmaaGreat
end

section
namespace Go.Proofs.YtbonfdkgkcbkmaaGreat
set_option maxRecDepth 100000
set_option maxRecDepth 100000
open Go.RowKit Go.Shelf

theorem run_append_none' {P : Program} {w : World} (base : Nat) (t ty e : TypeId) (i : TypeInfo) (size c : Nat) (ht : P.underlying t = some (.slice e)) (hi : P.info? e = some i)
    (v : Value) (n : Nat) (xs : List Value) (hown : w.ownsRow base e size v n xs) :
    (Builtin.append_ #[t, t] ty #[v, .slice none 0 c]).run P w = .ok v w := by
  rcases hown.2 with ⟨rfl, rfl⟩ | ⟨g, cap, cur, rfl, _, _, hnc, _⟩
  · simp [Builtin.append_, run_underlying ht, sizeOf, typeInfo, hi, Builtin.lenOf, Builtin.firstCells]
  · simp [Builtin.append_, run_underlying ht, sizeOf, typeInfo, hi, Builtin.lenOf, Builtin.firstCells, hnc, storeCells]
theorem flat_len {s : Nat} : ∀ {xs : List (List Value)}, (∀ y ∈ xs, y.length = s) → xs.flatten.length = xs.length * s
  | [], _ => by simp
  | y :: l, h => by
    rw [List.flatten_cons, List.length_append, h y (by simp), flat_len (fun z hz => h z (by simp [hz])), List.length_cons, Nat.succ_mul]; omega
theorem row_news {s : Nat} {w : World} {b o : Nat} {xs : List (List Value)} (hs : 0 < s) (h : Row s w (some ⟨b, o, none⟩) xs) : ∀ j u, xs.flatten[j]? = some u → w.cell? ((⟨b, o, none⟩ : Addr).add j) = some u := by
  intro j u hu
  have hl : ∀ y ∈ xs, y.length = s := fun y hy => by
    obtain ⟨i, hi⟩ := List.getElem?_of_mem hy
    exact (h i y hi).1
  have hjl := (List.getElem?_eq_some_iff.1 hu).1
  rw [flat_len hl] at hjl
  have hi : j / s < xs.length := (Nat.div_lt_iff_lt_mul hs).2 hjl
  have ht : j % s < s := Nat.mod_lt _ hs
  have hx := List.getElem?_eq_getElem hi
  obtain ⟨hxl, b', o', e, hc⟩ := h _ _ hx
  have hu2 := List.getElem?_eq_getElem (l := xs[j / s]) (i := j % s) (by omega)
  have h3 := flat_at hl hx _ _ hu2
  have hj : j / s * s + j % s = j := by rw [Nat.mul_comm]; exact Nat.div_add_mod j s
  rw [hj, hu] at h3
  injection h3 with h3
  injection e with e
  injection e with e1 e2
  subst e1 e2
  have := hc _ _ hu2
  rw [hj, ← h3] at this
  have e4 : (⟨b, o, none⟩ : Addr).add j = ⟨b, o + j, none⟩ := by unfold Addr.add; split <;> first | rfl | simp_all
  rw [e4]
  exact this
theorem wp_appR {P : Program} {o : Oper} {a : Act} {K : Act → World → Prop} {Q : Exit → Act → World → Prop} {w : World} (s x : Operand) (t : TypeId)
    (ho : o.op = .call { callee := .builtin .append, args := #[s, x], argTypes := #[t, t] })
    (base : Nat) (e : TypeId) (i : TypeInfo) (z : Value) (size bytes : Nat) (ht : P.underlying t = some (.slice e)) (hi : P.info? e = some i) (hz : i.zero = some z)
    (hsize : i.size = size) (hby : i.bytes = bytes) (hzs : z.cells.size = size) (hsz : 0 < size)
    (v : Value) (n : Nat) (vs : List Value) (hs : a.eval s = v) (hown : w.ownsRow base e size v n vs)
    (ax : Option Addr) (m c : Nat) (els : List (List Value)) (hx : a.eval x = .slice ax m c) (hrow : Row size w ax els) (hm : els.length = m) (h1 : ∀ u ∈ els.flatten, u.oneCell' = true)
    (h63 : n + m ≤ maxLen) (hbytes : (n + m) * bytes ≤ 140737488355328) (hbase : base ≤ w.heap.size)
    (h : ∀ v' w', w'.ownsRow base e size v' (n + m) (vs ++ els.flatten) → Upd (fun k => v.ownBlock = some k) w w' → K (a.put o.dst v') w') : o.wp P a w K Q := by
  have hl : ∀ y ∈ els, y.length = size := fun y hy => by
    obtain ⟨i, hi⟩ := List.getElem?_of_mem hy
    exact (hrow i y hi).1
  cases ax with
  | none =>
    have he : els = [] := by
      match els, hrow with
      | [], _ => rfl
      | y :: l, hrow =>
        obtain ⟨_, b, f, e, _⟩ := hrow 0 y rfl
        cases e
    subst he
    have hm0 : m = 0 := by simpa using hm.symm
    subst hm0
    have hr := run_append_none' (P := P) (w := w) base t o.type e i size c ht hi v n vs hown
    exact Lib.wp_append_run w s x t t ho v _ hs hx v w hr (h v w (by simpa using hown) (Upd.refl _ _))
  | some ad =>
    have hnews : ∀ j u, els.flatten[j]? = some u → w.cell? (ad.add j) = some u := by
      match els, hrow with
      | [], _ => intro j u hu; simp at hu
      | y :: l, hrow =>
        obtain ⟨_, b, f, e, _⟩ := hrow 0 y rfl
        injection e with e
        subst e
        exact row_news hsz hrow
    obtain ⟨v', w', hr, g1, g2, _, _⟩ := run_append_own_at (P := P) w base t o.type e i z size bytes ht hi hz hsize hby hzs hsz v n vs hown ad m c els.flatten (by rw [flat_len hl, hm]) hnews h1 h63 hbytes hbase
    exact Lib.wp_append_run w s x t t ho v _ hs hx v' w' hr (h v' w' g1 (Upd.of_grown g2 (fun k hk => hk)))
theorem wpList_appR {P : Program} {ops : Array Oper} {rest : List Oper} {o : Oper} {a : Act} {Q : Exit → Act → World → Prop} {w : World} (hgd : o.guard = none) (s x : Operand) (t : TypeId)
    (ho : o.op = .call { callee := .builtin .append, args := #[s, x], argTypes := #[t, t] })
    (base : Nat) (e : TypeId) (i : TypeInfo) (z : Value) (size bytes : Nat) (ht : P.underlying t = some (.slice e)) (hi : P.info? e = some i) (hz : i.zero = some z)
    (hsize : i.size = size) (hby : i.bytes = bytes) (hzs : z.cells.size = size) (hsz : 0 < size)
    (v : Value) (n : Nat) (vs : List Value) (hs : a.eval s = v) (hown : w.ownsRow base e size v n vs)
    (ax : Option Addr) (m c : Nat) (els : List (List Value)) (hx : a.eval x = .slice ax m c) (hrow : Row size w ax els) (hm : els.length = m) (h1 : ∀ u ∈ els.flatten, u.oneCell' = true)
    (h63 : n + m ≤ maxLen) (hbytes : (n + m) * bytes ≤ 140737488355328) (hbase : base ≤ w.heap.size)
    (h : ∀ v' w', w'.ownsRow base e size v' (n + m) (vs ++ els.flatten) → Upd (fun k => v.ownBlock = some k) w w' → wpList P ops Q rest (a.put o.dst v') w') : wpList P ops Q (o :: rest) a w :=
  wpList_plain hgd fun _ hK => wp_appR s x t ho base e i z size bytes ht hi hz hsize hby hzs hsz v n vs hs hown ax m c els hx hrow hm h1 h63 hbytes hbase fun v' w' h2 h3 => hK _ _ (h v' w' h2 h3)
theorem own_empty (W : World) {B : Nat} (e : TypeId) (s : Nat) (hb : B ≤ W.heap.size) : (W.alloc (.cells #[] e)).ownsRow B e s (.slice (some ⟨W.heap.size, 0, none⟩) 0 0) 0 [] :=
  ⟨by simp, .inr ⟨W.heap.size, 0, _, rfl, hb, alloc_at rfl, Nat.le_refl _, by unfold maxLen; omega, by simp, by simp⟩⟩
end Go.Proofs.YtbonfdkgkcbkmaaGreat
end

section
namespace Go.Proofs.YtbonfdkgkcbkmaaGreat
set_option maxRecDepth 100000
open Go.RowKit Go.Shelf

theorem own_head {w : World} {B n c s : Nat} {e : TypeId} {a : Option Addr} {vs : List Value} (h : w.ownsRow B e s (.slice a n c) n vs) (hn : 0 < n) : ∃ g, a = some ⟨g, 0, none⟩ := by
  rcases h.2 with ⟨_, h2⟩ | ⟨g, cap, cur, h1, _⟩
  · omega
  · injection h1 with e1
    exact ⟨g, e1⟩
theorem Row.of_ownK {s : Nat} {w : World} {B : Nat} {e : TypeId} {a : Option Addr} {n c : Nat} {els : List (List Value)} (hs : 0 < s) (h : w.ownsRow B e s (.slice a n c) n els.flatten) (hl : ∀ y ∈ els, y.length = s) (hn : els.length = n) : Row s w a els := by
  intro i x hx
  have hi := (List.getElem?_eq_some_iff.1 hx).1
  obtain ⟨g, rfl⟩ := own_head h (by omega)
  refine ⟨hl x (List.mem_of_getElem? hx), g, 0, rfl, fun t u hu => ?_⟩
  have hb := flat_at hl hx t u hu
  obtain ⟨g2, e2, hc⟩ := row_cell h (by rw [flat_len hl, hn]) hb
  injection e2 with e2
  injection e2 with e2
  subst e2
  rw [Nat.zero_add]
  exact hc
end Go.Proofs.YtbonfdkgkcbkmaaGreat
end

section
namespace Go.Proofs.YtbonfdkgkcbkmaaGreat
set_option maxRecDepth 100000
open Go.RowKit Go.Shelf

theorem setCells_blk {b : Nat} {t : TypeId} : ∀ (vs : List Value) (o : Nat) (w : World) (cur : Array Value), w.heap[b]? = some (.cells cur t (0, 0)) →
    ∃ cur', (w.setCells b o vs).heap[b]? = some (.cells cur' t (0, 0)) ∧ cur'.size = cur.size ∧ (∀ j, j < o ∨ o + vs.length ≤ j → cur'[j]? = cur[j]?) ∧ ∀ j, o + j < cur.size → j < vs.length → cur'[o + j]? = vs[j]?
  | [], o, w, cur, h => ⟨cur, h, rfl, fun _ _ => rfl, fun j _ hj => by simp at hj⟩
  | v :: r, o, w, cur, h => by
    obtain ⟨cur', h1, h2, h3, h4⟩ := setCells_blk r (o + 1) _ _ (blk_set (i := o) (v := v) h)
    refine ⟨cur', h1, by rw [h2]; simp, fun j hj => ?_, fun j hj hl => ?_⟩
    · rw [h3 j (by simp at hj; omega)]
      rw [Array.getElem?_setIfInBounds]
      rw [if_neg (by simp at hj; omega)]
    · cases j with
      | zero =>
        rw [h3 (o + 0) (by omega), Array.getElem?_setIfInBounds, if_pos (by omega), if_pos (by simpa using hj)]
        rfl
      | succ j =>
        have := h4 j (by simp; omega) (by simpa using hl)
        rw [show o + (j + 1) = o + 1 + j by omega, this]
        rfl
theorem flat_getElem {s : Nat} (hs : 0 < s) : ∀ {xs : List (List Value)} (j : Nat), (∀ y ∈ xs, y.length = s) → xs.flatten[j]? = (xs[j / s]?).bind fun x => x[j % s]?
  | [], j, _ => by simp
  | y :: l, j, h => by
    have hy := h y (by simp)
    rw [List.flatten_cons]
    by_cases hj : j < s
    · rw [List.getElem?_append_left (by omega), Nat.div_eq_of_lt hj, Nat.mod_eq_of_lt hj]; rfl
    · have e1 : j / s = (j - s) / s + 1 := by rw [Nat.div_eq_sub_div hs (by omega)]
      have e2 : j % s = (j - s) % s := by rw [Nat.mod_eq_sub_mod (by omega)]
      rw [List.getElem?_append_right (by omega), hy, flat_getElem hs (j - s) (fun z hz => h z (by simp [hz])), e1, e2]
      rfl
theorem set_lens {s : Nat} {xs : List (List Value)} {i : Nat} {x : List Value} (h : ∀ y ∈ xs, y.length = s) (hx : x.length = s) : ∀ y ∈ xs.set i x, y.length = s := fun y hy => by
  rcases List.mem_or_eq_of_mem_set hy with h1 | h1
  · exact h y h1
  · rw [h1]; exact hx
/-- An element stored whole. -/
theorem own_setR {w : World} {B g n c s i : Nat} {e : TypeId} {els : List (List Value)} {x : List Value} (hs : 0 < s) (h : w.ownsRow B e s (.slice (some ⟨g, 0, none⟩) n c) n els.flatten) (hl : ∀ y ∈ els, y.length = s) (hn : els.length = n) (hx : x.length = s) (hi : i < n) :
    (w.setCells g (i * s) x).ownsRow B e s (.slice (some ⟨g, 0, none⟩) n c) n (els.set i x).flatten := by
  have hfl := flat_len hl
  have hl2 := set_lens (i := i) hl hx
  have hfl2 := flat_len hl2
  rcases h.2 with ⟨h1, _⟩ | ⟨g', cap, cur, h1, h2, h3, h4, h5, h6, h7⟩
  · cases h1
  · injection h1 with e1 _ e3
    injection e1 with e1
    injection e1 with e1
    subst e1 e3
    have hbig : n * s ≤ c * s := Nat.mul_le_mul_right s h4
    have his : i * s + s ≤ n * s := by rw [← Nat.succ_mul]; exact Nat.mul_le_mul_right s hi
    obtain ⟨cur', k1, k2, k3, k4⟩ := setCells_blk x (i * s) w cur h3
    refine ⟨by rw [hfl2]; simp [hn], .inr ⟨g, c, cur', rfl, h2, k1, h4, h5, by omega, ?_⟩⟩
    apply List.ext_getElem?
    intro j
    by_cases hj : j < n * s
    · rw [List.getElem?_take_of_lt hj, Array.getElem?_toList, flat_getElem hs j hl2]
      have hold : cur[j]? = (els[j / s]?).bind fun x => x[j % s]? := by
        rw [← flat_getElem hs j hl, ← h7, List.getElem?_take_of_lt hj, Array.getElem?_toList]
      have hdm : s * (j / s) + j % s = j := Nat.div_add_mod j s
      have hm : j % s < s := Nat.mod_lt _ hs
      by_cases e : j / s = i
      · have hj2 : j = i * s + j % s := by rw [← e, Nat.mul_comm]; exact hdm.symm
        rw [e, List.getElem?_set_self (by omega)]
        rw [hj2, k4 (j % s) (by omega) (by omega)]
        simp
      · rw [List.getElem?_set_ne (Ne.symm e), k3 j ?_, hold]
        rcases Nat.lt_or_ge (j / s) i with h8 | h8
        · left
          have : (j / s + 1) * s ≤ i * s := Nat.mul_le_mul_right s h8
          rw [Nat.succ_mul, Nat.mul_comm] at this
          omega
        · right
          have : (i + 1) * s ≤ j / s * s := Nat.mul_le_mul_right s (by omega)
          rw [Nat.succ_mul, Nat.mul_comm (j / s)] at this
          omega
    · rw [List.getElem?_eq_none (by simp; omega), List.getElem?_eq_none (by rw [hfl2]; simp [hn]; omega)]
end Go.Proofs.YtbonfdkgkcbkmaaGreat
end

section
namespace Go.Proofs.YtbonfdkgkcbkmaaGreat
set_option maxRecDepth 100000
open Go.RowKit Go.Shelf

attribute [local go_sem] Oper.semAt_some run_store_func
def subC (x : Int × Int) : List Value := [.int .i64 x.1, .int .i64 x.2]
abbrev OwnS (w : World) (B : Nat) (v : Value) (l : List (Int × Int)) : Prop := w.ownsRow B 124 2 v l.length (l.map subC).flatten
theorem mapS_lens (l : List (Int × Int)) : ∀ y ∈ l.map subC, y.length = 2 := fun y hy => by obtain ⟨r, _, rfl⟩ := List.mem_map.1 hy; rfl
theorem infoSub : (Tryz.prog.info? 124).map (fun i => (i.zero, i.size, i.bytes)) = some (some (.agg #[.int .i64 0, .int .i64 0]), 2, 16) := by kernel_rfl
/-- Subtasks with their numbers. -/
def numS (l : List (Int × Int)) : List (Int × (Int × Int)) := l.zipIdx.map fun x => ((x.2 : Int), x.1)
theorem numS_snoc (l : List (Int × Int)) (x : Int × Int) : numS (l ++ [x]) = numS l ++ [((l.length : Int), x)] := by
  simp [numS, List.zipIdx_append]
theorem numS_app (l m : List (Int × Int)) : ∃ r, numS (l ++ m) = numS l ++ r := by
  unfold numS
  rw [List.zipIdx_append, List.map_append]
  exact ⟨_, rfl⟩
theorem numS_fst (l : List (Int × Int)) : (numS l).map (·.2) = l := by
  unfold numS
  rw [List.map_map]
  exact List.zipIdx_map_fst 0 l
theorem numS_len (l : List (Int × Int)) : (numS l).length = l.length := by simp [numS]
theorem subs1_le (i : Nat) (o : OpM) (h : o.width ≤ 1000) : (subs1 i o).length ≤ 1000 := by rw [subs1_len]; omega
theorem subsF_le : ∀ (l : List OpM) (i : Nat), (∀ o ∈ l, o.width ≤ 1000) → (subsF i l).length ≤ 1000 * l.length
  | [], i, _ => by simp [subsF]
  | o :: l, i, h => by
    have h1 := subs1_le i o (h o (by simp))
    have h2 := subsF_le l (i + 1) (fun o ho => h o (by simp [ho]))
    rw [subsF, List.length_append, List.length_cons]
    omega
/-- Between the rounds of all. -/
structure AsAt (w : World) (bx : Nat) (pre : List (Int × (Int × Int))) (W : World) : Prop where
  out : ∃ a c, W.heap[bx]? = some (.cells #[.slice a pre.length c] 212 (0, 0)) ∧ W.ownsRow (bx + 1) 124 2 (.slice a pre.length c) pre.length ((pre.map (·.2)).map subC).flatten
  upd : Upd0 w W
  low : w.heap.size ≤ bx
def asB (bx : Nat) : Nat → TypeId → Prop := fun k t => (k = bx ∧ t = 212) ∨ (bx < k ∧ t = 124)
theorem AsAt.T {w W W' : World} {bx : Nat} {pre : List (Int × (Int × Int))} {Φ : Nat → TypeId → Prop} (h : AsAt w bx pre W) (hu : UpdT Φ W W') (hp : ∀ k t, Φ k t → w.heap.size ≤ k ∧ t ≠ 212 ∧ t ≠ 124) : AsAt w bx pre W' := by
  obtain ⟨a, c, h1, h2⟩ := h.out
  refine ⟨⟨a, c, hu.keep h1 (fun cs t fr e p => ?_), ownsRow_T h2 hu (fun k _ p => (hp _ _ p).2.2 rfl)⟩, Upd.step h.upd hu (fun k hk ⟨_, _, _, _, p⟩ => by have := (hp _ _ p).1; omega), h.low⟩
  injection e with _ e
  subst e
  exact (hp _ _ p).2.1 rfl
theorem AsAt.kept {w W W' : World} {bx : Nat} {pre : List (Int × (Int × Int))} (h : AsAt w bx pre W) (hu : Upd0 W W') : AsAt w bx pre W' :=
  h.T (Φ := fun _ _ => False) (UpdT.of0 hu) (fun _ _ p => p.elim)
theorem AsAt.put {w W : World} {bx : Nat} {pre : List (Int × (Int × Int))} (h : AsAt w bx pre W) {l : Nat} {o : Loop} {o' : Obj} (hl : w.heap.size ≤ l) (ho : W.heap[l]? = some (.loop o)) : AsAt w bx pre (W.putObj l o') := by
  obtain ⟨a, c, h1, h2⟩ := h.out
  exact ⟨⟨a, c, cells_put _ h1 rfl ho rfl, ownsRow_put h2 _ ho rfl⟩, h.upd.step (upd_put _) (fun k hk e => by omega), h.low⟩
theorem AsAt.more {w W w4 : World} {bx : Nat} {pre : List (Int × (Int × Int))} {z : Int × (Int × Int)} {a : Option Addr} {c g4 cap4 : Nat} {cs : Array Value} (h : AsAt w bx pre W) (h1 : W.heap[bx]? = some (.cells #[.slice a pre.length c] 212 (0, 0))) (h2 : W.ownsRow (bx + 1) 124 2 (.slice a pre.length c) pre.length ((pre.map (·.2)).map subC).flatten)
    (hown4 : w4.ownsRow (bx + 1) 124 2 (.slice (some ⟨g4, 0, none⟩) (pre.length + 1) cap4) (pre.length + 1) (((pre.map (·.2)).map subC).flatten ++ subC z.2)) (hgrow : (W.alloc (.cells cs 124)).grownBy w4 (Value.slice a pre.length c).ownBlock) :
    AsAt w bx (pre ++ [z]) (w4.setCell ⟨bx, 0, none⟩ (.slice (some ⟨g4, 0, none⟩) (pre.length + 1) cap4)) ∧ UpdT (asB bx) W (w4.setCell ⟨bx, 0, none⟩ (.slice (some ⟨g4, 0, none⟩) (pre.length + 1) cap4)) := by
  have hv : ∀ q, (Value.slice a pre.length c).ownBlock = some q → bx + 1 ≤ q := fun q hq => (World.ownsRow.lt h2 q hq).1
  have hbx : w4.heap[bx]? = some (.cells #[.slice a pre.length c] 212 (0, 0)) :=
    (hgrow.block _ (by simp; have := lt_of_heap h1; omega) (fun e => by have := (World.ownsRow.lt h2 _ e.symm).1; omega)).trans ((alloc_lt (lt_of_heap h1)).trans h1)
  have hg4 : bx + 1 ≤ g4 := (World.ownsRow.lt hown4 g4 rfl).1
  have hua : Upd (fun q => (Value.slice a pre.length c).ownBlock = some q) W w4 := ((Upd.refl _ W).alloc _).trans (Upd.of_grown hgrow (fun q hq => hq))
  have hub : Upd (fun q => (Value.slice a pre.length c).ownBlock = some q ∨ q = bx) W (w4.setCell ⟨bx, 0, none⟩ (.slice (some ⟨g4, 0, none⟩) (pre.length + 1) cap4)) :=
    (hua.mono (fun _ _ e => .inl e)).trans ((upd_own w4 bx 0 _).mono (fun _ _ e => .inr e))
  have hut : UpdT (asB bx) W (w4.setCell ⟨bx, 0, none⟩ (.slice (some ⟨g4, 0, none⟩) (pre.length + 1) cap4)) := hub.mono (fun q hq e => by
    rcases e with e | e
    · obtain ⟨cur, hcur⟩ := ownsRow_at h2 e
      exact ⟨_, _, _, hcur, .inr ⟨by have := hv q e; omega, rfl⟩⟩
    · subst e
      exact ⟨_, _, _, h1, .inl ⟨rfl, rfl⟩⟩)
  have hlow := h.low
  refine ⟨⟨⟨some ⟨g4, 0, none⟩, cap4, ?_, ?_⟩, Upd.step h.upd hut (fun q hq ⟨_, _, _, _, p⟩ => by rcases p with ⟨p, _⟩ | ⟨p, _⟩ <;> omega), h.low⟩, hut⟩
  · have := blk_set (i := 0) (v := .slice (some ⟨g4, 0, none⟩) (pre.length + 1) cap4) hbx
    rw [List.length_append]
    simpa using this
  · rw [List.map_append, List.map_append, List.flatten_append, List.length_append]
    have e1 : (([z].map (·.2)).map subC).flatten = subC z.2 := by simp
    rw [e1]
    exact ownsRow_heap hown4 (fun q hq => by
      simp only [Value.ownBlock, Option.some.injEq] at hq
      exact set_ne (by show q ≠ bx; omega))
set_option maxHeartbeats 8000000 in
theorem allS_any {oa : Option Addr} {os : List OpM} {oc : Nat} (w : World) (h : OpsIn w oa os) (hlo : os.length ≤ 50) (hwd : ∀ o ∈ os, 0 ≤ o.width ∧ o.width ≤ 1000) :
    Calls Tryz.prog 230 #[.agg #[.slice oa os.length oc]] w fun e w' => ∃ a c, e = .returned (.slice a (subsL os).length c) ∧ OwnS w' w.heap.size (.slice a (subsL os).length c) (subsL os) ∧ Upd0 w w' := by
  obtain ⟨gb, hgb⟩ : ∃ gb, gb = w.heap.size := ⟨_, rfl⟩
  obtain ⟨w3, hw3⟩ : ∃ w3, w3 = (w.alloc (.cells #[.slice oa os.length oc] 24)).alloc (.cells #[.slice none 0 0] 212) := ⟨_, rfl⟩
  have hu3 : Upd0 w w3 := by rw [hw3]; exact ((Upd.refl _ w).alloc _).alloc _
  have hb0 : w3.heap[gb]? = some (.cells #[.slice oa os.length oc] 24 (0, 0)) := by rw [hw3, hgb]; exact (alloc_lt (by simp)).trans (alloc_at rfl)
  have hb2 : w3.heap[gb + 1]? = some (.cells #[.slice none 0 0] 212 (0, 0)) := by rw [hw3, hgb]; exact alloc_at (by simp)
  have hz3 : w3.heap.size = gb + 2 := by rw [hw3, hgb]; simp
  have HAL := Lib.hid (subs_any (oa := oa) (os := os.length) (oc := oc) w3)
  have HW := Lib.hid h; have HWD := Lib.hid hwd; have HU3 := Lib.hid hu3; have H0 := Lib.hid hb0; have H2 := Lib.hid hb2; have HZ3 := Lib.hid hz3; have HGB := Lib.hid hgb
  have HLE := Lib.hid (show (subsL os).length ≤ 50000 by have := subsF_le os 0 (fun o ho => (hwd o ho).2); unfold subsL; omega)
  have c0 := cells1_of hb0
  clear h hwd hu3 hb0 hb2 hz3
  refine (callsIn_wide (n := 5)).1 ?_
  refine callsIn_of_wp_marks Tryz.func230 rfl trivial ?_ rfl
  simp only [Tryz.ntmps230, List.size_toArray, List.length_cons, List.length_nil, Nat.reduceAdd, Nat.reduceSub, Array.replicate_succ, Array.replicate_zero, List.push_toArray, List.append_toArray, List.nil_append, List.cons_append]
  gi_upto_region 2 with fail
  rw [← hw3]
  try simp only [Nat.add_assoc, Nat.reduceAdd]
  rw [← hgb]
  clear hw3 hgb
  gi_wp2_with (gi_at_call 299; fail)
  refine ⟨trivial, callsIn_wide.2 (HAL.out.mono ?_)⟩
  rintro e w5 ⟨rfl, hw5⟩
  clear HAL c0
  simp only []
  gi_wp2
  have hu5 : Upd0 w3 w5 := by rw [hw5]; exact (Upd.refl _ w3).alloc _
  have hb5 : w5.heap[gb + 2]? = some (.cells #[.slice oa os.length oc] 24 (0, 0)) := by rw [hw5]; exact alloc_at HZ3.out.symm
  have HZ5 := Lib.hid (show w5.heap.size = gb + 3 by rw [hw5]; simp [HZ3.out])
  have HB5 := Lib.hid hb5
  have HU5 := Lib.hid (HU3.out.trans hu5)
  have HAT := Lib.hid (show AsAt w (gb + 1) [] w5 from ⟨⟨none, 0, (hu5.block _ (lt_of_heap H2.out) (fun e => e)).trans H2.out, World.ownsRow_nil _ _ _ _⟩, HU3.out.trans hu5, by have := HGB.out; omega⟩)
  clear hw5 hu5 hb5
  refine wpIn_rangeFunc_T (α := Int × (Int × Int)) (encs := fun z => #[.int .i64 z.1, .agg #[.int .i64 z.2.1, .int .i64 z.2.2]]) rfl (by omega) (gf := 344) (lb := #[.pointer (some ⟨w3.heap.size, 0, none⟩)]) rfl trivial (fun _ _ => rfl) (fun _ => rfl) (fun _ _ => False) (asB (gb + 1)) (fun pre x' => ∃ rest, numS (subsL os) = (pre ++ [x']) ++ rest) (fun ks _ => ks = numS (subsL os)) (AsAt w (gb + 1)) (fun _ _ => False)
    ?hIU ?hIP (fun _ _ _ _ e => e.elim) (fun _ _ _ _ _ e => e.elim) HAT.out (fun _ _ _ _ _ e _ _ => e) ?hseq (fun z a' W => ∃ rb, W.heap[rb]? = some (.cells #[.int .i64 z.2.1, .int .i64 z.2.2] 124 (0, 0)) ∧ a' = { tmps := #[.agg #[.slice oa os.length oc], .pointer (some ⟨gb, 0, none⟩), .slice none 0 0, .pointer (some ⟨gb + 1, 0, none⟩), undef, .pointer (some ⟨rb, 0, none⟩), .agg #[.slice oa os.length oc], .func (.func 344) #[] #[.pointer (some ⟨w3.heap.size, 0, none⟩)], .int .i64 z.1, .agg #[.int .i64 z.2.1, .int .i64 z.2.2], undef, undef, undef, undef, undef], defers := [] }) ?hAP ?hassign ?hbody ?hdone (fun _ _ e => e.elim)
  case hIU =>
    rintro pre W W' hs h hu
    exact h.T hu (fun _ _ p => p.elim)
  case hIP =>
    rintro pre W l o o' h hl ho
    exact h.put (by have := HZ5.out; have := HGB.out; omega) ho
  case hseq =>
    intro l J Jx W h0 hu hJ hJx hY
    have hz := HZ5.out
    have hz3 := HZ3.out
    rw [hz3]
    have key := subs1_any (B := gb + 3) (gb := gb + 2) (Φb := asB (gb + 1)) (oa := oa) (oc := oc) (os := os) (fun W => Upd0 w W ∧ W.heap[gb + 2]? = some (.cells #[.slice oa os.length oc] 24 (0, 0)) ∧ gb + 3 ≤ W.heap.size) (fun W hW => ⟨HW.out.kept hW.1, hW.2.1, hW.2.2⟩)
      (fun W W' hW hu' => ⟨hW.1.trans hu', (hu'.block _ (lt_of_heap hW.2.1) (fun e => e)).trans hW.2.1, Nat.le_trans hW.2.2 hu'.size⟩) (by omega) HWD.out
      (fun W W' hW hu' => ⟨Upd.step hW.1 hu' (fun k hk ⟨_, _, _, _, p⟩ => by have := HGB.out; rcases p with ⟨p, _⟩ | ⟨p, _⟩ <;> omega), hu'.keep hW.2.1 (fun cs t fr e p => by injection e with _ e; subst e; rcases p with ⟨_, p⟩ | ⟨_, p⟩ <;> exact absurd p (by decide)), Nat.le_trans hW.2.2 hu'.size⟩)
      l (fun pre W => J (numS pre) W) Jx W ⟨HU5.out.trans hu, (hu.block _ (lt_of_heap HB5.out) (fun e => e)).trans HB5.out, by have := hu.size; omega⟩ h0 (fun pre W W' hs hj hu' => hJ (numS pre) W W' (by omega) hj (UpdT.of0 hu'))
      (fun pre x W1 hg hj hp => by
        rw [numS_snoc]
        exact hY (numS pre) ((pre.length : Int), x) W1 (by have := hg.2.2; omega) hj (by
          obtain ⟨rest, hr⟩ := hp
          obtain ⟨r, hr2⟩ := numS_app (pre ++ [x]) rest
          exact ⟨r, by rw [hr, hr2, numS_snoc]⟩))
    refine key.mono ?_
    rintro e W' ⟨h1, ⟨ks, rfl, hk⟩ | hk⟩
    · exact ⟨h1, .inl ⟨_, rfl, hk⟩⟩
    · exact ⟨h1, .inr hk⟩
  case hAP =>
    rintro z a' W l o o' ⟨rb, h1, h2⟩ hl ho
    exact ⟨rb, cells_put o' h1 rfl ho rfl, h2⟩
  case hassign =>
    intro l z W K _ hK
    have HK := Lib.hid hK
    clear hK
    gi_wp2
    exact HK.out _ _ ((Upd.refl _ W).alloc _) ⟨W.heap.size, alloc_at rfl, rfl⟩
  case hbody =>
    rintro l pre z a' W r hl hs hi ⟨rest, hpl⟩ ⟨rb, h5, rfl⟩ hlr
    have hple : pre.length < 50000 := by
      have h1 := congrArg List.length hpl
      have h2 := HLE.out
      rw [numS_len] at h1
      simp only [List.length_append, List.length_cons, List.length_nil] at h1
      omega
    have HI := Lib.hid hi
    obtain ⟨a, c, h1, h2⟩ := hi.out
    obtain ⟨r0, r1⟩ := cells2_of h5
    have x0 := cells1_of h1
    have H1' := Lib.hid h1; have H2' := Lib.hid h2
    have hbl := lt_of_heap h1
    have HSZ := Lib.hid (show gb + 1 + 1 ≤ W.heap.size by omega)
    clear hi h1 h2 hpl hlr h5
    gi_wp2_with (gi_at_builtin; obtain ⟨i0, hi0, hz0, hz1, hz2⟩ := info_parts infoSub; refine wpListIn_append_own _ rfl (.tmp 10) (.tmp 12) 212 rfl (gb + 1 + 1) 124 i0 (.agg #[.int .i64 0, .int .i64 0]) 2 16 Tryz.underlying212 hi0 hz0 hz1 hz2 rfl (by omega) (.slice a pre.length c) pre.length (((pre.map (·.2)).map subC).flatten) rfl (H2'.out.alloc _) ⟨W.heap.size, 0, none⟩ 1 1 [.int .i64 z.2.1, .int .i64 z.2.2] rfl rfl (World.news_of_block (cs := #[.int .i64 z.2.1, .int .i64 z.2.2]) (alloc_at rfl)) (by simp [Value.oneCell']) (by unfold maxLen; omega) (by omega) (by simp; have := HSZ.out; omega) ?_; clear hi0 hz0 hz1 hz2; intro v' w4 hown4 hgrow _; obtain ⟨g4, cap4, rfl⟩ := ownsRow_succ hown4; have HM := Lib.hid (AsAt.more (z := z) HI.out H1'.out H2'.out hown4 hgrow); have hbx4 : w4.heap[gb + 1]? = some (.cells #[.slice a pre.length c] 212 (0, 0)) := (hgrow.block _ (by simp; omega) (fun e => by have := (World.ownsRow.lt H2'.out _ e.symm).1; omega)).trans ((alloc_lt hbl).trans H1'.out); have c4' := cells1_of hbx4; have f4' : w4.frozen? ⟨gb + 1, 0, none⟩ = false := frozen_of_heap hbx4; clear hown4 hgrow hbx4)
    exact ⟨HM.out.1, HM.out.2⟩
  case hdone =>
    rintro ks W hS h hD
    subst hS
    obtain ⟨a, c, h1, h2⟩ := h.out
    rw [numS_len] at h1 h2
    rw [numS_fst] at h2
    have x0 := cells1_of h1
    have H2' := Lib.hid h2; have HD := Lib.hid hD; have HUW := Lib.hid h.upd
    clear h1 h2 hD h
    gi_wp2
    have hz := HZ5.out; have hgb := HGB.out
    refine ⟨by simp, .inl ⟨_, _, rfl, run_takeDeferred HD.out, ?_⟩⟩
    refine ⟨_, results_tmp rfl _ _ _, a, c, rfl, ownsRow_low (ownsRow_put H2'.out _ HD.out rfl) (by omega), ?_⟩
    exact HUW.out.step (upd_put _) (fun q hq e => by omega)
end Go.Proofs.YtbonfdkgkcbkmaaGreat
end

section
namespace Go.Proofs.YtbonfdkgkcbkmaaGreat
set_option maxRecDepth 100000
open Go.RowKit Go.Shelf

attribute [local go_sem] Oper.semAt_some run_store_func
/-- The subtask of a number. -/
def subP (l : List (Int × Int)) (n : Int) : (Int × Int) × Int := if n < 0 then ((0, 0), 2) else match l[n.toNat]? with
  | some s => (s, 0)
  | none => ((0, 0), 2)
def subR (os : List OpM) (n : Int) : (Int × Int) × Int := subP (subsL os) n
theorem OwnS.in' {w : World} {B : Nat} {a : Option Addr} {c : Nat} {l : List (Int × Int)} (h : OwnS w B (.slice a l.length c) l) : Row 2 w a (l.map subC) := Row.of_ownK (by omega) h (mapS_lens l) (by simp)
theorem subAt {w : World} {a : Option Addr} {l : List (Int × Int)} (h : Row 2 w a (l.map subC)) {i : Nat} {x : Int × Int} (hi : l[i]? = some x) : ∃ b f, a = some ⟨b, f, none⟩ ∧ w.cell? ⟨b, f + i * 2, none⟩ = some (.int .i64 x.1) ∧ w.cell? ⟨b, f + i * 2 + 1, none⟩ = some (.int .i64 x.2) := by
  obtain ⟨_, b, f, e, hc⟩ := h i (subC x) (by rw [List.getElem?_map, hi]; rfl)
  have h0 := hc 0 _ rfl
  have h1 := hc 1 _ rfl
  simp only [Nat.add_zero, ← Nat.add_assoc] at h0 h1
  exact ⟨b, f, e, h0, h1⟩
theorem sizeSub : (Tryz.prog.info? 124).map (·.size) = some 2 := by kernel_rfl
theorem loadSub {W : World} {t : Nat} {u v : Value} (h : W.heap[t]? = some (.cells #[u, v] 124 (0, 0))) : (loadVar 124 ⟨t, 0, none⟩).run Tryz.prog W = .ok (.agg #[u, v]) W :=
  run_loadVar_mid (P := Tryz.prog) _ t 0 124 [_, _] _ (rangeAt_block h) Tryz.underlying124 rfl sizeSub
set_option maxHeartbeats 4000000 in
theorem sub_any {oa : Option Addr} {os : List OpM} {oc : Nat} (n : Int) (w : World) (h : OpsIn w oa os) (hlo : os.length ≤ 50) (hwd : ∀ o ∈ os, 0 ≤ o.width ∧ o.width ≤ 1000) :
    Calls Tryz.prog 173 #[.agg #[.slice oa os.length oc], .int .i64 n] w fun e w' => e = .returned (.tuple #[.agg #[.int .i64 (subR os n).1.1, .int .i64 (subR os n).1.2], .int .i64 (subR os n).2]) ∧ Upd0 w w' := by
  obtain ⟨b, hb⟩ : ∃ b, b = w.heap.size := ⟨_, rfl⟩
  obtain ⟨w1, hw1⟩ : ∃ w1, w1 = (w.alloc (.cells #[.slice oa os.length oc] 24)).alloc (.cells #[.int .i64 0, .int .i64 0] 124) := ⟨_, rfl⟩
  have hu1 : Upd0 w w1 := by rw [hw1]; exact ((Upd.refl _ w).alloc _).alloc _
  have hb0 : w1.heap[b]? = some (.cells #[.slice oa os.length oc] 24 (0, 0)) := by rw [hw1, hb]; exact (alloc_lt (by simp)).trans (alloc_at rfl)
  have HO := Lib.hid (show w1.heap[b + 1]? = some (.cells #[.int .i64 0, .int .i64 0] 124 (0, 0)) by rw [hw1, hb]; exact alloc_at (by simp))
  have HA := Lib.hid (allS_any (oc := oc) w1 (h.kept hu1) hlo hwd)
  have HU := Lib.hid hu1; have HB := Lib.hid hb
  obtain ⟨sl, hsl⟩ : ∃ sl, sl = subsL os := ⟨_, rfl⟩
  have HLE := Lib.hid (show sl.length ≤ 50000 by have := subsF_le os 0 (fun o ho => (hwd o ho).2); rw [hsl]; unfold subsL; omega)
  rw [← hsl] at HA
  have HR := Lib.hid (show subR os n = subP sl n by rw [hsl]; rfl)
  obtain ⟨rr, hrr⟩ : ∃ rr, rr = subR os n := ⟨_, rfl⟩
  rw [← hrr] at HR ⊢
  have c0 := cells1_of hb0
  clear h hwd hu1 hb0 hsl hrr
  go_enter Tryz.func173, Tryz.ntmps173
  go_wp2_with (go_at_call 230; fail)
  rw [← hw1, ← hb]
  clear hw1 hb
  (with_reducible refine HA.out.mono ?_)
  rintro _ w2 ⟨a2, c2, rfl, ho2, hu2⟩
  have HS2 := Lib.hid (OwnS.in' ho2)
  have HU2 := Lib.hid (HU.out.trans hu2)
  have HO2 := Lib.hid ((hu2.block _ (lt_of_heap HO.out) (fun e => e)).trans HO.out)
  obtain ⟨o0, o1⟩ := cells2_of HO2.out
  have of0 : w2.frozen? ⟨b + 1, 0, none⟩ = false := frozen_of_heap HO2.out
  have of1 : w2.frozen? ⟨b + 1, 1, none⟩ = false := frozen_of_heap HO2.out
  have hle := HLE.out
  clear ho2 hu2 HA c0 HO
  simp only []
  by_cases h0 : n < 0
  · go_wp2
    have hp := blk_set (i := 1) (v := .int .i64 0) (blk_set (i := 0) (v := .int .i64 0) HO2.out)
    refine bodyPost_ret (results_ct (fn := Tryz.f173) rfl rfl (loadSub (by simpa using hp))) rfl ⟨?_, (HU2.out.cut (upd_own _ _ _ _) (fun q hq => by have := HB.out; omega)).cut (upd_own _ _ _ _) (fun q hq => by have := HB.out; omega)⟩
    rw [HR.out, subP, if_pos h0]; rfl
  · obtain ⟨k, rfl⟩ : ∃ k : Nat, n = k := ⟨n.toNat, by omega⟩
    by_cases h1 : k < sl.length
    · obtain ⟨x, hx⟩ : ∃ x, sl[k]? = some x := ⟨_, List.getElem?_eq_getElem h1⟩
      obtain ⟨sb, sf, rfl, s0, s1⟩ := subAt HS2.out hx
      have HX := Lib.hid hx
      clear hx
      go_wp2
      have hp := blk_set (i := 1) (v := .int .i64 x.2) (blk_set (i := 0) (v := .int .i64 x.1) HO2.out)
      refine bodyPost_ret (results_ct (fn := Tryz.f173) rfl rfl (loadSub (by simpa using hp))) rfl ⟨?_, (HU2.out.cut (upd_own _ _ _ _) (fun q hq => by have := HB.out; omega)).cut (upd_own _ _ _ _) (fun q hq => by have := HB.out; omega)⟩
      rw [HR.out, subP, if_neg (by omega)]
      simp [HX.out]
    · have h1' : (sl.length : Int) ≤ k := by omega
      go_wp2
      have hp := blk_set (i := 1) (v := .int .i64 0) (blk_set (i := 0) (v := .int .i64 0) HO2.out)
      refine bodyPost_ret (results_ct (fn := Tryz.f173) rfl rfl (loadSub (by simpa using hp))) rfl ⟨?_, (HU2.out.cut (upd_own _ _ _ _) (fun q hq => by have := HB.out; omega)).cut (upd_own _ _ _ _) (fun q hq => by have := HB.out; omega)⟩
      rw [HR.out, subP, if_neg (by omega)]
      have e : sl[k]? = none := List.getElem?_eq_none (by omega)
      simp [e]
set_option maxHeartbeats 4000000 in
/-- What is asked of a graph: nothing, with its error, where it may not be; else what the function answers. -/
theorem askedB_any {oa : Option Addr} {os : List OpM} {oc g : Nat} {lb : Array Value} {R : Value → Int → World → Prop} (w : World) (h : OpsIn w oa os) (hol : os.length ≤ 50) (hoc : os.length ≤ oc) (hom : oc ≤ maxLen) (eg : ∀ args w, (callFunc g args).run Tryz.prog w = .ok (.enter g args) w)
    (hR0 : (chkG os).2 ≠ 0 → ∀ W, Upd0 w W → R (.bool false) (chkG os).2 W)
    (hc : (chkG os).2 = 0 → ∀ W, Upd0 w W → Calls Tryz.prog g lb W fun e W' => ∃ v E, e = .returned (.tuple #[v, .int .i64 E]) ∧ R v E W') :
    Calls Tryz.prog 92 #[.agg #[.slice oa os.length oc], .func (.func g) #[] lb] w fun e w' => ∃ v E, e = .returned (.tuple #[v, .int .i64 E]) ∧ R v E w' := by
  obtain ⟨w1, hw1⟩ : ∃ w1, w1 = w.alloc (.cells #[.slice oa os.length oc] 24) := ⟨_, rfl⟩
  have hu1 : Upd0 w w1 := by rw [hw1]; exact (Upd.refl _ w).alloc _
  have HX := Lib.hid (show w1.heap[w.heap.size]? = some (.cells #[.slice oa os.length oc] 24 (0, 0)) by rw [hw1]; exact alloc_at rfl)
  have HCK := Lib.hid (gcheck_any (oc := oc) w1 (h.kept hu1) (by omega) hoc hom)
  obtain ⟨ck, hck⟩ : ∃ ck, ck = chkG os := ⟨_, rfl⟩
  rw [← hck] at HCK hR0 hc
  obtain ⟨c1, c2⟩ := ck
  simp only at hR0 hc
  have HU := Lib.hid hu1; have HR0 := Lib.hid hR0; have HC := Lib.hid hc
  have c0 := cells1_of HX.out
  clear h hck hu1 hR0 hc
  go_enter Tryz.func92, Tryz.ntmps92
  go_wp2_with (go_at_call 82; fail)
  rw [← hw1]
  clear hw1
  (with_reducible refine HCK.out.mono ?_)
  rintro _ w2 ⟨rfl, hu2⟩
  have HU2 := Lib.hid (HU.out.trans hu2)
  clear hu2 HCK c0
  simp only []
  by_cases he : c2 = 0
  · subst he
    have HC2 := Lib.hid (HC.out rfl w2 HU2.out)
    clear HC HR0
    go_wp2_with (fail)
    (with_reducible refine HC2.out.mono ?_)
    rintro _ w3 ⟨v, E, rfl, hr⟩
    have HR := Lib.hid hr
    clear hr HC2
    simp only []
    go_wp2
    go_ret2
    exact ⟨v, E, rfl, HR.out⟩
  · go_wp2
    go_ret2
    exact ⟨_, c2, rfl, HR0.out he w2 HU2.out⟩
set_option maxHeartbeats 4000000 in
/-- What is asked of a graph: nothing, with its error, where it may not be; else what the function answers. -/
theorem askedI_any {oa : Option Addr} {os : List OpM} {oc g : Nat} {lb : Array Value} {R : Value → Int → World → Prop} (w : World) (h : OpsIn w oa os) (hol : os.length ≤ 50) (hoc : os.length ≤ oc) (hom : oc ≤ maxLen) (eg : ∀ args w, (callFunc g args).run Tryz.prog w = .ok (.enter g args) w)
    (hR0 : (chkG os).2 ≠ 0 → ∀ W, Upd0 w W → R (.slice none 0 0) (chkG os).2 W)
    (hc : (chkG os).2 = 0 → ∀ W, Upd0 w W → Calls Tryz.prog g lb W fun e W' => ∃ v E, e = .returned (.tuple #[v, .int .i64 E]) ∧ R v E W') :
    Calls Tryz.prog 174 #[.agg #[.slice oa os.length oc], .func (.func g) #[] lb] w fun e w' => ∃ v E, e = .returned (.tuple #[v, .int .i64 E]) ∧ R v E w' := by
  obtain ⟨w1, hw1⟩ : ∃ w1, w1 = w.alloc (.cells #[.slice oa os.length oc] 24) := ⟨_, rfl⟩
  have hu1 : Upd0 w w1 := by rw [hw1]; exact (Upd.refl _ w).alloc _
  have HX := Lib.hid (show w1.heap[w.heap.size]? = some (.cells #[.slice oa os.length oc] 24 (0, 0)) by rw [hw1]; exact alloc_at rfl)
  have HCK := Lib.hid (gcheck_any (oc := oc) w1 (h.kept hu1) (by omega) hoc hom)
  obtain ⟨ck, hck⟩ : ∃ ck, ck = chkG os := ⟨_, rfl⟩
  rw [← hck] at HCK hR0 hc
  obtain ⟨c1, c2⟩ := ck
  simp only at hR0 hc
  have HU := Lib.hid hu1; have HR0 := Lib.hid hR0; have HC := Lib.hid hc
  have c0 := cells1_of HX.out
  clear h hck hu1 hR0 hc
  go_enter Tryz.func174, Tryz.ntmps174
  go_wp2_with (go_at_call 82; fail)
  rw [← hw1]
  clear hw1
  (with_reducible refine HCK.out.mono ?_)
  rintro _ w2 ⟨rfl, hu2⟩
  have HU2 := Lib.hid (HU.out.trans hu2)
  clear hu2 HCK c0
  simp only []
  by_cases he : c2 = 0
  · subst he
    have HC2 := Lib.hid (HC.out rfl w2 HU2.out)
    clear HC HR0
    go_wp2_with (fail)
    (with_reducible refine HC2.out.mono ?_)
    rintro _ w3 ⟨v, E, rfl, hr⟩
    have HR := Lib.hid hr
    clear hr HC2
    simp only []
    go_wp2
    go_ret2
    exact ⟨v, E, rfl, HR.out⟩
  · go_wp2
    go_ret2
    exact ⟨_, c2, rfl, HR0.out he w2 HU2.out⟩
set_option maxHeartbeats 4000000 in
/-- What is asked of a graph: nothing, with its error, where it may not be; else what the function answers. -/
theorem askedS_any {oa : Option Addr} {os : List OpM} {oc g : Nat} {lb : Array Value} {R : Value → Int → World → Prop} (w : World) (h : OpsIn w oa os) (hol : os.length ≤ 50) (hoc : os.length ≤ oc) (hom : oc ≤ maxLen) (eg : ∀ args w, (callFunc g args).run Tryz.prog w = .ok (.enter g args) w)
    (hR0 : (chkG os).2 ≠ 0 → ∀ W, Upd0 w W → R (.slice none 0 0) (chkG os).2 W)
    (hc : (chkG os).2 = 0 → ∀ W, Upd0 w W → Calls Tryz.prog g lb W fun e W' => ∃ v E, e = .returned (.tuple #[v, .int .i64 E]) ∧ R v E W') :
    Calls Tryz.prog 228 #[.agg #[.slice oa os.length oc], .func (.func g) #[] lb] w fun e w' => ∃ v E, e = .returned (.tuple #[v, .int .i64 E]) ∧ R v E w' := by
  obtain ⟨w1, hw1⟩ : ∃ w1, w1 = w.alloc (.cells #[.slice oa os.length oc] 24) := ⟨_, rfl⟩
  have hu1 : Upd0 w w1 := by rw [hw1]; exact (Upd.refl _ w).alloc _
  have HX := Lib.hid (show w1.heap[w.heap.size]? = some (.cells #[.slice oa os.length oc] 24 (0, 0)) by rw [hw1]; exact alloc_at rfl)
  have HCK := Lib.hid (gcheck_any (oc := oc) w1 (h.kept hu1) (by omega) hoc hom)
  obtain ⟨ck, hck⟩ : ∃ ck, ck = chkG os := ⟨_, rfl⟩
  rw [← hck] at HCK hR0 hc
  obtain ⟨c1, c2⟩ := ck
  simp only at hR0 hc
  have HU := Lib.hid hu1; have HR0 := Lib.hid hR0; have HC := Lib.hid hc
  have c0 := cells1_of HX.out
  clear h hck hu1 hR0 hc
  go_enter Tryz.func228, Tryz.ntmps228
  go_wp2_with (go_at_call 82; fail)
  rw [← hw1]
  clear hw1
  (with_reducible refine HCK.out.mono ?_)
  rintro _ w2 ⟨rfl, hu2⟩
  have HU2 := Lib.hid (HU.out.trans hu2)
  clear hu2 HCK c0
  simp only []
  by_cases he : c2 = 0
  · subst he
    have HC2 := Lib.hid (HC.out rfl w2 HU2.out)
    clear HC HR0
    go_wp2_with (fail)
    (with_reducible refine HC2.out.mono ?_)
    rintro _ w3 ⟨v, E, rfl, hr⟩
    have HR := Lib.hid hr
    clear hr HC2
    simp only []
    go_wp2
    go_ret2
    exact ⟨v, E, rfl, HR.out⟩
  · go_wp2
    go_ret2
    exact ⟨_, c2, rfl, HR0.out he w2 HU2.out⟩
end Go.Proofs.YtbonfdkgkcbkmaaGreat
end

section
namespace Go.Proofs.YtbonfdkgkcbkmaaGreat
set_option maxRecDepth 100000
set_option maxRecDepth 100000
open Go.RowKit Go.Shelf

attribute [local go_sem] Oper.semAt_some
end Go.Proofs.YtbonfdkgkcbkmaaGreat
end

section
namespace Go.Proofs.YtbonfdkgkcbkmaaGreat
set_option maxRecDepth 100000
set_option maxRecDepth 100000
open Go.RowKit Go.Shelf

attribute [local go_sem] Oper.semAt_some
end Go.Proofs.YtbonfdkgkcbkmaaGreat
end

section
namespace Go.Proofs.YtbonfdkgkcbkmaaGreat
set_option maxRecDepth 100000
set_option maxRecDepth 100000
open Go.RowKit

/-! ### A graph that may be -/
theorem chkWrong_each {os : List OpM} : ∀ (r : List OpM) (k : Nat) (wide : Int), os.drop k = r → chkWrong os k r wide = none → ∀ (i : Nat) (o : OpM), k ≤ i → os[i]? = some o → ∃ wd, wrongI os i o wd = 0
  | [], k, wide, hd, _, i, o, hk, hi => by
    have := congrArg List.length hd
    have h2 := (List.getElem?_eq_some_iff.1 hi).1
    simp at this
    omega
  | x :: r, k, wide, hd, h, i, o, hk, hi => by
    have ho : os[k]? = some x := by
      have := congrArg (·[0]?) hd
      simpa using this
    have hd2 : os.drop (k + 1) = r := by
      rw [drop_cons' ho] at hd
      injection hd
    unfold chkWrong at h
    split at h
    · cases h
    · rename_i h0
      by_cases e : i = k
      · subst e
        rw [ho] at hi
        injection hi with hi
        subst hi
        exact ⟨_, Classical.byContradiction h0⟩
      · exact chkWrong_each r (k + 1) _ hd2 h i o (by omega) hi
theorem chkG_each {os : List OpM} (h : (chkG os).2 = 0) : ∀ (i : Nat) (o : OpM), os[i]? = some o → ∃ wd, wrongI os i o wd = 0 := by
  unfold chkG at h
  split at h
  · simp at h
  · cases hc : chkWrong os 0 os 0 with
    | none => exact fun i o => chkWrong_each os 0 0 rfl hc i o (Nat.zero_le _)
    | some z =>
      rw [hc] at h
      exact absurd h (chkWrong_bad _ _ _ _ hc)
theorem wrongI_parts {os : List OpM} {i : Nat} {o : OpM} {wd : Int} (h : wrongI os i o wd = 0) : o.alone i = true ∧ (o.tag = 1 → dupB os i o = false) := by
  unfold wrongI at h
  split at h
  · omega
  · rename_i h1
    simp only [Bool.or_eq_true, Bool.not_eq_true', Bool.and_eq_true, not_or] at h1
    refine ⟨by cases ha : o.alone i <;> simp_all, fun ht => ?_⟩
    cases hd : dupB os i o with
    | false => rfl
    | true => exact absurd ⟨by simpa using ht, hd⟩ h1.2.2
theorem rises_up : ∀ {l : List Int} {last below up : Int}, risesB l last below = true → below ≤ up → risesB l last up = true
  | [], _, _, _, _, _ => rfl
  | k :: l, last, below, up, h, hle => by
    by_cases hz : k ≤ last ∨ below ≤ k
    · rw [risesB_no hz] at h; cases h
    · rw [risesB_yes (by omega) (by omega)] at h ⊢
      exact rises_up h hle
theorem alone_up {o : OpM} {i : Int} (h : o.alone i = true) (hi : i ≤ 8) : o.alone 8 = true := by
  simp only [OpM.alone, Bool.and_eq_true, decide_eq_true_eq] at h ⊢
  exact ⟨⟨h.1.1, rises_up h.1.2 hi⟩, h.2⟩
/-! ### Running an operator over few values -/
/-! ### What comes, place by place -/
/-! ### What is emitted -/
end Go.Proofs.YtbonfdkgkcbkmaaGreat
end

section
namespace Go.Proofs.YtbonfdkgkcbkmaaGreat
set_option maxRecDepth 100000
set_option maxRecDepth 100000
open Go.RowKit

theorem totT_get (l : List RecV) {g : Nat} (h : g < 8) : (totT l).getD g 0 = cnt l g := by
  rw [List.getD_eq_getElem?_getD, totT_at l h]; rfl
theorem grpN_lt (r : RecV) : grpN r < 8 := Nat.mod_lt _ (by omega)
theorem chkOff_in {x : InM} {o : List Int} (h : chkOff x o = 0) : chkIn x = 0 ∧ offB o (totT x.recs) = true := by
  unfold chkOff at h
  split at h
  · rename_i h1; exact absurd h h1
  · rename_i h1
    refine ⟨by omega, ?_⟩
    split at h
    · rename_i h2; exact h2
    · omega
theorem chkOff_mk {x : InM} {o : List Int} (h : chkIn x = 0) (h2 : offB o (totT x.recs) = true) : chkOff x o = 0 := by
  unfold chkOff
  rw [if_neg (by omega), if_pos h2]
theorem chkG_alone {os : List OpM} (h : (chkG os).2 = 0) : ∀ (i : Nat) (o : OpM), os[i]? = some o → o.alone 8 = true := fun i o ho => by
  obtain ⟨wd, hwd⟩ := chkG_each h i o ho
  have h8 := (chkG_wf h).2.1
  have hi := (List.getElem?_eq_some_iff.1 ho).1
  exact alone_up (wrongI_parts hwd).1 (by omega)
end Go.Proofs.YtbonfdkgkcbkmaaGreat
end

section
namespace Go.Proofs.YtbonfdkgkcbkmaaGreat
set_option maxRecDepth 100000
open Go.RowKit

/-- Is a record of somebody's groups? -/
def mineB (r : RecV) (idx w : Int) : Bool := (chkRec r == 0) && (decide (1 ≤ w) && decide (w ≤ 3) && decide (0 ≤ idx) && decide (idx < w)) && decide ((grpN r : Int) * w / 8 = idx)
def freeB (idx w : Int) (z : RecV × Bool) : Bool := !z.2 && mineB z.1 idx w
/-- The record that comes next. -/
def nextL (o : List Int) (recs : List RecV) (idx w : Int) : Option RecV := ((partL o recs).find? (freeB idx w)).map (·.1)
/-- The offsets behind it. -/
def readO (o : List Int) : Option RecV → List Int
  | none => o
  | some r => o.set (grpN r) (o.getD (grpN r) 0 + 1)
theorem getD_set_ne {o : List Int} {g k : Nat} {v : Int} (h : k ≠ g) : (o.set g v).getD k 0 = o.getD k 0 := by simp [List.getD_eq_getElem?_getD, List.getElem?_set, Ne.symm h]
theorem cnt_app (l m : List RecV) (g : Nat) : cnt l g ≤ cnt (l ++ m) g := by
  simp only [cnt, List.filter_append, List.length_append]
  omega
theorem chkIn_rec {x : InM} (h : chkIn x = 0) {r : RecV} (hr : r ∈ x.recs) : chkRec r = 0 ∧ r.src = x.src := by
  obtain ⟨_, h1, h2, h3⟩ := chkIn_zero h
  obtain ⟨⟨k0, k1⟩, hs⟩ := h3 r hr
  exact ⟨chkRec_ok (by omega) (by omega) k0 k1, hs⟩
theorem partFrom_mem {o : List Int} {z : RecV × Bool} : ∀ {l pre : List RecV}, z ∈ partFrom o pre l → z.1 ∈ l
  | [], _, h => by simp [partFrom] at h
  | x :: l, pre, h => by
    rw [partFrom] at h
    rcases List.mem_cons.1 h with rfl | h
    · simp
    · have := partFrom_mem h; simp [this]
/-! ### Place by place -/
/-! ### One value more -/
end Go.Proofs.YtbonfdkgkcbkmaaGreat
end

section
namespace Go.Proofs.YtbonfdkgkcbkmaaGreat
set_option maxRecDepth 100000
open Go.RowKit Go.Shelf

attribute [local go_sem] Oper.semAt_some
def widthB (n : Int) : Bool := decide (1 ≤ n) && decide (n ≤ 3)
theorem width_any (n : Int) (w : World) : Calls Tryz.prog 207 #[.int .i64 n] w fun e w' => e = .returned (.bool (widthB n)) ∧ w = w' := by
  go_enter Tryz.func207, Tryz.ntmps207
  go_wp2
  all_goals go_ret
  all_goals refine ⟨ret_bool ?_, rfl⟩
  all_goals (simp [widthB]; try omega)
def shareB (idx w : Int) : Bool := widthB w && decide (0 ≤ idx) && decide (idx < w)
theorem share_any (idx n : Int) (w : World) : Calls Tryz.prog 127 #[.int .i64 idx, .int .i64 n] w fun e w' => e = .returned (.bool (shareB idx n)) ∧ w = w' := by
  have HW := Lib.hid (width_any n w)
  obtain ⟨wb, hwb⟩ : ∃ wb, wb = widthB n := ⟨_, rfl⟩
  have HE := Lib.hid (show shareB idx n = (wb && decide (0 ≤ idx) && decide (idx < n)) by rw [hwb]; rfl)
  rw [← hwb] at HW
  clear hwb
  go_enter Tryz.func127, Tryz.ntmps127
  go_wp2_with (go_at_call 207; refine HW.out.mono ?_; rintro e w' ⟨rfl, rfl⟩)
  all_goals go_ret
  all_goals refine ⟨ret_bool ?_, rfl⟩
  all_goals rw [HE.out]
  all_goals simp [*]
  all_goals try omega
theorem owner_any (g n : Int) (w : World) (hg : 0 ≤ g ∧ g < 8) (hn : 1 ≤ n ∧ n ≤ 3) : Calls Tryz.prog 210 #[.int .i64 g, .int .i64 n] w fun e w' => e = .returned (.int .i64 (g * n / 8)) ∧ w = w' := by
  obtain ⟨h1, h2⟩ := hg
  obtain ⟨h3, h4⟩ := hn
  have h5 : 0 ≤ g * n := Int.mul_nonneg h1 (by omega)
  have h6 : g * n ≤ 100 := Int.le_trans (Int.mul_le_mul (b := n) (c := 8) (d := 4) (by omega) (by omega) (by omega) (by omega)) (by omega)
  have h7 : IntKind.i64.wrap (g * n) = g * n := by rw [IntKind.wrap_i64]; omega
  go_enter Tryz.func210, Tryz.ntmps210
  go_wp2
  go_ret
  exact ⟨rfl, rfl⟩
theorem group_any (r : RecV) (w : World) : Calls Tryz.prog 209 #[.agg #[.int .i64 r.src, .int .i64 r.key, .int .i64 r.val]] w fun e w' => e = .returned (.tuple #[.int .i64 (if chkRec r = 0 then (grpN r : Int) else 0), .int .i64 (chkRec r)]) ∧ Upd0 w w' := by
  obtain ⟨w1, hw1⟩ : ∃ w1, w1 = w.alloc (.cells #[.int .i64 r.src, .int .i64 r.key, .int .i64 r.val] 36) := ⟨_, rfl⟩
  have hu1 : Upd0 w w1 := by rw [hw1]; exact (Upd.refl _ w).alloc _
  have hb : w1.heap[w.heap.size]? = some (.cells #[.int .i64 r.src, .int .i64 r.key, .int .i64 r.val] 36 (0, 0)) := by rw [hw1]; exact alloc_at rfl
  have HB := Lib.hid hb; have HU := Lib.hid hu1
  have HC := Lib.hid (reccheck_any r w1)
  obtain ⟨c0, c1, c2⟩ := cells3_of hb
  by_cases hz : chkRec r = 0
  · have hk : 0 ≤ r.key ∧ r.key < 32 := by
      by_cases h : r.src < 0 ∨ 8 ≤ r.src ∨ r.key < 0 ∨ 32 ≤ r.key
      · rw [chkRec_no h] at hz; omega
      · omega
    have hrem : r.key.tmod 8 = (grpN r : Int) := by
      rw [Int.tmod_eq_emod_of_nonneg (by omega), grpN]; omega
    have HR := Lib.hid hrem
    obtain ⟨hk0, hk1⟩ := hk
    rw [hz] at HC
    rw [if_pos hz, hz]
    obtain ⟨g, hg⟩ : ∃ g : Int, g = grpN r := ⟨_, rfl⟩
    rw [← hg] at HR ⊢
    clear hz hrem hu1 hb hg
    go_enter Tryz.func209, Tryz.ntmps209
    go_wp2_with (go_at_call 142; fail)
    rw [← hw1]
    clear hw1
    refine HC.out.mono ?_
    rintro _ w2 ⟨rfl, hu2⟩
    obtain ⟨d0, d1, d2⟩ := cells3_of ((hu2.block _ (lt_of_heap HB.out) (fun e => e)).trans HB.out)
    have HU2 := Lib.hid (HU.out.trans hu2)
    clear hu2 c0 c1 c2
    simp only []
    have hrem := HR.out
    go_wp2
    go_ret2
    first | exact ⟨rfl, HU2.out⟩ | (refine ⟨?_, HU2.out⟩; rw [← HR.out, Int.tmod_eq_emod_of_nonneg (by omega)])
  · have hz' : chkRec r = 150 := by
      unfold chkRec at hz ⊢
      split <;> simp_all
    rw [hz'] at HC
    rw [if_neg hz, hz']
    clear hz hz' hu1 hb
    go_enter Tryz.func209, Tryz.ntmps209
    go_wp2_with (go_at_call 142; fail)
    rw [← hw1]
    clear hw1
    refine HC.out.mono ?_
    rintro _ w2 ⟨rfl, hu2⟩
    have HU2 := Lib.hid (HU.out.trans hu2)
    clear hu2 c0 c1 c2
    simp only []
    go_wp2
    go_ret2
    exact ⟨rfl, HU2.out⟩
theorem mineB_eq (r : RecV) (idx n : Int) : mineB r idx n = ((chkRec r == 0) && shareB idx n && decide ((grpN r : Int) * n / 8 = idx)) := by
  unfold mineB shareB widthB
  simp only [Bool.and_assoc]
theorem mine_any (r : RecV) (idx n : Int) (w : World) : Calls Tryz.prog 129 #[.agg #[.int .i64 r.src, .int .i64 r.key, .int .i64 r.val], .int .i64 idx, .int .i64 n] w fun e w' => e = .returned (.bool (mineB r idx n)) ∧ Upd0 w w' := by
  have hg := grpN_lt r
  obtain ⟨w1, hw1⟩ : ∃ w1, w1 = w.alloc (.cells #[.int .i64 r.src, .int .i64 r.key, .int .i64 r.val] 36) := ⟨_, rfl⟩
  have hu1 : Upd0 w w1 := by rw [hw1]; exact (Upd.refl _ w).alloc _
  have hb : w1.heap[w.heap.size]? = some (.cells #[.int .i64 r.src, .int .i64 r.key, .int .i64 r.val] 36 (0, 0)) := by rw [hw1]; exact alloc_at rfl
  have HU := Lib.hid hu1
  have HC := Lib.hid (group_any r w1)
  have HM := Lib.hid (mineB_eq r idx n)
  have HS := Lib.hid (fun W => share_any idx n W)
  have HO := Lib.hid (fun W (h : widthB n = true) => owner_any (grpN r) n W ⟨by omega, by omega⟩ (by simpa [widthB] using h))
  obtain ⟨mb, hmb⟩ : ∃ mb, mb = mineB r idx n := ⟨_, rfl⟩
  rw [← hmb] at HM ⊢
  obtain ⟨c0, c1, c2⟩ := cells3_of hb
  obtain ⟨g, hgg⟩ : ∃ g : Int, g = grpN r := ⟨_, rfl⟩
  rw [← hgg] at HC HM HO
  by_cases hz : chkRec r = 0
  · rw [if_pos hz, hz] at HC
    rw [hz] at HM
    have HSD := Lib.hid (show shareB idx n = true → widthB n = true from fun h => by
      unfold shareB at h
      simp only [Bool.and_eq_true] at h
      exact h.1.1)
    obtain ⟨sb, hsb⟩ : ∃ sb, sb = shareB idx n := ⟨_, rfl⟩
    rw [← hsb] at HM HS HSD
    clear hz hu1 hb hmb hgg hsb hg
    go_enter Tryz.func129, Tryz.ntmps129
    go_wp2_with (go_at_call 209; fail)
    rw [← hw1]
    clear hw1
    refine HC.out.mono ?_
    rintro _ w2 ⟨rfl, hu2⟩
    have HU2 := Lib.hid (HU.out.trans hu2)
    clear hu2 c0 c1 c2
    simp only []
    cases sb with
    | false =>
      go_wp2_with (go_at_call 127; refine (HS.out _).mono ?_; rintro e w' ⟨rfl, rfl⟩)
      go_ret
      exact ⟨ret_bool (by rw [HM.out]; simp), HU2.out⟩
    | true =>
      have HOW := Lib.hid (fun W => HO.out W (HSD.out rfl))
      clear HO HSD
      go_wp2_with (first | (go_at_call 127; refine (HS.out _).mono ?_; rintro e w' ⟨rfl, rfl⟩) | (go_at_call 210; refine (HOW.out _).mono ?_; rintro e w' ⟨rfl, rfl⟩))
      all_goals go_ret
      all_goals refine ⟨ret_bool ?_, HU2.out⟩
      all_goals rw [HM.out]
      all_goals rw [Bool.eq_iff_iff]
      all_goals simp
  · rw [if_neg hz] at HC
    have hz' : (chkRec r == 0) = false := by simpa using hz
    rw [hz'] at HM
    obtain ⟨cz, hcz⟩ : ∃ cz, cz = chkRec r := ⟨_, rfl⟩
    rw [← hcz] at HC hz'
    clear hz hu1 hb hmb hgg hg hcz HO HS
    go_enter Tryz.func129, Tryz.ntmps129
    go_wp2_with (go_at_call 209; fail)
    rw [← hw1]
    clear hw1
    refine HC.out.mono ?_
    rintro _ w2 ⟨rfl, hu2⟩
    have HU2 := Lib.hid (HU.out.trans hu2)
    clear hu2 c0 c1 c2
    simp only []
    go_wp2
    go_ret
    exact ⟨ret_bool (by rw [HM.out]; simp), HU2.out⟩
end Go.Proofs.YtbonfdkgkcbkmaaGreat
end

section
namespace Go.Proofs.YtbonfdkgkcbkmaaGreat
set_option maxRecDepth 100000
open Go.RowKit Go.Shelf

attribute [local go_sem] Oper.semAt_some
theorem bigowner_any (g n : Int) (w : World) (hg : 0 ≤ g ∧ g < 8) (hn : 1 ≤ n ∧ n ≤ 3) : Calls Tryz.prog 354 #[.int .i64 g, .int .i64 n] w fun e w' => e = .returned (.tuple #[.int .i64 (g * n / 8), .int .i64 0]) ∧ w = w' := by
  have HW := Lib.hid (width_any n w)
  rw [show widthB n = true by simp [widthB]; omega] at HW
  have HO := Lib.hid (owner_any g n w hg hn)
  have h1 : ¬ g < 0 := by omega
  have h2 : ¬ 8 ≤ g := by omega
  go_enter Tryz.func354, Tryz.ntmps354
  go_wp2_with (go_at_call 207; fail)
  refine HW.out.mono ?_
  rintro _ w' ⟨rfl, rfl⟩
  simp only []
  go_wp2_with (go_at_call 210; fail)
  refine HO.out.mono ?_
  rintro _ w' ⟨rfl, rfl⟩
  simp only []
  go_wp2
  go_ret2
  exact ⟨rfl, rfl⟩
/-- The groups of a subtask among the first so many, a bit each. -/
def maskN (wd idx : Int) : Nat → Nat
  | 0 => 0
  | k + 1 => if (k : Int) * wd / 8 = idx then maskN wd idx k ||| (1 <<< k) else maskN wd idx k
theorem or_mask : ∀ (a : Fin 256) (k : Fin 8), bits BinOp.or IntKind.u64 ((a.1 : Nat) : Int) (IntKind.u64.wrap (2 ^ k.1)) = ((a.1 ||| (1 <<< k.1) : Nat) : Int) := by decide +kernel
theorem or_lt : ∀ (a : Fin 256) (k : Fin 8), a.1 ||| (1 <<< k.1) < 256 := by decide +kernel
theorem maskN_lt (wd idx : Int) : ∀ k, k ≤ 8 → maskN wd idx k < 256
  | 0, _ => by simp [maskN]
  | k + 1, h => by
    have ih := maskN_lt wd idx k (by omega)
    rw [maskN]
    split
    · exact or_lt ⟨_, ih⟩ ⟨k, by omega⟩
    · exact ih
theorem maskN_or (wd idx : Int) {k : Nat} (h : k < 8) : bits BinOp.or IntKind.u64 ((maskN wd idx k : Nat) : Int) (IntKind.u64.wrap (2 ^ k)) = ((maskN wd idx k ||| (1 <<< k) : Nat) : Int) :=
  or_mask ⟨_, maskN_lt wd idx k (by omega)⟩ ⟨k, h⟩
set_option maxHeartbeats 8000000 in
theorem groups_any {oa : Option Addr} {os : List OpM} {oc i : Nat} {o : OpM} {idx : Int} (w : World) (h : OpsIn w oa os) (hi : os[i]? = some o) (hw : 1 ≤ o.width ∧ o.width ≤ 3) (hl : os.length ≤ 1000) :
    Calls Tryz.prog 318 #[.agg #[.slice oa os.length oc], .agg #[.int .i64 i, .int .i64 idx]] w fun e w' => e = .returned (.int .u64 (maskN o.width idx 8)) ∧ Upd0 w w' := by
  obtain ⟨b, hb⟩ : ∃ b, b = w.heap.size := ⟨_, rfl⟩
  obtain ⟨w1, hw1⟩ : ∃ w1, w1 = (w.alloc (.cells #[.slice oa os.length oc] 24)).alloc (.cells #[.int .i64 i, .int .i64 idx] 124) := ⟨_, rfl⟩
  have hu1 : Upd0 w w1 := by rw [hw1]; exact ((Upd.refl _ w).alloc _).alloc _
  have HG := Lib.hid (show w1.heap[b]? = some (.cells #[.slice oa os.length oc] 24 (0, 0)) by rw [hw1, hb]; exact (alloc_lt (by simp)).trans (alloc_at rfl))
  have HS := Lib.hid (show w1.heap[b + 1]? = some (.cells #[.int .i64 i, .int .i64 idx] 124 (0, 0)) by rw [hw1, hb]; exact alloc_at (by simp))
  have HO := Lib.hid (h.kept hu1); have HI := Lib.hid hi; have HU := Lib.hid hu1
  have hil := (List.getElem?_eq_some_iff.1 hi).1
  have hilI : (i : Int) < os.length := by omega
  obtain ⟨wd, hwd⟩ : ∃ wd, wd = o.width := ⟨_, rfl⟩
  rw [← hwd] at hw ⊢
  have HWD := Lib.hid hwd
  clear h hi hu1 hwd
  go_enter Tryz.func318, Tryz.ntmps318
  go_wp2_with (fail)
  rw [← hw1, ← hb]
  clear hw1 hb
  obtain ⟨⟨ob, obf, rfl, o0, o1, _⟩, _⟩ := HO.out.at HI.out
  obtain ⟨q0, q1⟩ := cells2_of HS.out
  have g0 := cells1_of HG.out
  rw [← HWD.out] at o1
  go_loopw [5, 9] (fun m i wr => ∃ k : Nat, k ≤ 8 ∧ i = .int .i64 k ∧ m = .int .u64 (maskN wd idx k) ∧ wr = w1) (fun _ i _ => 8 - (intOf i).toNat)
  case atStart => exact ⟨0, Nat.zero_le _, rfl, rfl, rfl⟩
  case round =>
    obtain ⟨k, hk, rfl, rfl, rfl⟩ := hrel
    by_cases hlt : k < 8
    · have HOW := Lib.hid (bigowner_any k wd wr (by omega) hw)
      go_wp2_with (go_at_call 354; fail)
      refine HOW.out.mono ?_
      rintro _ w' ⟨rfl, rfl⟩
      simp only []
      by_cases he : (k : Int) * wd / 8 = idx
      · go_wp2
        go_roundw
        case rel => exact ⟨k + 1, by omega, by go_num, by rw [maskN_or wd idx hlt, maskN, if_pos he], trivial⟩
        case measure => simp [intOf]; omega
      · go_wp2
        go_roundw
        case rel => exact ⟨k + 1, by omega, by go_num, by rw [maskN, if_neg he], trivial⟩
        case measure => simp [intOf]; omega
    · obtain rfl : k = 8 := by omega
      go_wp2
      go_ret
      exact ⟨rfl, HU.out⟩
end Go.Proofs.YtbonfdkgkcbkmaaGreat
end

section
namespace Go.Proofs.YtbonfdkgkcbkmaaGreat
set_option maxRecDepth 100000
open Go.RowKit Go.Shelf

attribute [local go_sem] Oper.semAt_some
theorem and_mask : ∀ (m : Fin 256) (g : Fin 8), (bits BinOp.and IntKind.u64 (((m.1 : Nat) : Int) / 2 ^ g.1) 1 == 1) = m.1.testBit g.1 := by decide +kernel
theorem sethas_any (m g : Nat) (w : World) (hm : m < 256) (hg : g < 8) : Calls Tryz.prog 313 #[.int .u64 m, .int .i64 g] w fun e w' => e = .returned (.bool (m.testBit g)) ∧ w = w' := by
  go_enter Tryz.func313, Tryz.ntmps313
  go_wp2
  go_ret
  exact ⟨congrArg (fun b => Ending.returned (.bool b)) (and_mask ⟨m, hm⟩ ⟨g, hg⟩), rfl⟩
set_option maxHeartbeats 1000000 in
theorem subsf_any {oa : Option Addr} {os : List OpM} {oc gb : Nat} (w : World) (hb : w.heap[gb]? = some (.cells #[.slice oa os.length oc] 24 (0, 0))) (h : OpsIn w oa os) (hlo : os.length ≤ 50) (hwd : ∀ o ∈ os, 0 ≤ o.width ∧ o.width ≤ 1000) :
    Calls Tryz.prog 229 #[.pointer (some ⟨gb, 0, none⟩)] w fun e w' => ∃ a c, e = .returned (.tuple #[.slice a (subsL os).length c, .int .i64 0]) ∧ OwnS w' w.heap.size (.slice a (subsL os).length c) (subsL os) ∧ Upd0 w w' := by
  have HA := Lib.hid (allS_any (oc := oc) w h hlo hwd)
  have c0 := cells1_of hb
  clear h hwd hb
  go_enter Tryz.func229, Tryz.ntmps229
  go_wp2_with (go_at_call 230; fail)
  (with_reducible refine HA.out.mono ?_)
  rintro _ w2 ⟨a2, c2, rfl, ho2, hu2⟩
  have HO2 := Lib.hid ho2; have HU2 := Lib.hid hu2
  clear ho2 hu2 HA c0
  simp only []
  go_wp2
  go_ret2
  exact ⟨a2, c2, rfl, HO2.out, HU2.out⟩
theorem callSubs1 : ∀ args w, (callFunc 229 args).run Tryz.prog w = .ok (.enter 229 args) w := enters_of Tryz.func229 (by kernel_rfl) rfl
theorem chkG_wide {os : List OpM} (h : (chkG os).2 = 0) : ∀ o ∈ os, 1 ≤ o.width ∧ o.width ≤ 3 := by
  intro o ho
  obtain ⟨i, hi⟩ := List.getElem?_of_mem ho
  have := chkG_alone h i o hi
  simp only [OpM.alone, Bool.and_eq_true, decide_eq_true_eq] at this
  exact ⟨this.1.1.1, this.1.1.2⟩
/-- What Subs answers. -/
def SubsR (os : List OpM) : List (Int × Int) := if (chkG os).2 = 0 then subsL os else []
set_option maxHeartbeats 1000000 in
theorem subsx_any {oa : Option Addr} {os : List OpM} {oc : Nat} (w : World) (h : OpsIn w oa os) (hol : os.length ≤ 50) (hoc : os.length ≤ oc) (hom : oc ≤ maxLen) :
    Calls Tryz.prog 155 #[.agg #[.slice oa os.length oc]] w fun e w' => ∃ a c, e = .returned (.tuple #[.slice a (SubsR os).length c, .int .i64 (chkG os).2]) ∧ OwnS w' w.heap.size (.slice a (SubsR os).length c) (SubsR os) ∧ Upd0 w w' := by
  obtain ⟨w1, hw1⟩ : ∃ w1, w1 = w.alloc (.cells #[.slice oa os.length oc] 24) := ⟨_, rfl⟩
  have hu1 : Upd0 w w1 := by rw [hw1]; exact (Upd.refl _ w).alloc _
  have hb1 : w1.heap[w.heap.size]? = some (.cells #[.slice oa os.length oc] 24 (0, 0)) := by rw [hw1]; exact alloc_at rfl
  have HAS := Lib.hid (askedS_any (g := 229) (lb := #[.pointer (some ⟨w.heap.size, 0, none⟩)]) (oc := oc) (R := fun v E W => E = (chkG os).2 ∧ ∃ a c, v = .slice a (SubsR os).length c ∧ OwnS W w.heap.size v (SubsR os) ∧ Upd0 w W) w1 (h.kept hu1) hol hoc hom callSubs1
    (fun he W hW => ⟨rfl, none, 0, by simp [SubsR, he], by
      have e : SubsR os = [] := by simp [SubsR, he]
      rw [e]; exact World.ownsRow_nil _ _ _ _, hu1.trans hW⟩)
    (fun he W hW => (subsf_any (oc := oc) W ((hW.block _ (lt_of_heap hb1) (fun e => e)).trans hb1) (h.kept (hu1.trans hW)) hol (fun o ho => by have := chkG_wide he o ho; omega)).mono (fun e W' ⟨a, c, h1, h2, h3⟩ => by
      have e' : SubsR os = subsL os := by simp [SubsR, he]
      refine ⟨_, 0, h1, he.symm, a, c, by rw [e'], ?_, (hu1.trans hW).trans h3⟩
      rw [e']
      exact ownsRow_low h2 (hu1.trans hW).size)))
  have c0 := cells1_of hb1
  clear h hol hoc hom hb1
  go_enter Tryz.func155, Tryz.ntmps155
  go_wp2_with (go_at_call 228; fail)
  rw [← hw1]
  clear hw1
  (with_reducible refine HAS.out.mono ?_)
  rintro _ w2 ⟨v, E, rfl, rfl, a, c, rfl, ho2, hu2⟩
  have HO2 := Lib.hid ho2; have HU2 := Lib.hid hu2
  clear ho2 hu2 HAS c0 hu1
  simp only []
  go_wp2
  go_ret2
  exact ⟨a, c, rfl, HO2.out, HU2.out⟩
end Go.Proofs.YtbonfdkgkcbkmaaGreat
end

section
namespace Go.Proofs.YtbonfdkgkcbkmaaGreat
set_option maxRecDepth 100000
open Go.RowKit Go.Shelf

attribute [local go_sem] Oper.semAt_some
theorem subsF_mem {x : Int × Int} : ∀ {l : List OpM} {i : Nat}, x ∈ subsF i l → ∃ (j k : Nat) (o : OpM), l[j]? = some o ∧ x = (((i + j : Nat) : Int), (k : Int)) ∧ (k : Int) < o.width
  | [], i, h => by simp [subsF] at h
  | o :: l, i, h => by
    rw [subsF, List.mem_append] at h
    rcases h with h | h
    · unfold subs1 at h
      obtain ⟨k, hk, rfl⟩ := List.mem_map.1 h
      rw [List.mem_range] at hk
      exact ⟨0, k, o, rfl, by simp, by omega⟩
    · obtain ⟨j, k, o', h1, h2, h3⟩ := subsF_mem h
      exact ⟨j + 1, k, o', by simpa using h1, by rw [h2]; congr 2; omega, h3⟩
theorem subsL_mem {os : List OpM} {x : Int × Int} (h : x ∈ subsL os) : ∃ (j k : Nat) (o : OpM), os[j]? = some o ∧ x = ((j : Int), (k : Int)) ∧ (k : Int) < o.width := by
  obtain ⟨j, k, o, h1, h2, h3⟩ := subsF_mem h
  exact ⟨j, k, o, h1, by rw [h2, Nat.zero_add], h3⟩
theorem subR_zero {os : List OpM} {n : Int} (h : (subR os n).2 = 0) : ∃ (j k : Nat) (o : OpM), os[j]? = some o ∧ (subR os n).1 = ((j : Int), (k : Int)) ∧ (k : Int) < o.width ∧ 0 ≤ n ∧ (subsL os)[n.toNat]? = some ((j : Int), (k : Int)) := by
  unfold subR subP at h ⊢
  split at h
  · simp at h
  · rename_i h0
    rw [if_neg h0]
    split at h
    · rename_i s hs
      obtain ⟨j, k, o, h1, h2, h3⟩ := subsL_mem (List.mem_of_getElem? hs)
      rw [hs]
      exact ⟨j, k, o, h1, h2, h3, by omega, by rw [h2]⟩
    · simp at h
def wdAt (os : List OpM) (i : Int) : Int := match os[i.toNat]? with
  | some o => o.width
  | none => 0
/-- What has answers. -/
def hasR (os : List OpM) (n : Int) (r : RecV) : Bool × Int := if (subR os n).2 ≠ 0 then (false, (subR os n).2) else if chkRec r ≠ 0 then (false, 150) else (mineB r (subR os n).1.2 (wdAt os (subR os n).1.1), 0)
set_option maxHeartbeats 4000000 in
theorem phas_any {oa : Option Addr} {os : List OpM} {oc : Nat} (n : Int) (r : RecV) (w : World) (h : OpsIn w oa os) (hlo : os.length ≤ 50) (hwd : ∀ o ∈ os, 0 ≤ o.width ∧ o.width ≤ 1000) :
    Calls Tryz.prog 94 #[.agg #[.slice oa os.length oc], .int .i64 n, .agg #[.int .i64 r.src, .int .i64 r.key, .int .i64 r.val]] w fun e w' => e = .returned (.tuple #[.bool (hasR os n r).1, .int .i64 (hasR os n r).2]) ∧ Upd0 w w' := by
  obtain ⟨b, hb⟩ : ∃ b, b = w.heap.size := ⟨_, rfl⟩
  obtain ⟨w1, hw1⟩ : ∃ w1, w1 = (w.alloc (.cells #[.slice oa os.length oc] 24)).alloc (.cells #[.int .i64 r.src, .int .i64 r.key, .int .i64 r.val] 36) := ⟨_, rfl⟩
  have hu1 : Upd0 w w1 := by rw [hw1]; exact ((Upd.refl _ w).alloc _).alloc _
  have HG := Lib.hid (show w1.heap[b]? = some (.cells #[.slice oa os.length oc] 24 (0, 0)) by rw [hw1, hb]; exact (alloc_lt (by simp)).trans (alloc_at rfl))
  have HR := Lib.hid (show w1.heap[b + 1]? = some (.cells #[.int .i64 r.src, .int .i64 r.key, .int .i64 r.val] 36 (0, 0)) by rw [hw1, hb]; exact alloc_at (by simp))
  have HO := Lib.hid (h.kept hu1); have HU := Lib.hid hu1
  have HS := Lib.hid (sub_any (oc := oc) n w1 (h.kept hu1) hlo hwd)
  have HZ := Lib.hid (fun (h : (subR os n).2 = 0) => subR_zero h)
  have HH := Lib.hid (show hasR os n r = if (subR os n).2 ≠ 0 then (false, (subR os n).2) else if chkRec r ≠ 0 then (false, 150) else (mineB r (subR os n).1.2 (wdAt os (subR os n).1.1), 0) from rfl)
  obtain ⟨hr, hhr⟩ : ∃ hr, hr = hasR os n r := ⟨_, rfl⟩
  rw [← hhr] at HH ⊢
  obtain ⟨sr, hsr⟩ : ∃ sr, sr = subR os n := ⟨_, rfl⟩
  rw [← hsr] at HS HZ HH
  obtain ⟨⟨s1, s2⟩, se⟩ := sr
  simp only at HS HZ HH
  have c0 := cells1_of HG.out
  clear h hwd hu1 hhr hsr
  go_enter Tryz.func94, Tryz.ntmps94
  go_wp2_with (go_at_call 173; fail)
  rw [← hw1, ← hb]
  clear hw1 hb
  (with_reducible refine HS.out.mono ?_)
  rintro _ w2 ⟨rfl, hu2⟩
  obtain ⟨w3, hw3⟩ : ∃ w3, w3 = w2.alloc (.cells #[.int .i64 s1, .int .i64 s2] 124) := ⟨_, rfl⟩
  have hu3 : Upd0 w2 w3 := by rw [hw3]; exact (Upd.refl _ w2).alloc _
  have HU3 := Lib.hid (hu2.trans hu3)
  obtain ⟨sb, hsb⟩ : ∃ sb, sb = w2.heap.size := ⟨_, rfl⟩
  have HX3 := Lib.hid (show w3.heap[sb]? = some (.cells #[.int .i64 s1, .int .i64 s2] 124 (0, 0)) by rw [hw3, hsb]; exact alloc_at rfl)
  have HG3 := Lib.hid ((HU3.out.block _ (lt_of_heap HG.out) (fun e => e)).trans HG.out)
  have HR3 := Lib.hid ((HU3.out.block _ (lt_of_heap HR.out) (fun e => e)).trans HR.out)
  have HC := Lib.hid (reccheck_any r w3)
  clear hu2 hu3 HS c0
  simp only []
  go_upto_region 2 with fail
  rw [← hw3, ← hsb]
  clear hw3 hsb
  by_cases he : se = 0
  · subst he
    obtain ⟨j, k, o, hj, hs, hk, hn0, _⟩ := HZ.out rfl
    injection hs with e1 e2
    subst e1 e2
    obtain ⟨r0, r1, r2⟩ := cells3_of HR3.out
    have HJ := Lib.hid hj
    clear hj HZ
    go_wp2_with (go_at_call 142; fail)
    refine HC.out.mono ?_
    rintro _ w4 ⟨rfl, hu4⟩
    have HU4 := Lib.hid (HU3.out.trans hu4)
    have HX4 := Lib.hid ((hu4.block _ (lt_of_heap HX3.out) (fun e => e)).trans HX3.out)
    have HG4 := Lib.hid ((hu4.block _ (lt_of_heap HG3.out) (fun e => e)).trans HG3.out)
    have HR4 := Lib.hid ((hu4.block _ (lt_of_heap HR3.out) (fun e => e)).trans HR3.out)
    clear hu4 HC r0 r1 r2
    simp only []
    by_cases hc : chkRec r = 0
    · obtain ⟨⟨ob, obf, rfl, _, _, _⟩, _⟩ := HO.out.at HJ.out
      have hjl := (List.getElem?_eq_some_iff.1 HJ.out).1
      have hjI : (j : Int) < os.length := by omega
      have HMI := Lib.hid (fun (W : World) => mine_any r k o.width W)
      have HE := Lib.hid (show hr = (mineB r k o.width, 0) by
        rw [HH.out]
        have e : wdAt os (j : Int) = o.width := by simp [wdAt, HJ.out]
        simp [hc, e])
      go_upto_region 6 with fail
      have hA : Upd0 w4 w4.drew := (Upd.refl _ _).drew
      refine wp_region_G 12 (fun W => Upd0 w4 W) [false, false, false, false, false, false, false, false, false, false, false, false, false] rfl (by kernel_rfl) ?_
      generalize w4.drew = we at hA ⊢
      refine wpG_takeT (i := 0) (v := .agg #[.int .i64 r.src, .int .i64 r.key, .int .i64 r.val]) rfl (fun L hc h => (hc.waits (n := 12) (i := 0) (by kernel_rfl) h)) (by kernel_rfl) (fun _ _ _ h => h) hA (.inl ⟨rfl, fun w5 q1 => ?_⟩) ?_
      · obtain ⟨c0, c1, c2⟩ := cells3_of ((q1.block _ (lt_of_heap HR4.out) (fun e => e)).trans HR4.out)
        go_simp
      simp only [Act.put, List.setIfInBounds_toArray, List.set]
      refine wpG_takeT (i := 1) (v := .pointer (some ⟨sb, 1, none⟩)) rfl (fun L hc h => (hc.waits (n := 12) (i := 1) (by kernel_rfl) h)) (by kernel_rfl) (fun _ _ _ h => h) hA (.inl ⟨rfl, fun w5 q1 => ?_⟩) ?_
      · go_simp
      simp only [Act.put, List.setIfInBounds_toArray, List.set]
      refine wpG_takeT (i := 2) (v := .int .i64 k) rfl (fun L hc h => (hc.waits (n := 12) (i := 2) (by kernel_rfl) h)) (by kernel_rfl) (fun _ _ _ h => h) hA (.inl ⟨rfl, fun w5 q1 => ?_⟩) ?_
      · obtain ⟨c0, c1⟩ := cells2_of ((q1.block _ (lt_of_heap HX4.out) (fun e => e)).trans HX4.out)
        go_simp
      simp only [Act.put, List.setIfInBounds_toArray, List.set]
      refine wpG_takeT (i := 3) (v := .pointer (some ⟨b, 0, none⟩)) rfl (fun L hc h => (hc.waits (n := 12) (i := 3) (by kernel_rfl) h)) (by kernel_rfl) (fun _ _ _ h => h) hA (.inl ⟨rfl, fun w5 q1 => ?_⟩) ?_
      · go_simp
      simp only [Act.put, List.setIfInBounds_toArray, List.set]
      refine wpG_takeT (i := 4) (v := .slice (some ⟨ob, obf, none⟩) os.length oc) rfl (fun L hc h => (hc.waits (n := 12) (i := 4) (by kernel_rfl) h)) (by kernel_rfl) (fun _ _ _ h => h) hA (.inl ⟨rfl, fun w5 q1 => ?_⟩) ?_
      · have c0 := cells1_of ((q1.block _ (lt_of_heap HG4.out) (fun e => e)).trans HG4.out)
        go_simp
      simp only [Act.put, List.setIfInBounds_toArray, List.set]
      refine wpG_takeT (i := 5) (v := .pointer (some ⟨sb, 0, none⟩)) rfl (fun L hc h => (hc.waits (n := 12) (i := 5) (by kernel_rfl) h)) (by kernel_rfl) (fun _ _ _ h => h) hA (.inl ⟨rfl, fun w5 q1 => ?_⟩) ?_
      · go_simp
      simp only [Act.put, List.setIfInBounds_toArray, List.set]
      refine wpG_takeT (i := 6) (v := .int .i64 j) rfl (fun L hc h => (hc.waits (n := 12) (i := 6) (by kernel_rfl) h)) (by kernel_rfl) (fun _ _ _ h => h) hA (.inl ⟨rfl, fun w5 q1 => ?_⟩) ?_
      · obtain ⟨c0, c1⟩ := cells2_of ((q1.block _ (lt_of_heap HX4.out) (fun e => e)).trans HX4.out)
        go_simp
      simp only [Act.put, List.setIfInBounds_toArray, List.set]
      refine wpG_takeT (i := 7) (v := .pointer (some ⟨ob, obf + j * 5, none⟩)) rfl (fun L hc h => (hc.waits (n := 12) (i := 7) (by kernel_rfl) h)) (by kernel_rfl) (fun _ _ _ h => h) hA (.inl ⟨rfl, fun w5 q1 => ?_⟩) ?_
      · go_simp
      simp only [Act.put, List.setIfInBounds_toArray, List.set]
      refine wpG_takeT (i := 8) (v := .pointer (some ⟨ob, obf + j * 5 + 1, none⟩)) rfl (fun L hc h => (hc.waits (n := 12) (i := 8) (by kernel_rfl) h)) (by kernel_rfl) (fun _ _ _ h => h) hA (.inl ⟨rfl, fun w5 q1 => ?_⟩) ?_
      · go_simp
      simp only [Act.put, List.setIfInBounds_toArray, List.set]
      refine wpG_takeT (i := 9) (v := .int .i64 o.width) rfl (fun L hc h => (hc.waits (n := 12) (i := 9) (by kernel_rfl) h)) (by kernel_rfl) (fun _ _ _ h => h) hA (.inl ⟨rfl, fun w5 q1 => ?_⟩) ?_
      · obtain ⟨⟨ob2, obf2, e2, p0, p1, _⟩, _⟩ := (HO.out.kept (HU4.out.trans q1)).at HJ.out
        injection e2 with e2
        injection e2 with e3 e4
        subst e3 e4
        go_simp
      simp only [Act.put, List.setIfInBounds_toArray, List.set]
      refine wpG_doIf (i := 10) rfl (by kernel_rfl) rfl (fun K hK => ?_)
      have HKK := Lib.hid hK
      clear hK
      go_step
      (with_reducible refine (HMI.out _).mono ?_)
      rintro _ w7 ⟨rfl, hu7⟩
      have hA := hA.trans hu7
      clear hu7
      simp only []
      refine HKK.out _ _ hA ?_
      clear HKK
      simp only [Act.put, List.setIfInBounds_toArray, List.set]
      refine wpG_takeT (i := 11) (v := .bool (mineB r k o.width)) rfl (fun L hc h => (hc.waits (n := 12) (i := 11) (by kernel_rfl) h)) (by kernel_rfl) (fun _ _ _ h => h) hA (.inl ⟨rfl, fun w5 q1 => ?_⟩) ?_
      · go_simp
      simp only [Act.put, List.setIfInBounds_toArray, List.set]
      refine wpG_tail_lit (k := 12) rfl rfl (by kernel_rfl) ?_
      simp only [List.drop]
      go_wp2
      go_ret2
      exact ⟨by rw [HE.out]; rfl, HU.out.trans (HU4.out.trans hA)⟩
    · have HE := Lib.hid (show hr = (false, 150) by rw [HH.out]; simp [hc])
      go_wp2
      go_ret2
      exact ⟨by rw [HE.out]; rfl, HU.out.trans HU4.out⟩
  · have HE := Lib.hid (show hr = (false, se) by rw [HH.out]; simp [he])
    go_wp2
    go_ret2
    exact ⟨by rw [HE.out]; rfl, HU.out.trans HU3.out⟩
end Go.Proofs.YtbonfdkgkcbkmaaGreat
end

section
namespace Go.Proofs.YtbonfdkgkcbkmaaGreat
set_option maxRecDepth 100000
open Go.RowKit Go.Shelf

attribute [local go_sem] Oper.semAt_some
theorem has1_any {oa : Option Addr} {os : List OpM} {oc gb nb rb : Nat} (n : Int) (r : RecV) (w : World) (h : OpsIn w oa os) (hlo : os.length ≤ 50) (hwd : ∀ o ∈ os, 0 ≤ o.width ∧ o.width ≤ 1000) (hg : w.heap[gb]? = some (.cells #[.slice oa os.length oc] 24 (0, 0))) (hn : w.heap[nb]? = some (.cells #[.int .i64 n] 3 (0, 0)))
    (hr : w.heap[rb]? = some (.cells #[.int .i64 r.src, .int .i64 r.key, .int .i64 r.val] 36 (0, 0))) :
    Calls Tryz.prog 93 #[.pointer (some ⟨gb, 0, none⟩), .pointer (some ⟨nb, 0, none⟩), .pointer (some ⟨rb, 0, none⟩)] w fun e w' => e = .returned (.tuple #[.bool (hasR os n r).1, .int .i64 (hasR os n r).2]) ∧ Upd0 w w' := by
  have HH := Lib.hid (phas_any (oc := oc) n r w h hlo hwd)
  have c0 := cells1_of hg
  have d0 := cells1_of hn
  obtain ⟨r0, r1, r2⟩ := cells3_of hr
  clear h hwd hg hn hr
  go_enter Tryz.func93, Tryz.ntmps93
  go_wp2_with (go_at_call 94; fail)
  (with_reducible refine HH.out.mono ?_)
  rintro _ w2 ⟨rfl, hu2⟩
  have HU2 := Lib.hid hu2
  clear hu2 HH c0 d0 r0 r1 r2
  simp only []
  go_wp2
  go_ret2
  exact ⟨rfl, HU2.out⟩
theorem callHas1 : ∀ args w, (callFunc 93 args).run Tryz.prog w = .ok (.enter 93 args) w := enters_of Tryz.func93 (by kernel_rfl) rfl
/-- What Has answers. -/
def HasR (os : List OpM) (n : Int) (r : RecV) : Bool × Int := if (chkG os).2 ≠ 0 then (false, (chkG os).2) else hasR os n r
theorem phasx_any {oa : Option Addr} {os : List OpM} {oc : Nat} (n : Int) (r : RecV) (w : World) (h : OpsIn w oa os) (hol : os.length ≤ 50) (hoc : os.length ≤ oc) (hom : oc ≤ maxLen) :
    Calls Tryz.prog 29 #[.agg #[.slice oa os.length oc], .int .i64 n, .agg #[.int .i64 r.src, .int .i64 r.key, .int .i64 r.val]] w fun e w' => e = .returned (.tuple #[.bool (HasR os n r).1, .int .i64 (HasR os n r).2]) ∧ Upd0 w w' := by
  obtain ⟨b, hb⟩ : ∃ b, b = w.heap.size := ⟨_, rfl⟩
  obtain ⟨w1, hw1⟩ : ∃ w1, w1 = ((w.alloc (.cells #[.slice oa os.length oc] 24)).alloc (.cells #[.int .i64 n] 3)).alloc (.cells #[.int .i64 r.src, .int .i64 r.key, .int .i64 r.val] 36) := ⟨_, rfl⟩
  have hu1 : Upd0 w w1 := by rw [hw1]; exact (((Upd.refl _ w).alloc _).alloc _).alloc _
  have hb0 : w1.heap[b]? = some (.cells #[.slice oa os.length oc] 24 (0, 0)) := by rw [hw1, hb]; exact (alloc_lt (by simp <;> omega)).trans ((alloc_lt (by simp)).trans (alloc_at rfl))
  have hb1 : w1.heap[b + 1]? = some (.cells #[.int .i64 n] 3 (0, 0)) := by rw [hw1, hb]; exact (alloc_lt (by simp)).trans (alloc_at (by simp))
  have hb2 : w1.heap[b + 2]? = some (.cells #[.int .i64 r.src, .int .i64 r.key, .int .i64 r.val] 36 (0, 0)) := by rw [hw1, hb]; exact alloc_at (by simp)
  have HAS := Lib.hid (askedB_any (g := 93) (lb := #[.pointer (some ⟨b, 0, none⟩), .pointer (some ⟨b + 1, 0, none⟩), .pointer (some ⟨b + 2, 0, none⟩)]) (oc := oc) (R := fun v E W => v = .bool (HasR os n r).1 ∧ E = (HasR os n r).2 ∧ Upd0 w W) w1 (h.kept hu1) hol hoc hom callHas1
    (fun he W hW => ⟨by simp [HasR, he], by simp [HasR, he], hu1.trans hW⟩)
    (fun he W hW => (has1_any (oc := oc) n r W (h.kept (hu1.trans hW)) hol (fun o ho => by have := chkG_wide he o ho; omega) ((hW.block _ (lt_of_heap hb0) (fun e => e)).trans hb0) ((hW.block _ (lt_of_heap hb1) (fun e => e)).trans hb1) ((hW.block _ (lt_of_heap hb2) (fun e => e)).trans hb2)).mono (fun e W' ⟨h1, h3⟩ => by
      have e' : HasR os n r = hasR os n r := by simp [HasR, he]
      exact ⟨_, _, h1, by rw [e'], by rw [e'], (hu1.trans hW).trans h3⟩)))
  have c0 := cells1_of hb0
  clear h hol hoc hom hb0 hb1 hb2
  go_enter Tryz.func29, Tryz.ntmps29
  go_wp2_with (go_at_call 92; fail)
  rw [← hw1, ← hb]
  clear hw1 hb
  try simp only [Nat.add_assoc, Nat.reduceAdd]
  (with_reducible refine HAS.out.mono ?_)
  rintro _ w2 ⟨v, E, rfl, rfl, rfl, hu2⟩
  have HU2 := Lib.hid hu2
  clear hu2 HAS c0 hu1
  simp only []
  go_wp2
  go_ret2
  exact ⟨rfl, HU2.out⟩
theorem out1_any (f t m : Int) (w : World) : Calls Tryz.prog 98 #[.agg #[.int .i64 f, .int .i64 t, .int .u64 m]] w fun e w' => e = .returned (.int .i64 f) ∧ Upd0 w w' := by
  go_enter Tryz.func98, Tryz.ntmps98
  go_wp2
  go_ret
  exact ⟨rfl, (Upd.refl _ w).alloc _⟩
end Go.Proofs.YtbonfdkgkcbkmaaGreat
end

section
namespace Go.Proofs.YtbonfdkgkcbkmaaGreat
set_option maxRecDepth 100000
open Go.RowKit Go.Shelf

attribute [local go_sem] Oper.semAt_some run_store_func
/-- The name of a transaction. -/
structure NmV where
  sink : Int
  att : Int
  ser : Int
def NmV.cells (x : NmV) : List Value := [.int .i64 x.sink, .int .i64 x.att, .int .i64 x.ser]
def cntB (k : Int) : Bool := decide (1 ≤ k) && decide (k ≤ 1048576)
def chkNm (x : NmV) : Int := if x.sink < 0 ∨ 16 ≤ x.sink ∨ cntB x.att = false ∨ cntB x.ser = false then 2 else 0
theorem counted_any (k : Int) (w : World) : Calls Tryz.prog 347 #[.int .i64 k] w fun e w' => e = .returned (.bool (cntB k)) ∧ w = w' := by
  by_cases h1 : 1 ≤ k
  · by_cases h2 : k ≤ 1048576
    · have hb : cntB k = true := by simp [cntB, h1, h2]
      rw [hb]
      clear hb
      go_enter Tryz.func347, Tryz.ntmps347
      go_wp2
      go_ret
      exact ⟨rfl, rfl⟩
    · have hb : cntB k = false := by simp [cntB, h2]
      rw [hb]
      clear hb
      go_enter Tryz.func347, Tryz.ntmps347
      go_wp2
      go_ret
      exact ⟨rfl, rfl⟩
  · have hb : cntB k = false := by simp [cntB, h1]
    rw [hb]
    clear hb
    go_enter Tryz.func347, Tryz.ntmps347
    go_wp2
    go_ret
    exact ⟨rfl, rfl⟩
set_option maxHeartbeats 1000000 in
theorem checkname_any (x : NmV) (w : World) : Calls Tryz.prog 302 #[.agg #[.int .i64 x.sink, .int .i64 x.att, .int .i64 x.ser]] w fun e w' => e = .returned (.int .i64 (chkNm x)) ∧ Upd0 w w' := by
  obtain ⟨w1, hw1⟩ : ∃ w1, w1 = w.alloc (.cells #[.int .i64 x.sink, .int .i64 x.att, .int .i64 x.ser] 215) := ⟨_, rfl⟩
  have HU := Lib.hid (show Upd0 w w1 by rw [hw1]; exact (Upd.refl _ w).alloc _)
  obtain ⟨c0, c1, c2⟩ := cells3_of (show w1.heap[w.heap.size]? = some (.cells #[.int .i64 x.sink, .int .i64 x.att, .int .i64 x.ser] 215 (0, 0)) by rw [hw1]; exact alloc_at rfl)
  have HA := Lib.hid (counted_any x.att w1); have HS := Lib.hid (counted_any x.ser w1)
  obtain ⟨a, ha⟩ : ∃ a, a = cntB x.att := ⟨_, rfl⟩
  obtain ⟨s, hs⟩ : ∃ s, s = cntB x.ser := ⟨_, rfl⟩
  rw [← ha] at HA
  rw [← hs] at HS
  have HC := Lib.hid (show chkNm x = if x.sink < 0 ∨ 16 ≤ x.sink ∨ a = false ∨ s = false then 2 else 0 by rw [ha, hs]; rfl)
  obtain ⟨r, hr⟩ : ∃ r, r = chkNm x := ⟨_, rfl⟩
  rw [← hr] at HC ⊢
  clear ha hs hr
  go_enter Tryz.func302, Tryz.ntmps302
  by_cases h1 : x.sink < 0
  · have HE := Lib.hid (show r = 2 by rw [HC.out, if_pos (.inl h1)])
    go_wp2_with (fail)
    rw [← hw1]
    clear hw1
    go_wp2
    go_ret
    exact ⟨ret_int HE.out.symm, HU.out⟩
  · by_cases h2 : 16 ≤ x.sink
    · have HE := Lib.hid (show r = 2 by rw [HC.out, if_pos (.inr (.inl h2))])
      go_wp2_with (fail)
      rw [← hw1]
      clear hw1
      go_wp2
      go_ret
      exact ⟨ret_int HE.out.symm, HU.out⟩
    · go_wp2_with (go_at_call 347; fail)
      rw [← hw1]
      clear hw1
      (with_reducible refine HA.out.mono ?_)
      rintro _ w' ⟨rfl, rfl⟩
      simp only []
      cases a with
      | false =>
        have HE := Lib.hid (show r = 2 by rw [HC.out, if_pos (.inr (.inr (.inl rfl)))])
        go_wp2
        go_ret
        exact ⟨ret_int HE.out.symm, HU.out⟩
      | true =>
        go_wp2_with (go_at_call 347; fail)
        (with_reducible refine HS.out.mono ?_)
        rintro _ w' ⟨rfl, rfl⟩
        simp only []
        cases s with
        | false =>
          have HE := Lib.hid (show r = 2 by rw [HC.out, if_pos (.inr (.inr (.inr rfl)))])
          go_wp2
          go_ret
          exact ⟨ret_int HE.out.symm, HU.out⟩
        | true =>
          have HE := Lib.hid (show r = 0 by rw [HC.out, if_neg (by simp; omega)])
          go_wp2
          go_ret
          exact ⟨ret_int HE.out.symm, HU.out⟩
end Go.Proofs.YtbonfdkgkcbkmaaGreat
end

