/- Walks: the reference's Says. -/
import Derived.Test.YtbimkhdiplnbfaaGreatY3
import Derived.Test.YtbimkhdiplnbfaaGreatY21
import Derived.Test.YtbimkhdiplnbfaaGreatY22
import Derived.Test.YtbimkhdiplnbfaaGreatY25
import Derived.Maps.AppendAt
import Derived.Sort.LoopGhostIn
import Derived.Sort.CutIn
set_option linter.unusedVariables false
set_option linter.unusedSimpArgs false
namespace Go.Proofs.YtbimkhdiplnbfaaGreat
set_option maxRecDepth 1000000
set_option maxHeartbeats 16000000
section
open Go.RowKit Go.Shelf Go.Joins
def SofL (Ls : List (List Int)) (i : Int) : List Int := blkAt Ls (i - 2).toNat
theorem SofL_at {Ls : List (List Int)} {area : Int} {q : Nat} (hl : (Ls.length : Int) = 2 * area) : SofL Ls (atF area q) = blkAt Ls q := by
 unfold SofL blkAt atF
 have e : (2 + (q : Int) % (2 * area) - 2).toNat = q % Ls.length := by
  rw [← hl]
  omega
 rw [e, Nat.mod_mod]
theorem goR_some {T : Nat → List Int} {turn number : Int} {snap : Bool} {n : Nat} : ∀ {m k : Nat} {b : List Int}, (goR T turn number snap n m k).1 = some b → b = ownK T n (k + m)
 | 0, k, b, h => by
  unfold goR at h
  exact (Option.some.inj h).symm
 |m + 1, k, b, h => by
  unfold goR at h
  split at h
  ·rw [goR_some h, show k + 1 + m = k + (m + 1) by omega]
  ·cases h
theorem ownK_bytes {T : Nat → List Int} (hT : ∀ j, Bytes (T j)) (n k : Nat) : Bytes (ownK T n k) := by
 intro x hx
 unfold ownK padTo at hx
 rcases List.mem_append.1 hx with hx | hx
 ·have h1 := List.mem_of_mem_drop (List.mem_of_mem_take hx)
  unfold flatT at h1
  obtain ⟨j, _, hj⟩ := List.mem_flatMap.1 h1
  exact hT j x (List.mem_of_mem_drop hj)
 ·obtain ⟨_, rfl⟩ := List.mem_replicate.1 hx
  omega
theorem wholeR_some {T : Nat → List Int} {h : Hd} {number left : Int} {snap : Bool} {b : List Int} (hT : ∀ j, Bytes (T j)) (hr : (wholeR T h number snap left).1 = some b) : Bytes b ∧ b.length ≤ 40000 ∧ (secsN b.length : Int) ≤ left := by
 unfold wholeR at hr
 split at hr
 ·cases hr
 split at hr
 ·rename_i hs
  have e := goR_some hr
  have hl : b.length = (startN (T 0)).toNat := by rw [e, ownK_length]
  refine ⟨by rw [e]; exact ownK_bytes hT _ _, by rw [hl]; have := hs.2.2.1; omega, by rw [hl]; exact hs.2.2.2⟩
 ·cases hr
structure SyAt (B : Nat) (W : World) (x5 : Nat) (hd : Hd) (PV AV : Value) (ps : List (List Int)) (az : List Int) : Prop where
 log : W.heap[x5]? = some (.cells #[.int .i64 hd.turn, .int .i64 hd.area, .int .i64 hd.place, .int .i64 hd.number, PV, AV] 35 (0, 0))
 prow : ∃ vs, W.ownsRow B 39 1 PV ps.length vs ∧ ∀ (i : Nat) u b, vs[i]? = some u → ps[i]? = some b → ∃ g o c, u = .slice (some ⟨g, o, none⟩) b.length c ∧ B ≤ g ∧ g < W.heap.size ∧ g ≠ x5 ∧ PV.ownBlock ≠ some g ∧ AV.ownBlock ≠ some g ∧ BytesIn W u b
 arow : W.ownsRow B 3 1 AV az.length (az.map fun a => .int .i64 (a - 2))
theorem own_block {w : World} {B e s n k : Nat} {v : Value} {xs : List Value} (h : w.ownsRow B e s v n xs) (hk : v.ownBlock = some k) : ∃ cur, w.heap[k]? = some (.cells cur e (0, 0)) := by
 rcases h.2 with ⟨rfl, _⟩ | ⟨g, cap, cur, rfl, _, hg, _⟩
 ·simp [Value.ownBlock] at hk
 ·simp [Value.ownBlock] at hk
  subst hk
  exact ⟨_, hg⟩
theorem own_lt {w : World} {B e s n k : Nat} {v : Value} {xs : List Value} (h : w.ownsRow B e s v n xs) (hk : v.ownBlock = some k) : B ≤ k ∧ k < w.heap.size := by
 rcases h.2 with ⟨rfl, _⟩ | ⟨g, cap, cur, rfl, hB, hg, _⟩
 ·simp [Value.ownBlock] at hk
 ·simp [Value.ownBlock] at hk
  subst hk
  exact ⟨hB, lt_of_heap hg⟩
theorem own_apartQ {w : World} {B B' e e' s s' n n' k : Nat} {v v' : Value} {xs xs' : List Value} (h : w.ownsRow B e s v n xs) (h' : w.ownsRow B' e' s' v' n' xs') (he : e ≠ e') (hk : v.ownBlock = some k) : v'.ownBlock ≠ some k := fun hk' => by
 obtain ⟨c1, h1⟩ := own_block h hk
 obtain ⟨c2, h2⟩ := own_block h' hk'
 rw [h1] at h2
 injection h2 with h2
 injection h2 with _ h2 _
 exact he h2
theorem own_not {w : World} {B e s n k t : Nat} {v : Value} {xs : List Value} {cs : Array Value} (h : w.ownsRow B e s v n xs) (hc : w.heap[k]? = some (.cells cs t (0, 0))) (he : e ≠ t) : v.ownBlock ≠ some k := fun hk => by
 obtain ⟨c1, h1⟩ := own_block h hk
 rw [h1] at hc
 injection hc with h2
 injection h2 with _ h2 _
 exact he h2
theorem SyAt.kept {B : Nat} {W W' : World} {x5 : Nat} {hd : Hd} {PV AV : Value} {ps : List (List Int)} {az : List Int} (h : SyAt B W x5 hd PV AV ps az) (hu : Upd (fun _ => False) W W') : SyAt B W' x5 hd PV AV ps az := by
 obtain ⟨vs, h1, h2⟩ := h.prow
 exact ⟨(hu.block _ (lt_of_heap h.log) (fun e => e)).trans h.log, ⟨vs, ownsRow_any h1 hu (fun _ _ e => e), fun i u b hi hb => by
  obtain ⟨g, o, c, e, q1, q2, q3, q4, q5, q6⟩ := h2 i u b hi hb
  exact ⟨g, o, c, e, q1, Nat.lt_of_lt_of_le q2 hu.size, q3, q4, q5, q6.kept hu⟩⟩, ownsRow_any h.arow hu (fun _ _ e => e)⟩
theorem Tryz.size35s : (Tryz.prog.info? 35).map (·.size) = some 6 := by kernel_rfl
theorem Tryz.info3w : (Tryz.prog.info? 3).map (fun i => (i.zero, i.size, i.bytes)) = some (some (.int .i64 0), 1, 8) := by kernel_rfl
theorem Tryz.info39w : (Tryz.prog.info? 39).map (fun i => (i.zero, i.size, i.bytes)) = some (some (.slice none 0 0), 1, 24) := by kernel_rfl
theorem Tryz.under33w : Tryz.prog.underlying 33 = some (.slice 3) := by kernel_rfl
theorem Tryz.under32w : Tryz.prog.underlying 32 = some (.slice 39) := by kernel_rfl
theorem SyAt.appA {B : Nat} {W : World} {x5 : Nat} {hd : Hd} {PV AV : Value} {ps : List (List Int)} {az : List Int} {a : Int} {g ty : Nat} (h : SyAt B W x5 hd PV AV ps az) (hg : W.cell? ⟨g, 0, none⟩ = some (.int .i64 (a - 2))) (hl : az.length ≤ 10000000) (hB : B ≤ W.heap.size) :
  ∃ v' W', (Builtin.append_ #[33, 33] ty #[AV, .slice (some ⟨g, 0, none⟩) 1 1]).run Tryz.prog W = .ok v' W' ∧ Upd (fun k => AV.ownBlock = some k) W W' ∧ (∃ a n c, v' = .slice a n c) ∧ W'.heap[x5]? = W.heap[x5]? ∧
   (∀ W2, W2.heap[x5]? = some (.cells #[.int .i64 hd.turn, .int .i64 hd.area, .int .i64 hd.place, .int .i64 hd.number, PV, v'] 35 (0, 0)) → Upd (fun k => k = x5) W' W2 → SyAt B W2 x5 hd PV v' ps (az ++ [a]) ∧ ∀ k, v'.ownBlock = some k → AV.ownBlock = some k ∨ W.heap.size ≤ k) := by
 obtain ⟨i, hi, hz, hs, hb⟩ := info_parts Tryz.info3w
 obtain ⟨v', W', hr, g1, g2, _, g3⟩ := run_append_own_at (P := Tryz.prog) (w := W) B 33 ty 3 i (.int .i64 0) 1 8 Tryz.under33w hi hz hs hb rfl (by omega) AV az.length (az.map fun a => .int .i64 (a - 2)) h.arow ⟨g, 0, none⟩ 1 1 [.int .i64 (a - 2)] rfl (fun j u hj => by
  match j, hj with
  | 0, hj => simp at hj; subst hj; simpa [Addr.add] using hg
  |j + 1, hj => simp at hj) (fun u hu => by simp at hu; subst hu; rfl) (by unfold maxLen; omega) (by omega) hB
 have hu : Upd (fun k => AV.ownBlock = some k) W W' := Upd.of_grown g2 (fun k hk => hk)
 have hx5 : W'.heap[x5]? = W.heap[x5]? := hu.block _ (lt_of_heap h.log) (own_not h.arow h.log (by decide))
 refine ⟨v', W', hr, hu, (by obtain ⟨a9, c9, e9⟩ := rowV g1; exact ⟨a9, _, c9, e9⟩), hx5, fun W2 hW2 hu2 => ⟨?_, ?_⟩⟩
 rotate_left
 ·intro k hk
  rcases g3 with g3 | g3
  ·exact .inl (by rw [← g3]; exact hk)
  ·rw [g3] at hk; exact .inr (by injection hk with hk; omega)
 obtain ⟨vs, h1, h2⟩ := h.prow
 have hv5 : ∀ k, v'.ownBlock = some k → k ≠ x5 := fun k hk e => by
  subst e
  exact own_not g1 (hx5.trans h.log) (by decide) hk
 have hP : ∀ k, PV.ownBlock = some k → AV.ownBlock ≠ some k := fun k hk => own_apartQ h1 h.arow (by decide) hk
 have hP5 : ∀ k, PV.ownBlock = some k → ¬ k = x5 := fun k hk e => by
  subst e
  exact own_not h1 h.log (by decide) hk
 refine ⟨hW2, ⟨vs, ownsRow_any (ownsRow_any h1 hu hP) hu2 hP5, fun i u b hi2 hb2 => ?_⟩, ?_⟩
 ·obtain ⟨g9, o, c, e, q1, q2, q3, q4, q5, q6⟩ := h2 i u b hi2 hb2
  refine ⟨g9, o, c, e, q1, Nat.lt_of_lt_of_le q2 (Nat.le_trans hu.size hu2.size), q3, q4, ?_, ?_⟩
  ·rcases g3 with g3 | g3
   ·rw [g3]; exact q5
   ·rw [g3]; intro e9; injection e9 with e9; omega
  ·subst e
   refine (q6.keptF hu (fun _ a n c e => ?_)).keptF hu2 (fun _ a n c e => ?_)
   ·injection e with e _ _; injection e with e; subst e; exact q5
   ·injection e with e _ _; injection e with e; subst e; exact q3
 ·have := ownsRow_any g1 hu2 (fun k hk => hv5 k hk)
  simpa using this
theorem SyAt.appP {B : Nat} {W : World} {x5 : Nat} {hd : Hd} {PV AV : Value} {ps : List (List Int)} {az : List Int} {b : List Int} {g gb ob cb ty : Nat} (h : SyAt B W x5 hd PV AV ps az) (hg : W.cell? ⟨g, 0, none⟩ = some (.slice (some ⟨gb, ob, none⟩) b.length cb)) (hgb : B ≤ gb) (hgl : gb < W.heap.size) (hb : BytesIn W (.slice (some ⟨gb, ob, none⟩) b.length cb) b) (hgx : gb ≠ x5) (hgp : PV.ownBlock ≠ some gb) (hga : AV.ownBlock ≠ some gb) (hl : ps.length ≤ 10000000) (hB : B ≤ W.heap.size) :
  ∃ v' W', (Builtin.append_ #[32, 32] ty #[PV, .slice (some ⟨g, 0, none⟩) 1 1]).run Tryz.prog W = .ok v' W' ∧ Upd (fun k => PV.ownBlock = some k) W W' ∧ (∃ a n c, v' = .slice a n c) ∧ W'.heap[x5]? = W.heap[x5]? ∧
   (∀ W2, W2.heap[x5]? = some (.cells #[.int .i64 hd.turn, .int .i64 hd.area, .int .i64 hd.place, .int .i64 hd.number, v', AV] 35 (0, 0)) → Upd (fun k => k = x5) W' W2 → SyAt B W2 x5 hd v' AV (ps ++ [b]) az) := by
 obtain ⟨i, hi, hz, hs, hby⟩ := info_parts Tryz.info39w
 obtain ⟨vs, h1, h2⟩ := h.prow
 obtain ⟨v', W', hr, g1, g2, _, g3⟩ := run_append_own_at (P := Tryz.prog) (w := W) B 32 ty 39 i (.slice none 0 0) 1 24 Tryz.under32w hi hz hs hby rfl (by omega) PV ps.length vs h1 ⟨g, 0, none⟩ 1 1 [.slice (some ⟨gb, ob, none⟩) b.length cb] rfl (fun j u hj => by
  match j, hj with
  | 0, hj => simp at hj; subst hj; simpa [Addr.add] using hg
  |j + 1, hj => simp at hj) (fun u hu => by simp at hu; subst hu; rfl) (by unfold maxLen; omega) (by omega) hB
 have hu : Upd (fun k => PV.ownBlock = some k) W W' := Upd.of_grown g2 (fun k hk => hk)
 have hx5 : W'.heap[x5]? = W.heap[x5]? := hu.block _ (lt_of_heap h.log) (own_not h1 h.log (by decide))
 refine ⟨v', W', hr, hu, (by obtain ⟨a9, c9, e9⟩ := rowV g1; exact ⟨a9, _, c9, e9⟩), hx5, fun W2 hW2 hu2 => ?_⟩
 have hv5 : ∀ k, v'.ownBlock = some k → k ≠ x5 := fun k hk e => by
  subst e
  exact own_not g1 (hx5.trans h.log) (by decide) hk
 have hA : ∀ k, AV.ownBlock = some k → PV.ownBlock ≠ some k := fun k hk => own_apartQ h.arow h1 (by decide) hk
 have hA5 : ∀ k, AV.ownBlock = some k → ¬ k = x5 := fun k hk e => by
  subst e
  exact own_not h.arow h.log (by decide) hk
 have hnew : ∀ k, k < W.heap.size → PV.ownBlock ≠ some k → v'.ownBlock ≠ some k := fun k hk hp => by
  rcases g3 with g3 | g3
  ·rw [g3]; exact hp
  ·rw [g3]; intro e9; injection e9 with e9; omega
 have hkeep : ∀ (g9 o n c : Nat) (bs : List Int), g9 ≠ x5 → PV.ownBlock ≠ some g9 → BytesIn W (.slice (some ⟨g9, o, none⟩) n c) bs → BytesIn W2 (.slice (some ⟨g9, o, none⟩) n c) bs := fun g9 o n c bs n1 n2 q => by
  refine (q.keptF hu (fun _ a n c e => ?_)).keptF hu2 (fun _ a n c e => ?_)
  ·injection e with e _ _; injection e with e; subst e; exact n2
  ·injection e with e _ _; injection e with e; subst e; exact n1
 refine ⟨hW2, ⟨vs ++ [.slice (some ⟨gb, ob, none⟩) b.length cb], ?_, fun i u b2 hi2 hb2 => ?_⟩, ownsRow_any (ownsRow_any h.arow hu hA) hu2 hA5⟩
 ·have := ownsRow_any g1 hu2 (fun k hk => hv5 k hk)
  simpa using this
 ·have hvl : vs.length = ps.length := by have := h1.1; omega
  rcases Nat.lt_or_ge i vs.length with hlt | hge
  ·rw [List.getElem?_append_left hlt] at hi2
   rw [List.getElem?_append_left (by omega)] at hb2
   obtain ⟨g9, o, c, e, q1, q2, q3, q4, q5, q6⟩ := h2 i u b2 hi2 hb2
   subst e
   exact ⟨g9, o, c, rfl, q1, Nat.lt_of_lt_of_le q2 (Nat.le_trans hu.size hu2.size), q3, hnew g9 q2 q4, q5, hkeep _ _ _ _ _ q3 q4 q6⟩
  ·have hi0 : i = vs.length := by
    have := (List.getElem?_eq_some_iff.1 hi2).1
    simp at this
    omega
   subst hi0
   simp at hi2
   rw [hvl] at hb2
   simp at hb2
   subst hi2
   subst hb2
   exact ⟨gb, ob, cb, rfl, hgb, Nat.lt_of_lt_of_le hgl (Nat.le_trans hu.size hu2.size), hgx, hnew gb hgl hgp, hga, hkeep _ _ _ _ _ hgx hgp hb⟩
theorem askP_snoc (h : Hd) (place : Int) (k : Nat) : askP h place 0 (k + 1) = askP h place 0 k ++ [atF h.area (place + k)] := by
 simp [askP, List.range'_1_concat]
theorem askP_length (h : Hd) (place : Int) (k n : Nat) : (askP h place k n).length = n := by simp [askP]
theorem goR_le (T : Nat → List Int) (turn number : Int) (snap : Bool) (n : Nat) : ∀ m k, (goR T turn number snap n m k).2 ≤ k + m
 | 0, k => Nat.le_refl _
 |m + 1, k => by
  unfold goR
  split
  ·have := goR_le T turn number snap n m (k + 1); omega
  ·show k + 1 ≤ _
   omega
theorem wholeR_le {T : Nat → List Int} {h : Hd} {number left : Int} {snap : Bool} : (wholeR T h number snap left).2 ≤ 834 := by
 unfold wholeR
 split
 ·exact Nat.zero_le _
 split
 ·rename_i hs
  have := goR_le T (startT (T 0)) number snap (startN (T 0)).toNat (secsN (startN (T 0)).toNat) 0
  have h2 := secsN_bound (n := (startN (T 0)).toNat) (by have := hs.2.2.1; omega)
  omega
 ·show 1 ≤ 834
  omega
theorem saysA_none {S : Int → List Int} {h : Hd} {f : Nat} {ps : List (List Int)} {u : Int} {q : Option (List Int) × Nat} (hq : wholeR (fun k => S (atF h.area (h.place + u + k))) h (h.number + ps.length) (decide (ps = [])) (h.area - u) = q) (hr : q.1 = none) : saysA S h (f + 1) ps u = (ps, askP h (h.place + u) 0 q.2) := by
 unfold saysA
 rw [hq]
 obtain ⟨r, c⟩ := q
 simp only at hr
 subst hr
 rfl
theorem saysA_some {S : Int → List Int} {h : Hd} {f : Nat} {ps : List (List Int)} {u : Int} {b : List Int} {q : Option (List Int) × Nat} (hq : wholeR (fun k => S (atF h.area (h.place + u + k))) h (h.number + ps.length) (decide (ps = [])) (h.area - u) = q) (hr : q.1 = some b) : saysA S h (f + 1) ps u = ((saysA S h f (ps ++ [b]) (u + secsN b.length)).1, askP h (h.place + u) 0 q.2 ++ (saysA S h f (ps ++ [b]) (u + secsN b.length)).2) := by
 conv => lhs; unfold saysA
 rw [hq]
 obtain ⟨r, c⟩ := q
 simp only at hr
 subst hr
 rfl
structure SySt (w W : World) (bh br x5 : Nat) (hd : Hd) (PV AV : Value) (ps : List (List Int)) (az : List Int) : Prop where
 sy : SyAt (w.heap.size + 2) W x5 hd PV AV ps az
 head : W.heap[bh]? = some (.cells #[.int .i64 hd.turn, .int .i64 hd.area, .int .i64 hd.place, .int .i64 hd.number] 31 (0, 0))
 res : ∃ c0 c1 c2 c3 c4 c5, W.heap[br]? = some (.cells #[c0, c1, c2, c3, c4, c5] 35 (0, 0))
 upd : Upd (fun _ => False) w W
theorem SySt.kept {w W W' : World} {bh br x5 : Nat} {hd : Hd} {PV AV : Value} {ps : List (List Int)} {az : List Int} (h : SySt w W bh br x5 hd PV AV ps az) (hu : Upd (fun _ => False) W W') : SySt w W' bh br x5 hd PV AV ps az := by
 obtain ⟨c0, c1, c2, c3, c4, c5, h3⟩ := h.res
 exact ⟨h.sy.kept hu, (hu.block _ (lt_of_heap h.head) (fun e => e)).trans h.head, ⟨c0, c1, c2, c3, c4, c5, (hu.block _ (lt_of_heap h3) (fun e => e)).trans h3⟩, h.upd.trans hu⟩
theorem wsays_any {gl lc : Nat} {Ls : List (List Int)} (hd : Hd) (w : World) (hL : BlksAt w (some ⟨gl, 0, none⟩) Ls) (hlen : (Ls.length : Int) = 2 * hd.area) (ht : 1 ≤ hd.turn ∧ hd.turn ≤ 1073741824) (ha : 4 ≤ hd.area ∧ hd.area ≤ 1000) (hpl : 0 ≤ hd.place ∧ hd.place < 2 * hd.area) (hnu : 1 ≤ hd.number ∧ hd.number ≤ 1073741824) :
  Calls Tryz.prog 133 #[hd.val, .slice (some ⟨gl, 0, none⟩) Ls.length lc] w fun e w' => ∃ PV AV x5, e = .returned (.agg #[.int .i64 hd.turn, .int .i64 hd.area, .int .i64 hd.place, .int .i64 hd.number, PV, AV]) ∧ SyAt w.heap.size w' x5 hd PV AV (saysA (SofL Ls) hd 1001 [] 0).1 (saysA (SofL Ls) hd 1001 [] 0).2 ∧ Upd (fun _ => False) w w' := by
 obtain ⟨A, hA⟩ : ∃ A, A = saysA (SofL Ls) hd 1001 [] 0 := ⟨_, rfl⟩
 rw [← hA]
 have HL := Lib.hid hL; have HA := Lib.hid hA; have HLEN := Lib.hid hlen
 obtain ⟨n, hn⟩ : ∃ n, n = Ls.length := ⟨_, rfl⟩
 rw [← hn] at hlen ⊢
 have HN := Lib.hid hn
 have hSat : ∀ q : Nat, SofL Ls (atF hd.area q) = blkAt Ls q := fun q => SofL_at HLEN.out
 have HSAT := Lib.hid hSat
 have hnI : ¬ (n : Int) = 0 := by omega
 have hnB : ((n : Int) == 0) = false := by simpa using hnI
 obtain ⟨bh, hbh⟩ : ∃ bh, bh = w.heap.size := ⟨_, rfl⟩
 unfold Hd.val
 clear hL hA hn hSat
 go_enter Tryz.func133, Tryz.ntmps133
 go_upto_region 1 with fail
 obtain ⟨w1, hw1⟩ : ∃ w1, w1 = (w.alloc (.cells #[.int .i64 hd.turn, .int .i64 hd.area, .int .i64 hd.place, .int .i64 hd.number] 31)).alloc (.cells #[.int .i64 0, .int .i64 0, .int .i64 0, .int .i64 0, .slice none 0 0, .slice none 0 0] 35) := ⟨_, rfl⟩
 have hu1 : Upd (fun _ => False) w w1 := by rw [hw1]; exact ((Upd.refl _ w).alloc _).alloc _
 have hs1 : w1.heap.size = w.heap.size + 2 := by rw [hw1]; simp
 have hh1 : w1.heap[bh]? = some (.cells #[.int .i64 hd.turn, .int .i64 hd.area, .int .i64 hd.place, .int .i64 hd.number] 31 (0, 0)) := by rw [hw1, hbh]; exact (alloc_lt (by simp)).trans (alloc_at rfl)
 have hr1 : w1.heap[bh + 1]? = some (.cells #[.int .i64 0, .int .i64 0, .int .i64 0, .int .i64 0, .slice none 0 0, .slice none 0 0] 35 (0, 0)) := by rw [hw1, hbh]; exact alloc_at (by simp)
 rw [← hw1, ← hbh]
 have HH1 := Lib.hid hh1; have HR1 := Lib.hid hr1; have HU1 := Lib.hid hu1; have HS1 := Lib.hid hs1; have HBH := Lib.hid hbh
 obtain ⟨c0, c1, c2, c3⟩ := cells4_of hh1
 clear hu1 hs1 hh1 hr1 hw1 hbh
 go_upto_region 2 with fail
 obtain ⟨x5, hx5⟩ : ∃ x5, x5 = w1.heap.size := ⟨_, rfl⟩
 obtain ⟨w2, hw2⟩ : ∃ w2, w2 = w1.alloc (.cells #[.int .i64 hd.turn, .int .i64 hd.area, .int .i64 hd.place, .int .i64 hd.number, .slice none 0 0, .slice none 0 0] 35) := ⟨_, rfl⟩
 have hu2 : Upd (fun _ => False) w1 w2 := by rw [hw2]; exact (Upd.refl _ _).alloc _
 have hx2 : w2.heap[x5]? = some (.cells #[.int .i64 hd.turn, .int .i64 hd.area, .int .i64 hd.place, .int .i64 hd.number, .slice none 0 0, .slice none 0 0] 35 (0, 0)) := by rw [hw2]; exact alloc_at hx5
 have HST : RowKit.Hid (SySt w w2 bh (bh + 1) x5 hd (.slice none 0 0) (.slice none 0 0) [] []) := Lib.hid
  ⟨⟨hx2, ⟨[], World.ownsRow_nil _ _ _ _, fun i u b hi => by simp at hi⟩, World.ownsRow_nil _ _ _ _⟩, (hu2.block _ (lt_of_heap HH1.out) (fun e => e)).trans HH1.out, ⟨_, _, _, _, _, _, (hu2.block _ (lt_of_heap HR1.out) (fun e => e)).trans HR1.out⟩, HU1.out.trans hu2⟩
 rw [← hx5, ← hw2]
 have HX5 : RowKit.Hid (bh + 2 = x5) := Lib.hid (by rw [hx5, HS1.out, HBH.out])
 have HA0 : RowKit.Hid (A = ((saysA (SofL Ls) hd 1001 [] 0).1, [] ++ (saysA (SofL Ls) hd 1001 [] 0).2)) := Lib.hid (by rw [HA.out]; rfl)
 have HT := Lib.hid ht; have HAR := Lib.hid ha; have HPLA := Lib.hid hpl; have HNUM := Lib.hid hnu; have HLN := Lib.hid hlen; have HNI := Lib.hid hnI; have HNB := Lib.hid hnB
 clear hu2 hx2 hw2 hx5 HH1 HR1 HU1 HS1 HA c0 c1 c2 c3 ht ha hpl hnu hlen hnI hnB
 go_upto_region 3 with fail
 go_loopg [6] 1001 (fun gk u wr => ∃ (ps : List (List Int)) (az : List Int) (U f : Nat) (PV AV : Value), u = .int .i64 U ∧ gk = 1001 - U ∧ (U : Int) ≤ hd.area ∧ hd.area - U < f ∧ ps.length ≤ U ∧ az.length ≤ 834 * ps.length ∧ A = ((saysA (SofL Ls) hd f ps U).1, az ++ (saysA (SofL Ls) hd f ps U).2) ∧ SySt w wr bh (bh + 1) x5 hd PV AV ps az)
 case atStart => exact ⟨[], [], 0, 1001, _, _, rfl, rfl, by have := HAR.out; omega, by have := HAR.out; omega, Nat.le_refl _, Nat.zero_le _, HA0.out, HST.out⟩
 case round =>
  clear HA0 HST
  obtain ⟨ps, az, U, f, PV, AV, rfl, rfl, hU, hf, hpU, haz, hA, hst⟩ := hrel
  obtain ⟨wo, rfl⟩ : ∃ wo, wo = wr := ⟨_, rfl⟩
  have HAE := Lib.hid hA; have HS := Lib.hid hst
  obtain ⟨vs, hp1, hp2⟩ := hst.sy.prow
  obtain ⟨pa, pc, rfl⟩ := rowV hp1
  have hpl := HPLA.out; have har := HAR.out; have hnum := HNUM.out
  obtain ⟨P, hP⟩ := Int.eq_ofNat_of_zero_le (show 0 ≤ hd.place + (U : Int) by omega)
  have hwp : IntKind.i64.wrap (hd.place + (U : Int)) = (P : Int) := by rw [IntKind.wrap_i64]; omega
  have hwn : IntKind.i64.wrap (hd.number + (ps.length : Int)) = hd.number + ps.length := by rw [IntKind.wrap_i64]; omega
  have hwl : IntKind.i64.wrap (hd.area - (U : Int)) = hd.area - U := by rw [IntKind.wrap_i64]; omega
  obtain ⟨f', rfl⟩ : ∃ f', f = f' + 1 := ⟨f - 1, by omega⟩
  have hwh := fun snap => wwhole_any (lc := lc) (p := P) hd (hd.number + ps.length) (hd.area - U) snap wo (HL.out.kept hst.upd) ⟨HT.out, by omega, by omega, by omega, by have := HLN.out; have := HN.out; omega⟩
  rw [← HN.out] at hwh
  have HWH := Lib.hid hwh
  have HF := Lib.hid hf; have HUB := Lib.hid hU; have HPU := Lib.hid hpU; have HAZ := Lib.hid haz; have HP := Lib.hid hP
  obtain ⟨c0, c1, c2, c3⟩ := cells4_of hst.head
  obtain ⟨d0, d1, d2, d3, d4, d5⟩ := cells6_of hst.sy.log
  clear hA hst hp1 hp2 hpl har hnum hP hwh hf hU hpU haz
  go_wp2_with (go_at_call 174; fail)
  refine (HWH.out _).mono ?_
  rintro e w3 ⟨hu3, v, rfl, hv⟩
  have hsn : ((ps.length : Int) == 0) = decide (ps = []) := by cases ps <;> simp <;> omega
  obtain ⟨R, hR⟩ : ∃ R, R = wholeR (fun k => blkAt Ls (P + k)) hd (hd.number + ps.length) ((ps.length : Int) == 0) (hd.area - U) := ⟨_, rfl⟩
  rw [← hR] at hv ⊢
  have hTe : (fun k : Nat => SofL Ls (atF hd.area (hd.place + (U : Int) + k))) = fun k => blkAt Ls (P + k) := by
   funext k
   rw [show hd.place + (U : Int) + (k : Int) = ((P + k : Nat) : Int) by rw [HP.out]; push_cast; rfl]
   exact HSAT.out (P + k)
  rw [hsn, ← hTe] at hR
  have HN0 : RowKit.Hid (R.1 = none → A = (ps, az ++ askP hd (P : Int) 0 R.2)) := Lib.hid (fun e => by rw [HAE.out, saysA_none hR.symm e, HP.out])
  have HS0 : RowKit.Hid (∀ b, R.1 = some b → A = ((saysA (SofL Ls) hd f' (ps ++ [b]) ((U : Int) + secsN b.length)).1, (az ++ askP hd (P : Int) 0 R.2) ++ (saysA (SofL Ls) hd f' (ps ++ [b]) ((U : Int) + secsN b.length)).2)) := Lib.hid (fun b e => by rw [HAE.out, saysA_some hR.symm e, HP.out, List.append_assoc])
  have HB0 : RowKit.Hid (∀ b, R.1 = some b → Bytes b ∧ b.length ≤ 40000 ∧ (secsN b.length : Int) ≤ hd.area - U) := Lib.hid (fun b e => wholeR_some (fun j => (HL.out.blk (by have := HLN.out; have := HN.out; have := HAR.out; omega) _).2) (by rw [hTe] at hR; rw [← hR]; exact e))
  have HRL : RowKit.Hid (R.2 ≤ 834) := Lib.hid (by rw [hR]; exact wholeR_le)
  obtain ⟨cn, hcn⟩ : ∃ cn, cn = R.2 := ⟨_, rfl⟩
  have HNEW : RowKit.Hid (∀ b, R.1 = some b → ∃ g o c, v = .slice (some ⟨g, o, none⟩) b.length c ∧ w.heap.size + 2 ≤ g ∧ g < w3.heap.size ∧ g ≠ x5 ∧ (Value.slice pa ps.length pc).ownBlock ≠ some g ∧ AV.ownBlock ≠ some g ∧ BytesIn w3 v b) := Lib.hid (fun b e => by
   obtain ⟨g, o, c, rfl, q1, q2, q3⟩ := hv b e
   obtain ⟨vs2, z1, _⟩ := HS.out.sy.prow
   exact ⟨g, o, c, rfl, by have := lt_of_heap HS.out.sy.log; have := HX5.out; have := HBH.out; omega, q2, fun e9 => by have := lt_of_heap HS.out.sy.log; omega, fun e9 => by have := (own_lt z1 e9).2; omega, fun e9 => by have := (own_lt HS.out.sy.arow e9).2; omega, q3⟩)
  have HS3 := Lib.hid (HS.out.kept hu3)
  rw [← hcn] at HN0 HS0 HRL ⊢
  have HCN := Lib.hid hcn
  clear hu3 hv hsn hTe hR hcn HS HWH c0 c1 c2 c3 d0 d1 d2 d3 d4 d5 hwp hwn hwl vs
  simp only []
  go_upto_region 5 with fail
  go_loopg [39] cn (fun gk i wr => ∃ (k : Nat) (AV2 : Value), k ≤ cn ∧ gk = cn - k ∧ i = .int .i64 k ∧ SySt w wr bh (bh + 1) x5 hd (.slice pa ps.length pc) AV2 ps (az ++ askP hd (P : Int) 0 k) ∧
   ∀ b, R.1 = some b → ∃ g o c, v = .slice (some ⟨g, o, none⟩) b.length c ∧ w.heap.size + 2 ≤ g ∧ g < wr.heap.size ∧ g ≠ x5 ∧ (Value.slice pa ps.length pc).ownBlock ≠ some g ∧ AV2.ownBlock ≠ some g ∧ BytesIn wr v b)
  case atStart => exact ⟨0, AV, Nat.zero_le _, rfl, rfl, by have := HS3.out; simpa [askP] using this, HNEW.out⟩
  case round =>
   clear HS3 HNEW
   obtain ⟨k, AV2, hk, rfl, rfl, hst, hnew⟩ := hrel
   obtain ⟨wq, rfl⟩ : ∃ wq, wq = wr := ⟨_, rfl⟩
   have HS := Lib.hid hst; have HNEW := Lib.hid hnew
   clear hst hnew
   by_cases hkn : k < cn
   ·have hki : (k : Int) < cn := by omega
    obtain ⟨aa, ac, rfl⟩ := rowV HS.out.sy.arow
    have hrl := HRL.out; have haz := HAZ.out; have hpu := HPU.out; have hub := HUB.out; have har := HAR.out; have hpo := HPLA.out; have hP2 := HP.out
    obtain ⟨al, hal⟩ : ∃ al, al = (az ++ askP hd (P : Int) 0 k).length := ⟨_, rfl⟩
    have hall : al ≤ 2000000 := by rw [hal, List.length_append, askP_length]; omega
    have hwp : IntKind.i64.wrap (hd.place + (U : Int)) = (P : Int) := by rw [IntKind.wrap_i64]; omega
    have hwk : IntKind.i64.wrap ((P : Int) + (k : Int)) = P + k := by rw [IntKind.wrap_i64]; omega
    have htm : ((P : Int) + (k : Int)).tmod (n : Int) = (P + k) % n := Int.tmod_eq_emod_of_nonneg (by omega)
    have hnI := HNI.out; have hnB := HNB.out
    have hnN : ¬ n = 0 := by omega
    have hat2 : ((P : Int) + (k : Int)) % (n : Int) = atF hd.area ((P : Int) + (k : Int)) - 2 := by unfold atF; rw [HLN.out]; omega
    have HAT2 := Lib.hid hat2
    have HALL := Lib.hid hall; have HAL := Lib.hid hal
    clear hrl haz hpu hub har hpo hP2 hall hal hat2
    go_upto_region 7 with fail
    have HSD := Lib.hid (HS.out.kept ((Upd.refl (fun _ => False) wq).drew))
    have HUD := Lib.hid ((Upd.refl (fun _ => False) wq).drew)
    have hA : wq.drew.heap[x5]? = some (.cells #[.int .i64 hd.turn, .int .i64 hd.area, .int .i64 hd.place, .int .i64 hd.number, .slice pa ps.length pc, .slice aa al ac] 35 (0, 0)) ∧ wq.drew.heap[bh]? = some (.cells #[.int .i64 hd.turn, .int .i64 hd.area, .int .i64 hd.place, .int .i64 hd.number] 31 (0, 0)) := ⟨by rw [HAL.out]; exact HS.out.sy.log, HS.out.head⟩
    refine wp_region_G 14 (fun W => W.heap[x5]? = some (.cells #[.int .i64 hd.turn, .int .i64 hd.area, .int .i64 hd.place, .int .i64 hd.number, .slice pa ps.length pc, .slice aa al ac] 35 (0, 0)) ∧ W.heap[bh]? = some (.cells #[.int .i64 hd.turn, .int .i64 hd.area, .int .i64 hd.place, .int .i64 hd.number] 31 (0, 0))) [false, false, false, false, false, false, false, false, false, false, false, false, false, false, false] rfl (by kernel_rfl) ?_
    generalize wq.drew = wd at hA HSD HUD ⊢
    refine wpG_takeP (i := 0) (v := .pointer (some ⟨x5, 5, none⟩)) rfl (by kernel_rfl) (fun _ _ _ h => h) hA (.inl ⟨rfl, fun w5 q1 => ?_⟩) ?_
    ·go_simp
    simp only [Act.put, List.setIfInBounds_toArray, List.set]
    refine wpG_takeT (i := 1) (v := .slice aa al ac) rfl (fun L hc h => (hc.waits (n := 14) (i := 1) (by kernel_rfl) h)) (by kernel_rfl) (fun _ _ _ h => h) hA (.inl ⟨rfl, fun w5 q1 => ?_⟩) ?_
    ·obtain ⟨c0, c1, c2, c3, c4, c5⟩ := cells6_of q1.1
     go_simp
    simp only [Act.put, List.setIfInBounds_toArray, List.set]
    refine wpG_takeP (i := 2) (v := .pointer (some ⟨bh, 2, none⟩)) rfl (by kernel_rfl) (fun _ _ _ h => h) hA (.inl ⟨rfl, fun w5 q1 => ?_⟩) ?_
    ·go_simp
    simp only [Act.put, List.setIfInBounds_toArray, List.set]
    refine wpG_takeT (i := 3) (v := .int .i64 hd.place) rfl (fun L hc h => (hc.waits (n := 14) (i := 3) (by kernel_rfl) h)) (by kernel_rfl) (fun _ _ _ h => h) hA (.inl ⟨rfl, fun w5 q1 => ?_⟩) ?_
    ·obtain ⟨c0, c1, c2, c3⟩ := cells4_of q1.2
     go_simp
    simp only [Act.put, List.setIfInBounds_toArray, List.set]
    refine wpG_takeP (i := 4) (v := .int .i64 U) rfl (by kernel_rfl) (fun _ _ _ h => h) hA (.inl ⟨rfl, fun w5 q1 => ?_⟩) ?_
    ·go_simp
    simp only [Act.put, List.setIfInBounds_toArray, List.set]
    refine wpG_takeP (i := 5) (v := .int .i64 P) rfl (by kernel_rfl) (fun _ _ _ h => h) hA (.inl ⟨rfl, fun w5 q1 => ?_⟩) ?_
    ·go_simp
    simp only [Act.put, List.setIfInBounds_toArray, List.set]
    refine wpG_takeP (i := 6) (v := .int .i64 k) rfl (by kernel_rfl) (fun _ _ _ h => h) hA (.inl ⟨rfl, fun w5 q1 => ?_⟩) ?_
    ·go_simp
    simp only [Act.put, List.setIfInBounds_toArray, List.set]
    refine wpG_takeP (i := 7) (v := .int .i64 (P + k)) rfl (by kernel_rfl) (fun _ _ _ h => h) hA (.inl ⟨rfl, fun w5 q1 => ?_⟩) ?_
    ·go_simp
    simp only [Act.put, List.setIfInBounds_toArray, List.set]
    refine wpG_takeP (i := 8) (v := .slice (some ⟨gl, 0, none⟩) n lc) rfl (by kernel_rfl) (fun _ _ _ h => h) hA (.inl ⟨rfl, fun w5 q1 => ?_⟩) ?_
    ·go_simp
    simp only [Act.put, List.setIfInBounds_toArray, List.set]
    refine wpG_takeT (i := 9) (v := .int .i64 n) rfl (fun L hc h => (hc.waits (n := 14) (i := 9) (by kernel_rfl) h)) (by kernel_rfl) (fun _ _ _ h => h) hA (.inl ⟨rfl, fun w5 q1 => ?_⟩) ?_
    ·go_simp
    simp only [Act.put, List.setIfInBounds_toArray, List.set]
    refine wpG_takeP (i := 10) (v := .int .i64 ((P + k) % n)) rfl (by kernel_rfl) (fun _ _ _ h => h) hA (.inl ⟨rfl, fun w5 q1 => ?_⟩) ?_
    ·go_simp
    simp only [Act.put, List.setIfInBounds_toArray, List.set]
    refine wpG_doIf (i := 11) rfl (by kernel_rfl) rfl (fun K hK => ?_)
    have HKK := Lib.hid hK
    clear hK
    go_step
    have ua : Upd (fun _ => False) wd (wd.alloc (.cells #[.int .i64 (((P : Int) + k) % n)] 3)) := (Upd.refl _ _).alloc _
    have HSX := Lib.hid (HSD.out.kept ua)
    have hg0 : (wd.alloc (.cells #[.int .i64 (((P : Int) + k) % n)] 3)).cell? ⟨wd.heap.size, 0, none⟩ = some (.int .i64 (atF hd.area ((P : Int) + (k : Int)) - 2)) := by
     rw [← HAT2.out]
     exact cells1_of (alloc_at (w := wd) rfl)
    have HG0 := Lib.hid hg0
    have hA1 : (wd.alloc (.cells #[.int .i64 (((P : Int) + k) % n)] 3)).heap[x5]? = some (.cells #[.int .i64 hd.turn, .int .i64 hd.area, .int .i64 hd.place, .int .i64 hd.number, .slice pa ps.length pc, .slice aa al ac] 35 (0, 0)) ∧ (wd.alloc (.cells #[.int .i64 (((P : Int) + k) % n)] 3)).heap[bh]? = some (.cells #[.int .i64 hd.turn, .int .i64 hd.area, .int .i64 hd.place, .int .i64 hd.number] 31 (0, 0)) := ⟨by rw [HAL.out]; exact HSX.out.sy.log, HSX.out.head⟩
    have HUA := Lib.hid (HUD.out.trans ua)
    clear ua hg0
    generalize wd.alloc (.cells #[.int .i64 (((P : Int) + k) % n)] 3) = w6 at HSX HG0 HUA hA1 ⊢
    refine HKK.out _ _ hA1 ?_
    clear HKK
    simp only [Act.put, List.setIfInBounds_toArray, List.set]
    refine wpG_doIf (i := 12) rfl (by kernel_rfl) rfl (fun K hK => ?_)
    have HKK := Lib.hid hK
    clear hK
    have hap := SyAt.appA (ty := 33) HSX.out.sy HG0.out (by rw [← HAL.out]; have := HALL.out; omega) (by have := lt_of_heap HSX.out.sy.log; have := HX5.out; have := HBH.out; omega)
    rw [← HAL.out] at hap
    obtain ⟨v7, w7, hr7, hu7, ⟨s7a, s7n, s7c, rfl⟩, hx7, hs7⟩ := hap
    refine Lib.wp_append_run w6 (.tmp 43) (.tmp 53) 33 33 rfl _ _ rfl rfl _ w7 hr7 ?_
    have hA7 : w7.heap[x5]? = some (.cells #[.int .i64 hd.turn, .int .i64 hd.area, .int .i64 hd.place, .int .i64 hd.number, .slice pa ps.length pc, .slice aa al ac] 35 (0, 0)) ∧ w7.heap[bh]? = some (.cells #[.int .i64 hd.turn, .int .i64 hd.area, .int .i64 hd.place, .int .i64 hd.number] 31 (0, 0)) := ⟨hx7.trans hA1.1, (hu7.block _ (lt_of_heap hA1.2) (fun e => by rw [HAL.out] at e; exact own_not HSX.out.sy.arow HSX.out.head (by decide) e)).trans hA1.2⟩
    have HU7 := Lib.hid hu7; have HS7 := Lib.hid hs7
    clear hr7 hu7 hx7 hs7
    refine HKK.out _ _ hA7 ?_
    clear HKK
    simp only [Act.put, List.setIfInBounds_toArray, List.set]
    refine wpG_takeP (i := 13) (v := .pointer (some ⟨x5, 5, none⟩)) rfl (by kernel_rfl) (fun _ _ _ h => h) hA7 (.inl ⟨rfl, fun w5 q1 => ?_⟩) ?_
    ·go_simp
    simp only [Act.put, List.setIfInBounds_toArray, List.set]
    refine wpG_tail_lit (k := 14) rfl rfl (by kernel_rfl) ?_
    simp only [List.drop]
    have f5 : w7.frozen? ⟨x5, 5, none⟩ = false := frozen_of_heap hA7.1
    obtain ⟨c0, c1, c2, c3, c4, c5⟩ := cells6_of hA7.1
    have HX7 := Lib.hid hA7
    clear hA hA1 hA7 hwp hwk htm hnI hnB hnN
    have hwk1 : IntKind.i64.wrap ((k : Int) + 1) = k + 1 := by rw [IntKind.wrap_i64]; have := HRL.out; omega
    go_wp2
    clear hwk1
    have hx8 : (w7.setCell ⟨x5, 5, none⟩ (.slice s7a s7n s7c)).heap[x5]? = some (.cells #[.int .i64 hd.turn, .int .i64 hd.area, .int .i64 hd.place, .int .i64 hd.number, .slice pa ps.length pc, .slice s7a s7n s7c] 35 (0, 0)) := by
     have := block_setCell (i := 5) HX7.out.1 (.slice s7a s7n s7c)
     simpa using this
    have hu8 : Upd (fun k => k = x5) w7 (w7.setCell ⟨x5, 5, none⟩ (.slice s7a s7n s7c)) := upd_own _ _ _ _
    have HX8 := Lib.hid hx8; have HU8 := Lib.hid hu8
    clear hx8 hu8 f5 c0 c1 c2 c3 c4 c5
    go_roundg (cn - (k + 1))
    case measure => omega
    case rel =>
     obtain ⟨z1, z2⟩ := HS7.out _ HX8.out HU8.out
     rw [List.append_assoc, ← askP_snoc] at z1
     have hx5 := HX5.out; have hbh := HBH.out
     have hlow : ∀ j, (Value.slice aa al ac).ownBlock = some j → w.heap.size ≤ j := fun j hj => by rw [HAL.out] at hj; have := (own_lt HSX.out.sy.arow hj).1; omega
     refine ⟨k + 1, .slice s7a s7n s7c, by omega, rfl, congrArg _ (by omega), ⟨z1, (HU8.out.block _ (lt_of_heap HX7.out.2) (fun e => by have e2 : bh = x5 := e; omega)).trans HX7.out.2, ?_, (HSX.out.upd.step HU7.out (fun j hj e => by have := hlow j e; omega)).step HU8.out (fun j hj e => by have e2 : j = x5 := e; omega)⟩, fun b hb => ?_⟩
     ·obtain ⟨e0, e1, e2, e3, e4, e5, hr⟩ := HSX.out.res
      have hr7 := (HU7.out.block _ (lt_of_heap hr) (fun e => by rw [HAL.out] at e; exact own_not HSX.out.sy.arow hr (by decide) e)).trans hr
      exact ⟨e0, e1, e2, e3, e4, e5, (HU8.out.block _ (lt_of_heap hr7) (fun e => by have e2 : bh + 1 = x5 := e; omega)).trans hr7⟩
     ·obtain ⟨g, o, c, rfl, q1, q2, q3, q4, q5, q6⟩ := HNEW.out b hb
      rw [← HAL.out] at q5
      refine ⟨g, o, c, rfl, q1, Nat.lt_of_lt_of_le q2 (Nat.le_trans HUA.out.size (Nat.le_trans HU7.out.size HU8.out.size)), q3, q4, fun e9 => ?_, ?_⟩
      ·rcases z2 g e9 with e9 | e9
       ·exact q5 e9
       ·have := HUA.out.size; omega
      ·refine ((q6.kept HUA.out).keptF HU7.out (fun _ a n c e => ?_)).keptF HU8.out (fun _ a n c e => ?_)
       ·injection e with e _ _; injection e with e; subst e; exact q5
       ·injection e with e _ _; injection e with e; subst e; exact q3
   ·obtain rfl : k = cn := by omega
    cases hR1 : R.1 with
    |none =>
     have HAN := Lib.hid (HN0.out hR1)
     clear hR1 HS0 HN0 HB0 HNEW
     go_upto_region 10 with fail
     obtain ⟨aa, ac, rfl⟩ := rowV HS.out.sy.arow
     obtain ⟨al, hal⟩ : ∃ al, al = (az ++ askP hd (P : Int) 0 k).length := ⟨_, rfl⟩
     have hlog := HS.out.sy.log
     rw [← hal] at hlog
     have HLOG := Lib.hid hlog; have HAL := Lib.hid hal
     obtain ⟨d0, d1, d2, d3, d4, d5⟩ := cells6_of hlog
     obtain ⟨e0, e1, e2, e3, e4, e5, hr⟩ := HS.out.res
     clear hlog hal
     have HRB := Lib.hid hr
     clear hr
     iterate 4 go_step
     refine wpList_store_mid rfl 35 (.tmp 4) (.tmp 59) rfl (bh + 1) 0 #[.int .i64 hd.turn, .int .i64 hd.area, .int .i64 hd.place, .int .i64 hd.number, .slice pa ps.length pc, .slice aa al ac] rfl rfl (by have q := there_block HRB.out; exact q) Tryz.size35s (by simp [Value.oneCell']) ?_
     have hx8 := heap_setCells_whole (vs := [.int .i64 hd.turn, .int .i64 hd.area, .int .i64 hd.place, .int .i64 hd.number, .slice pa ps.length pc, .slice aa al ac]) HRB.out rfl
     have hu8 : Upd (fun j => j = bh + 1) wq (wq.setCells (bh + 1) 0 [.int .i64 hd.turn, .int .i64 hd.area, .int .i64 hd.place, .int .i64 hd.number, .slice pa ps.length pc, .slice aa al ac]) := Upd.setCells (b := bh + 1) (F := fun j => j = bh + 1) rfl _ 0 (Upd.refl _ wq)
     have HX8 := Lib.hid hx8; have HU8 := Lib.hid hu8
     refine (?_ : wpList _ _ _ _ _ (wq.setCells (bh + 1) 0 [.int .i64 hd.turn, .int .i64 hd.area, .int .i64 hd.place, .int .i64 hd.number, .slice pa ps.length pc, .slice aa al ac]))
     obtain ⟨w8, hw8⟩ : ∃ w8, w8 = wq.setCells (bh + 1) 0 [.int .i64 hd.turn, .int .i64 hd.area, .int .i64 hd.place, .int .i64 hd.number, .slice pa ps.length pc, .slice aa al ac] := ⟨_, rfl⟩
     rw [← hw8] at HX8 HU8 ⊢
     clear hx8 hu8 hw8 d0 d1 d2 d3 d4 d5
     go_wp2
     have hl3 := run_loadVar_mid (P := Tryz.prog) _ (bh + 1) 0 35 [.int .i64 hd.turn, .int .i64 hd.area, .int .i64 hd.place, .int .i64 hd.number, .slice pa ps.length pc, .slice aa al ac] _ (rangeAt_block HX8.out) Tryz.underlying35 rfl Tryz.size35s
     have hsy := HS.out.sy
     have hx5 := HX5.out; have hbh := HBH.out
     obtain ⟨vs, hp1, hp2⟩ := hsy.prow
     refine bodyPost_ret (results_cell1 Tryz.results133 rfl hl3) rfl ⟨_, _, x5, rfl, ?_, HS.out.upd.step HU8.out (fun j hj e => by have e2 : j = bh + 1 := e; omega)⟩
     rw [HAL.out, HAN.out]
     have hlo := fun (j : Nat) (hj : j = bh + 1) => (show j < w.heap.size + 2 by omega)
     refine ⟨(HU8.out.block _ (lt_of_heap hsy.log) (fun e => by have e2 : x5 = bh + 1 := e; omega)).trans hsy.log, ⟨vs, ownsRow_le (ownsRow_any hp1 HU8.out (fun j hj e => by have := hlo j e; have := (own_lt hp1 hj).1; omega)) (by omega), fun i u b hi hb => ?_⟩, ownsRow_le (ownsRow_any hsy.arow HU8.out (fun j hj e => by have := hlo j e; have := (own_lt hsy.arow hj).1; omega)) (by omega)⟩
     obtain ⟨g, o, c, rfl, q1, q2, q3, q4, q5, q6⟩ := hp2 i u b hi hb
     exact ⟨g, o, c, rfl, by omega, Nat.lt_of_lt_of_le q2 HU8.out.size, q3, q4, q5, q6.keptF HU8.out (fun hne a n c e => by injection e with e _ _; injection e with e; subst e; exact fun e => by have h9 : g < w.heap.size + 2 := hlo g e; omega)⟩
    |some b =>
     obtain ⟨g, o, c, rfl, q1, q2, q3, q4, q5, q6⟩ := HNEW.out b hR1
     obtain ⟨hbB, hbl, hbs⟩ := HB0.out b hR1
     have HAS := Lib.hid (HS0.out b hR1)
     go_upto_region 11 with fail
     have hlog := HS.out.sy.log
     have HLOG := Lib.hid hlog
     obtain ⟨d0, d1, d2, d3, d4, d5⟩ := cells6_of hlog
     clear hlog
     iterate 13 go_step
     refine (?_ : wpList _ _ _ _ _ (wq.alloc (.cells #[.slice (some ⟨g, o, none⟩) b.length c] 39)))
     have ua : Upd (fun _ => False) wq (wq.alloc (.cells #[.slice (some ⟨g, o, none⟩) b.length c] 39)) := (Upd.refl _ _).alloc _
     have hap := SyAt.appP (ty := 32) (g := wq.heap.size) (HS.out.sy.kept ua) (cells1_of (alloc_at (w := wq) rfl)) q1 (Nat.lt_of_lt_of_le q2 ua.size) (q6.kept ua) q3 q4 q5 (by have := HPU.out; have := HUB.out; have := HAR.out; omega) (Nat.le_trans (show w.heap.size + 2 ≤ wq.heap.size by have := lt_of_heap HS.out.sy.log; have := HX5.out; have := HBH.out; omega) ua.size)
     obtain ⟨v7, w7, hr7, hu7, ⟨s7a, s7n, s7c, rfl⟩, hx7, hs7⟩ := hap
     refine Lib.wpList_append_run _ rfl (.tmp 61) (.tmp 63) 32 32 rfl _ _ rfl rfl _ w7 hr7 ?_
     have hx7b := hx7.trans ((ua.block _ (lt_of_heap HLOG.out) (fun e => e)).trans HLOG.out)
     have HX7 := Lib.hid hx7b
     have HU7 := Lib.hid hu7; have HS7 := Lib.hid hs7; have HUA := Lib.hid ua
     clear hr7 hu7 hx7 hs7 ua d0 d1 d2 d3 d4 d5
     have f5 : w7.frozen? ⟨x5, 4, none⟩ = false := frozen_of_heap hx7b
     obtain ⟨c0, c1, c2, c3, c4, c5⟩ := cells6_of hx7b
     clear hx7b
     have HLEFT : RowKit.Hid ((hd.area : Int) - U ≠ 0) := Lib.hid (by have h1 := secsN_pos b.length; omega)
     have hsp := secsN_pos b.length
     obtain ⟨sb, hsb⟩ : ∃ sb, sb = secsN b.length := ⟨_, rfl⟩
     have HSEC := Lib.hid (secsI_nat (n := b.length) hbl)
     rw [← hsb] at hbs HAS HSEC hsp
     have HSB := Lib.hid hsb; have HBS := Lib.hid hbs; have HSP := Lib.hid hsp; have HBL := Lib.hid hbl
     have hws : IntKind.i64.wrap ((U : Int) + (sb : Int)) = U + sb := by rw [IntKind.wrap_i64]; have := HAR.out; omega
     clear hsb hbs hsp hbB
     go_wp2_with (go_at_call 138; fail)
     refine (wsec_any b.length _ (by omega)).mono ?_
     rintro e w9 ⟨rfl, rfl⟩
     rw [HSEC.out]
     simp only []
     have hx8 : (w7.setCell ⟨x5, 4, none⟩ (.slice s7a s7n s7c)).heap[x5]? = some (.cells #[.int .i64 hd.turn, .int .i64 hd.area, .int .i64 hd.place, .int .i64 hd.number, .slice s7a s7n s7c, AV2] 35 (0, 0)) := by
      have := block_setCell (i := 4) HX7.out (.slice s7a s7n s7c)
      simpa using this
     have hu8 : Upd (fun k => k = x5) w7 (w7.setCell ⟨x5, 4, none⟩ (.slice s7a s7n s7c)) := upd_own _ _ _ _
     have HX8 := Lib.hid hx8; have HU8 := Lib.hid hu8
     obtain ⟨w8, hw8⟩ : ∃ w8, w8 = w7.setCell ⟨x5, 4, none⟩ (.slice s7a s7n s7c) := ⟨_, rfl⟩
     rw [← hw8] at HX8 HU8 ⊢
     clear hx8 hu8 f5 c0 c1 c2 c3 c4 c5 hw8 hbl
     go_wp2
     clear hws
     go_roundg (1001 - (U + sb))
     case measure => have := HSP.out; have := HBS.out; have := HAR.out; omega
     case rel =>
      have z1 := HS7.out _ HX8.out HU8.out
      have hx5 := HX5.out; have hbh := HBH.out
      have hkt := HS.out.kept HUA.out
      obtain ⟨vs, hp1, _⟩ := hkt.sy.prow
      have hlow : ∀ j, (Value.slice pa ps.length pc).ownBlock = some j → w.heap.size + 2 ≤ j := fun j hj => (own_lt hp1 hj).1
      refine ⟨ps ++ [b], az ++ askP hd (P : Int) 0 k, U + sb, f', _, _, rfl, rfl, by have := HBS.out; push_cast; omega, by have := HF.out; have := HSP.out; push_cast; push_cast at this; omega, by have := HPU.out; have := HSP.out; simp; omega, by have := HAZ.out; have := HRL.out; simp [askP_length]; omega, by have := HAS.out; push_cast; exact this, ⟨z1, ?_, ?_, (hkt.upd.step HU7.out (fun j hj e => by have := hlow j e; omega)).step HU8.out (fun j hj e => by have e2 : j = x5 := e; omega)⟩⟩
      ·have hh7 := (HU7.out.block _ (lt_of_heap hkt.head) (fun e => by have := hlow _ e; omega)).trans hkt.head
       exact (HU8.out.block _ (lt_of_heap hh7) (fun e => by have e2 : bh = x5 := e; omega)).trans hh7
      ·obtain ⟨e0, e1, e2, e3, e4, e5, hr⟩ := hkt.res
       have hr7 := (HU7.out.block _ (lt_of_heap hr) (fun e => by have := hlow _ e; omega)).trans hr
       exact ⟨e0, e1, e2, e3, e4, e5, (HU8.out.block _ (lt_of_heap hr7) (fun e => by have e2 : bh + 1 = x5 := e; omega)).trans hr7⟩
theorem callE_live {D : Dk} {i : Int} (h : D.callE i false = 0) : D.dead = false := by
 unfold Dk.callE at h
 cases hd : D.dead with
 |false => rfl
 |true => simp [hd] at h
theorem callD_live {D : Dk} {i : Int} (h : D.callE i false = 0) : (D.callD i false).dead = false := by
 have h1 := callE_live h
 unfold Dk.callE at h
 unfold Dk.callD
 by_cases h2 : i < 0 ∨ (D.arr.length : Int) ≤ i
 ·simp [h1, h2]
 ·by_cases h3 : D.fail = 0
  ·simp [h1, h2, h3] at h
  ·simp [h1, h2, h3]
theorem callD_lenQ (D : Dk) (i : Int) (wr : Bool) : (D.callD i wr).arr.length = D.arr.length := by
 unfold Dk.callD
 repeat' split
 all_goals rfl
theorem atF_natQ {area q : Int} (ha : 1 ≤ area) : ∃ r : Nat, (r : Int) < 2 * area ∧ atF area q = 2 + r := by
 have h1 := Int.emod_nonneg q (b := 2 * area) (by omega)
 have h2 := Int.emod_lt_of_pos q (b := 2 * area) (by omega)
 exact ⟨(q % (2 * area)).toNat, by omega, by unfold atF; omega⟩
theorem saysA_congr {S S' : Int → List Int} {h : Hd} (hS : ∀ q, S (atF h.area q) = S' (atF h.area q)) : ∀ (f : Nat) (ps : List (List Int)) (u : Int), saysA S h f ps u = saysA S' h f ps u
 | 0, _, _ => rfl
 |f + 1, ps, u => by
  have e : (fun k : Nat => S (atF h.area (h.place + u + k))) = fun k : Nat => S' (atF h.area (h.place + u + k)) := by
   funext k
   exact hS _
  unfold saysA
  rw [e]
  split
  ·rfl
  ·rw [saysA_congr hS f]
theorem SofL_S {D : Dk} {area : Nat} (ha : 1 ≤ area) (q : Int) : SofL ((List.range (2 * area)).map fun (i : Nat) => D.S (2 + (i : Int))) (atF area q) = D.S (atF area q) := by
 obtain ⟨r, h1, h2⟩ := atF_natQ (area := area) (q := q) (by omega)
 rw [h2]
 unfold SofL blkAt
 have e : (2 + (r : Int) - 2).toNat = r := by omega
 rw [e, List.length_map, List.length_range, Nat.mod_eq_of_lt (by omega), List.getElem?_map, List.getElem?_range (by omega)]
 rfl
structure SyP (B : Nat) (W : World) (PV AV : Value) (ps : List (List Int)) (az : List Int) : Prop where
 prow : ∃ vs, W.ownsRow B 39 1 PV ps.length vs ∧ ∀ (i : Nat) u b, vs[i]? = some u → ps[i]? = some b → ∃ g o c, u = .slice (some ⟨g, o, none⟩) b.length c ∧ B ≤ g ∧ g < W.heap.size ∧ BytesIn W u b
 arow : W.ownsRow B 3 1 AV az.length (az.map fun a => .int .i64 (a - 2))
theorem SyAt.syP {B : Nat} {W : World} {x5 : Nat} {hd : Hd} {PV AV : Value} {ps : List (List Int)} {az : List Int} (h : SyAt B W x5 hd PV AV ps az) : SyP B W PV AV ps az := by
 obtain ⟨vs, h1, h2⟩ := h.prow
 exact ⟨⟨vs, h1, fun i u b hi hb => by
  obtain ⟨g, o, c, e, q1, q2, _, _, _, q6⟩ := h2 i u b hi hb
  exact ⟨g, o, c, e, q1, q2, q6⟩⟩, h.arow⟩
theorem SyP.keptG {G : Nat → Prop} {B : Nat} {W W' : World} {PV AV : Value} {ps : List (List Int)} {az : List Int} (h : SyP B W PV AV ps az) (hu : Upd G W W') (hg : ∀ k, B ≤ k → k < W.heap.size → ¬ G k) : SyP B W' PV AV ps az := by
 obtain ⟨vs, h1, h2⟩ := h.prow
 exact ⟨⟨vs, ownsRow_any h1 hu (fun k hk => hg k (own_lt h1 hk).1 (own_lt h1 hk).2), fun i u b hi hb => by
  obtain ⟨g, o, c, rfl, q1, q2, q6⟩ := h2 i u b hi hb
  exact ⟨g, o, c, rfl, q1, Nat.lt_of_lt_of_le q2 hu.size, q6.keptF hu (fun _ a n c e => by injection e with e _ _; injection e with e; subst e; exact hg g q1 q2)⟩⟩, ownsRow_any h.arow hu (fun k hk => hg k (own_lt h.arow hk).1 (own_lt h.arow hk).2)⟩
theorem readsD_cons (i : Int) (l : List Int) (D : Dk) : readsD (i :: l) D = if D.callE i false = 0 then readsD l (D.callD i false) else (D.callE i false, D.callD i false) := rfl
theorem saysA_asked {S : Int → List Int} {h : Hd} (ha : 1 ≤ h.area) : ∀ (f : Nat) (ps : List (List Int)) (u : Int), (∀ a ∈ (saysA S h f ps u).2, 2 ≤ a ∧ a < 2 + 2 * h.area) ∧ (saysA S h f ps u).2.length ≤ 834 * f
 | 0, _, _ => ⟨fun a h => by simp [saysA] at h, by simp [saysA]⟩
 |f + 1, ps, u => by
  have hk : ∀ (p : Int) (c : Nat) (a : Int), a ∈ askP h p 0 c → 2 ≤ a ∧ a < 2 + 2 * h.area := fun p c a hm => by
   unfold askP at hm
   obtain ⟨j, _, rfl⟩ := List.mem_map.1 hm
   exact atF_bound ha
  have hle := wholeR_le (T := fun k : Nat => S (atF h.area (h.place + u + k))) (h := h) (number := h.number + ps.length) (left := h.area - u) (snap := decide (ps = []))
  obtain ⟨q, hq⟩ : ∃ q, wholeR (fun k : Nat => S (atF h.area (h.place + u + k))) h (h.number + ps.length) (decide (ps = [])) (h.area - u) = q := ⟨_, rfl⟩
  rw [hq] at hle
  cases hr : q.1 with
  |none =>
   rw [saysA_none hq hr]
   exact ⟨fun a hm => hk _ _ _ hm, by rw [askP_length]; omega⟩
  |some b =>
   rw [saysA_some hq hr]
   have ih := saysA_asked (S := S) ha f (ps ++ [b]) (u + secsN b.length)
   refine ⟨fun a hm => ?_, ?_⟩
   ·rcases List.mem_append.1 hm with hm | hm
    ·exact hk _ _ _ hm
    ·exact ih.1 a hm
   ·rw [List.length_append, askP_length]
    have := ih.2
    omega
theorem saysA_bytes {S : Int → List Int} {h : Hd} (hS : ∀ q, Bytes (S (atF h.area q))) : ∀ (f : Nat) (ps : List (List Int)) (u : Int), (∀ b ∈ ps, Bytes b ∧ b.length ≤ 40000) → usedOf ps = u → (u ≤ h.area) → (∀ b ∈ (saysA S h f ps u).1, Bytes b ∧ b.length ≤ 40000) ∧ usedOf (saysA S h f ps u).1 ≤ h.area
 | 0, ps, u, h1, h2, h3 => ⟨h1, by show usedOf ps ≤ _; omega⟩
 |f + 1, ps, u, h1, h2, h3 => by
  obtain ⟨q, hq⟩ : ∃ q, wholeR (fun k : Nat => S (atF h.area (h.place + u + k))) h (h.number + ps.length) (decide (ps = [])) (h.area - u) = q := ⟨_, rfl⟩
  cases hr : q.1 with
  |none =>
   rw [saysA_none hq hr]
   exact ⟨h1, by show usedOf ps ≤ _; omega⟩
  |some b =>
   rw [saysA_some hq hr]
   have hw := wholeR_some (T := fun k : Nat => S (atF h.area (h.place + u + k))) (h := h) (number := h.number + ps.length) (left := h.area - u) (snap := decide (ps = [])) (b := b) (fun j => hS _) (by rw [hq]; exact hr)
   exact saysA_bytes hS f (ps ++ [b]) (u + secsN b.length) (fun x hx => by
    rcases List.mem_append.1 hx with hx | hx
    ·exact h1 x hx
    ·simp at hx; subst hx; exact ⟨hw.1, hw.2.1⟩) (by rw [usedOf_append, usedOf_cons, usedOf_nil]; omega) (by have := hw.2.2; omega)
theorem foundD_saysB {S : Int → List Int} {h : Hd} (hS : ∀ q, (S (atF h.area q)).length = 64) : ∀ (f : Nat) (ps : List (List Int)) (u : Int) (D : Dk), D.S = S →
  (foundD h f ps u D).2 = readsD (saysA S h f ps u).2 D ∧ ((readsD (saysA S h f ps u).2 D).1 = 0 → (foundD h f ps u D).1 = (saysA S h f ps u).1)
 | 0, ps, u, D, _ => ⟨rfl, fun _ => rfl⟩
 |f + 1, ps, u, D, hD => by
  have hw := wholeD_wholeR (h := h) (T := fun k => S (atF h.area (h.place + u + k))) (number := h.number + ps.length) (place := h.place + u) (left := h.area - u) (snap := decide (ps = [])) (fun j => hS _) D (fun j => by rw [hD])
  unfold foundD saysA
  generalize wholeD h (h.number + ps.length) (h.place + u) (decide (ps = [])) (h.area - u) D = R at hw
  generalize wholeR (fun k => S (atF h.area (h.place + u + k))) h (h.number + ps.length) (decide (ps = [])) (h.area - u) = q at hw
  obtain ⟨r, c⟩ := q
  obtain ⟨x, E, D'⟩ := R
  obtain ⟨h1, h2, h3⟩ := hw
  simp only at h1 h2 h3
  by_cases he : (readsD (askP h (h.place + u) 0 c) D).1 = 0
  ·have hx := h2 he
   subst hx
   cases x with
   |none => exact ⟨h1, fun _ => rfl⟩
   |some b =>
    have hD' : D'.S = S := by rw [show D' = (readsD (askP h (h.place + u) 0 c) D).2 from congrArg Prod.snd h1, readsD_S, hD]
    have ih := foundD_saysB (h := h) hS f (ps ++ [b]) (u + secsN b.length) D' hD'
    have hE : E = 0 := (congrArg Prod.fst h1).trans he
    simp only [readsD_append, ← h1, if_pos hE]
    exact ih
  ·have hx := h3 he
   subst hx
   cases r with
   |none => exact ⟨h1, fun h => rfl⟩
   |some b =>
    simp only [readsD_append, if_neg he]
    exact ⟨h1, fun h => absurd h he⟩
theorem SyP.pin {B n pc : Nat} {W : World} {pa : Option Addr} {AV : Value} {ps : List (List Int)} {az : List Int} (h : SyP B W (.slice pa n pc) AV ps az) : ∃ C' : Nat → Prop, PIn C' W pa ps ∧ ∀ k, C' k → B ≤ k ∧ k < W.heap.size := by
 obtain ⟨vs, h1, h2⟩ := h.prow
 have hvl : vs.length = ps.length := by have := h1.1; omega
 refine ⟨fun k => (Value.slice pa n pc).ownBlock = some k ∨ ∃ (i : Nat) (g o m c : Nat), vs[i]? = some (.slice (some ⟨g, o, none⟩) m c) ∧ i < ps.length ∧ k = g, ?_, ?_⟩
 rotate_left
 ·intro k hk
  rcases hk with hk | ⟨i, g, o, m, c, hi, hil, rfl⟩
  ·exact own_lt h1 hk
  ·obtain ⟨g', o', c', e, q1, q2, _⟩ := h2 i _ _ hi (List.getElem?_eq_getElem hil)
   injection e with e _ _
   injection e with e
   injection e with e _ _
   subst e
   exact ⟨q1, q2⟩
 ·refine ⟨fun k hk => ?_, vs, hvl, fun W' hW => ⟨fun i v hi => ?_, fun i v x hi hx => ?_⟩⟩
  ·rcases hk with hk | ⟨i, g, o, m, c, hi, hil, rfl⟩
   ·exact (own_lt h1 hk).2
   ·obtain ⟨g', o', c', e, q1, q2, _⟩ := h2 i _ _ hi (List.getElem?_eq_getElem hil)
    injection e with e _ _
    injection e with e
    injection e with e _ _
    subst e
    exact q2
  ·have hil := (List.getElem?_eq_some_iff.1 hi).1
   rcases h1.2 with ⟨e, e2⟩ | ⟨g, cap, cur, e, _⟩
   ·omega
   ·injection e with e1 e3 e4
    subst e1
    refine ⟨g, 0, rfl, ?_⟩
    have hc := World.ownsRow.cells h1 (g := g) (by rfl) i v hi
    rw [Addr.add_mid] at hc
    rwa [cell_eqQ (hW g (.inl rfl))]
  ·obtain ⟨g, o, c, e, q1, q2, q3⟩ := h2 i v x hi hx
   subst e
   exact ⟨_, _, rfl, bytesIn_eqQ q3 (hW g (.inr ⟨i, g, o, _, c, hi, by have := (List.getElem?_eq_some_iff.1 hi).1; omega, rfl⟩))⟩
structure AskAt (w W : World) (p : Nat) (F : Nat → Prop) (D : Dk) (az : List Int) (j Kd : Nat) : Prop where
 dsk : ∃ E, Dsk W p E F ∧ readsD az D = readsD (az.drop j) E ∧ E.Ok (Kd + j)
 upd : Upd F w W
theorem wmopen_any {m p Kd : Nat} {X : Lg} {no : Bool} {D : Dk} {F C : Nat → Prop} (w : World) (hM : MdSt w m p X no C) (hD : Dsk w p D F) (hmF : ¬ F m) (hCF : ∀ k, C k → ¬ F k) (hdok : D.Ok Kd) (hK : Kd ≤ 1099500000000) :
  Calls Tryz.prog 62 #[.pointer (some ⟨m, 0, none⟩)] w (MFm w m p X no C F (openD D)) := by
 have hFL := hD.lt
 obtain ⟨R, hR⟩ : ∃ R, R = openD D := ⟨_, rfl⟩
 rw [← hR]
 have hu1 : Upd (fun _ => False) w (w.alloc (.cells (bcells zblk ++ bcells zblk).toArray 209)) := (Upd.refl _ w).alloc _
 have hat : HdsAt w p F (hdA D 0) (hdB D 0) (hdD D 0) (w.alloc (.cells (bcells zblk ++ bcells zblk).toArray 209)) := ⟨hD.kept hu1 (fun _ _ e => e), hu1.mono (fun _ _ e => e.elim), alloc_at rfl, zblk_ok, zblk_ok⟩
 obtain ⟨w1, hw1⟩ : ∃ w1, w1 = w.alloc (.cells (bcells zblk ++ bcells zblk).toArray 209) := ⟨_, rfl⟩
 rw [← hw1] at hat
 have hM' := hM
 obtain ⟨⟨pa, pc, aa, an, ac, hm, hp, hp4⟩, hcm⟩ := hM'
 have hlm := lt_of_heap hm
 have HAT := Lib.hid hat; have HOK := Lib.hid hdok; have HFL := Lib.hid hFL; have HR := Lib.hid hR; have HM := Lib.hid hm; have HMD := Lib.hid hM; have HMF := Lib.hid hmF; have HCF := Lib.hid hCF; have HLM := Lib.hid hlm; have HCLT := Lib.hid hp.1
 have HFAILS : RowKit.Hid (∀ (W : World) (E : Int) (D2 : Dk), Dsk W p D2 F → Upd F w W → R = (none, E, D2) → MFm w m p X no C F R (.returned (.int .i64 E)) W) := Lib.hid (fun W E D2 h1 h2 h3 => by
  rw [h3]
  exact ⟨rfl, F, C, h1, fun k hk => .inl hk, fun k hk => .inl hk, HCF.out, h2.mono (fun _ _ e => .inl e), HMD.out.kept h2 HCF.out HMF.out⟩)
 clear hD hdok hFL hR hu1 hat hM hm hp hp4 hcm hmF hCF hlm
 go_enter Tryz.func62, Tryz.ntmps62
 go_upto_region 2 with fail
 refine (?_ : Code.wp _ _ _ _ (w.alloc (.cells (bcells zblk ++ bcells zblk).toArray 209)))
 rw [← hw1]
 clear hw1
 go_upto_region 3 with fail
 go_loopg [15] 2 (fun gk i wr => ∃ k : Nat, k ≤ 2 ∧ gk = 2 - k ∧ i = .int .i64 k ∧ (1 ≤ k → D.callE 0 false = 0) ∧ (2 ≤ k → (D.callD 0 false).callE 1 false = 0) ∧ HdsAt w p F (hdA D k) (hdB D k) (hdD D k) wr)
 case atStart => exact ⟨0, by omega, rfl, rfl, fun e => by omega, fun e => by omega, HAT.out⟩
 case round =>
  obtain ⟨k, hk, rfl, rfl, hE0, hE1, hat⟩ := hrel
  obtain ⟨wo, rfl⟩ : ∃ wo, wo = wr := ⟨_, rfl⟩
  have hmo := (hat.upd.block _ (lt_of_heap HM.out) HMF.out).trans HM.out
  have HMO := Lib.hid hmo
  have HA := Lib.hid hat; have HE0 := Lib.hid hE0; have HE1 := Lib.hid hE1
  clear hat hE0 hE1 HAT
  rw [mdc_lit] at hmo
  obtain ⟨c0, c1, c2, c3, c4, c5, c6, c7, c8⟩ := cells9_of hmo
  clear hmo
  by_cases hk2 : k < 2
  ·have hk2i : (k : Int) < 2 := by omega
   go_wp2_with (go_at_call 17; fail)
   clear c0 c1 c2 c3 c4 c5 c6 c7 c8
   refine (read_any (k : Int) wo HA.out.dsk (Dk.Ok.mono (hdD_ok HOK.out k) (by omega))).mono ?_
   rintro e w3 ⟨rfl, hd3, hu3⟩
   rw [hdD_next hk2] at hd3
   have hat3 := HA.out.read hd3 hu3 HFL.out
   have hsb := reads_blk (Dk.Ok.mono (hdD_ok HOK.out k) (show Kd + 2 ≤ 1099511627774 by omega)) (k : Int)
   have hfail := openD_fails (D := D) hk2 (fun e => HE0.out (by omega))
   obtain ⟨s, hs⟩ : ∃ s, s = (hdD D k).reads (k : Int) := ⟨_, rfl⟩
   obtain ⟨E, hE⟩ : ∃ E, E = (hdD D k).callE (k : Int) false := ⟨_, rfl⟩
   rw [← hs] at hsb ⊢
   rw [← hE] at hfail ⊢
   obtain ⟨f1, f2, f3⟩ := fresh56 w3 s hsb.1
   have HIS : RowKit.Hid ((Tryz.prog.info? 48).map (·.size) = some (bcells s).length) := Lib.hid (by rw [Tryz.info56p]; simp [bcells, hsb.1])
   have H1B := Lib.hid (all_oneCell_toArray (bcells_one s))
   have F1 := Lib.hid f1; have HSB := Lib.hid f2; have HSL := Lib.hid hsb; have HFAIL := Lib.hid hfail; have HE := Lib.hid hE; have HS := Lib.hid hs
   have HA4 := Lib.hid (hat3.kept f3 (fun _ e => e.elim) HFL.out)
   have HW3 : RowKit.Hid (w.heap.size < w3.heap.size) := Lib.hid (lt_of_heap hat3.two)
   clear f1 f2 f3 hsb hu3 hd3 hat3 hfail hE hs HA
   simp only []
   iterate 13 go_step
   refine (?_ : wpList _ _ _ _ _ (w3.alloc (.cells (bcells zblk).toArray 48)))
   refine wpList_store_mid rfl 48 (.tmp 5) (.tmp 25) rfl w3.heap.size 0 (bcells s).toArray rfl rfl F1.out (by rw [HIS.out]; simp) H1B.out ?_
   obtain ⟨w4, hw4⟩ : ∃ w4, w4 = (w3.alloc (.cells (bcells zblk).toArray 48)).setCells w3.heap.size 0 (bcells s) := ⟨_, rfl⟩
   rw [← hw4] at HA4 HSB
   rw [show (bcells s).toArray.toList = bcells s from rfl, ← hw4]
   clear hw4 F1
   obtain ⟨gs, hgs⟩ : ∃ gs, gs = w3.heap.size := ⟨_, rfl⟩
   rw [← hgs] at HSB HW3 ⊢
   clear hgs
   by_cases hE0 : E = 0
   rotate_left
   ·have hEb : (E != 0) = true := by simpa using hE0
    have HRE := Lib.hid (HFAIL.out hE0)
    clear hE0
    go_wp2
    go_ret
    exact HFAILS.out _ _ _ HA4.out.dsk HA4.out.upd (HR.out.trans HRE.out)
   ·subst hE0
    go_upto_region 8 with fail
    have HNX := Lib.hid (HA4.out.store hk2 HS.out HSL.out HFL.out)
    have HTH := Lib.hid (there_sub (o := k * 64) (m := (bcells s).toArray.size) HA4.out.two (by have h1 := HA4.out.la.1; have h2 := HA4.out.lb.1; have h3 := HSL.out.1; simp [bcells, h1, h2, h3]; omega))
    have HE0' : RowKit.Hid (1 ≤ k + 1 → D.callE 0 false = 0) := Lib.hid (fun _ => by
     by_cases e : k = 0
     ·have := HE.out; rw [e] at this; exact this.symm
     ·exact HE0.out (by omega))
    have HE1' : RowKit.Hid (2 ≤ k + 1 → (D.callD 0 false).callE 1 false = 0) := Lib.hid (fun e2 => by
     have e : k = 1 := by omega
     have := HE.out; rw [e] at this; exact this.symm)
    have hcase : k = 0 ∨ k = 1 := by omega
    clear HE0 HE1 HE HS HFAIL
    rcases hcase with rfl | rfl
    ·iterate 4 go_step
     refine wpList_load_mid rfl 48 (.tmp 5) rfl gs 0 rfl (bcells s) _ (rangeAt_block HSB.out) Tryz.underlying48 rfl HIS.out ?_
     iterate 3 go_step
     refine wpList_store_mid rfl 48 (.tmp 32) (.tmp 31) rfl w.heap.size 0 (bcells s).toArray rfl rfl HTH.out (by rw [HIS.out]; simp) H1B.out ?_
     obtain ⟨w5, hw5⟩ : ∃ w5, w5 = w4.setCells w.heap.size (0 * 64) (bcells s) := ⟨_, rfl⟩
     rw [← hw5] at HNX
     refine (?_ : wpList _ _ _ _ _ (w4.setCells w.heap.size (0 * 64) (bcells s)))
     rw [← hw5]
     clear hw5
     go_wp2
     go_roundg (2 - (0 + 1))
     case measure => omega
     case rel => exact ⟨0 + 1, by omega, rfl, rfl, HE0'.out, HE1'.out, HNX.out⟩
    ·iterate 4 go_step
     refine wpList_load_mid rfl 48 (.tmp 5) rfl gs 0 rfl (bcells s) _ (rangeAt_block HSB.out) Tryz.underlying48 rfl HIS.out ?_
     iterate 3 go_step
     refine wpList_store_mid rfl 48 (.tmp 32) (.tmp 31) rfl w.heap.size 64 (bcells s).toArray rfl rfl HTH.out (by rw [HIS.out]; simp) H1B.out ?_
     obtain ⟨w5, hw5⟩ : ∃ w5, w5 = w4.setCells w.heap.size (1 * 64) (bcells s) := ⟨_, rfl⟩
     rw [← hw5] at HNX
     refine (?_ : wpList _ _ _ _ _ (w4.setCells w.heap.size (1 * 64) (bcells s)))
     rw [← hw5]
     clear hw5
     go_wp2
     go_roundg (2 - (1 + 1))
     case measure => omega
     case rel => exact ⟨1 + 1, by omega, rfl, rfl, HE0'.out, HE1'.out, HNX.out⟩
  ·obtain rfl : k = 2 := by omega
   have hRH : R = openH (countsF (D.reads 0) ((D.callD 0 false).reads 1)) (hdD D 2) := by
    rw [HR.out]; unfold openD
    rw [if_pos (HE0.out (by omega)), if_pos (HE1.out (by omega))]
    rfl
   have hA2 : hdA D 2 = D.reads 0 := rfl
   have hB2 : hdB D 2 = (D.callD 0 false).reads 1 := rfl
   have hdk := hdD_ok HOK.out 2
   have hlen2 : (hdD D 2).arr.length = D.arr.length := (callD_lenQ _ _ _).trans (callD_lenQ _ _ _)
   have hat := HA.out
   rw [hA2, hB2] at hat
   obtain ⟨a, ha⟩ : ∃ a, a = D.reads 0 := ⟨_, rfl⟩
   obtain ⟨b, hb⟩ : ∃ b, b = (D.callD 0 false).reads 1 := ⟨_, rfl⟩
   obtain ⟨D2, hD2⟩ : ∃ D2, D2 = hdD D 2 := ⟨_, rfl⟩
   rw [← ha, ← hb, ← hD2] at hRH
   rw [← ha, ← hb, ← hD2] at hat
   rw [← hD2] at hdk
   have hla := hat.la.1; have hlb := hat.lb.1
   have hra := rangeAt_sub (o := 0) (ds := bcells a) hat.two (by rw [List.drop_zero]; exact List.take_left' rfl)
   have hrb := rangeAt_sub (o := 64) (ds := bcells b) hat.two (by rw [List.drop_left' (by rw [bcells_length, hla])]; exact List.take_of_length_le (Nat.le_refl _))
   have HIA : RowKit.Hid ((Tryz.prog.info? 48).map (·.size) = some (bcells a).length) := Lib.hid (by rw [Tryz.info56p]; simp [bcells, hla])
   have HIB : RowKit.Hid ((Tryz.prog.info? 48).map (·.size) = some (bcells b).length) := Lib.hid (by rw [Tryz.info56p]; simp [bcells, hlb])
   have hcn := wcounts_any wo hla hlb hat.la.2 hat.lb.2
   have hc2 := cntF_two a b
   have hc1 := fun h => cntF_one (a := a) (b := b) h
   have hsy := countsF_says hat.la.2 hat.lb.2
   obtain ⟨cf, hcf⟩ : ∃ cf, cf = countsF a b := ⟨_, rfl⟩
   rw [← hcf] at hsy hRH hc2 hc1
   obtain ⟨ch, hch⟩ : ∃ ch, ch = cntF a b := ⟨_, rfl⟩
   rw [← hch] at hcn hc2 hc1
   obtain ⟨hx, cokx⟩ := ch
   obtain ⟨hh, cok⟩ := cf
   simp only at hcn hsy hRH hc2 hc1
   subst hc2
   have HC1 := Lib.hid hc1
   have HLEN2 := Lib.hid (show D2.arr.length = D.arr.length by rw [hD2]; exact hlen2); have HLV := Lib.hid (show D2.dead = false from by rw [hD2]; exact callD_live (HE1.out (by omega))); have HRA := Lib.hid hra; have HRB := Lib.hid hrb; have HCN := Lib.hid hcn; have HSY := Lib.hid hsy; have HRH := Lib.hid hRH; have HDK := Lib.hid hdk; have HA2 := Lib.hid hat
   clear hlen2 HE0 HE1 hch hc1 c0 c1 c2 c3 c4 c5 c6 c7 c8 hRH hA2 hB2 hdk hat ha hb hD2 hla hlb hra hrb hcn hsy hcf HA HOK
   go_upto_region 10 with fail
   iterate 4 go_step
   refine wpList_load_mid rfl 48 (.tmp 35) rfl w.heap.size 0 rfl (bcells a) _ HRA.out Tryz.underlying48 rfl HIA.out ?_
   iterate 3 go_step
   refine wpList_load_mid rfl 48 (.tmp 37) rfl w.heap.size 64 rfl (bcells b) _ HRB.out Tryz.underlying48 rfl HIB.out ?_
   go_wp2_with (go_at_call 132; fail)
   refine HCN.out.mono ?_
   rintro e w6 ⟨rfl, hu6⟩
   have HA6 := Lib.hid (HA2.out.kept hu6 (fun _ e => e.elim) HFL.out)
   clear hu6 HCN HRA HRB HIA HIB HA2
   simp only [Hd.val]
   go_upto_region 11 with fail
   obtain ⟨bh, hbh⟩ : ∃ bh, bh = w6.heap.size := ⟨_, rfl⟩
   obtain ⟨w7, hw7⟩ : ∃ w7, w7 = w6.alloc (.cells #[.int .i64 hx.turn, .int .i64 hx.area, .int .i64 hx.place, .int .i64 hx.number] 31) := ⟨_, rfl⟩
   have HBH : RowKit.Hid (w7.heap[bh]? = some (.cells #[.int .i64 hx.turn, .int .i64 hx.area, .int .i64 hx.place, .int .i64 hx.number] 31 (0, 0))) := Lib.hid (by rw [hw7, hbh]; exact alloc_at rfl)
   have HBG : RowKit.Hid (w.heap.size < bh) := Lib.hid (by rw [hbh]; exact lt_of_heap HA6.out.two)
   have HA7 : RowKit.Hid (HdsAt w p F a b D2 w7) := Lib.hid (by rw [hw7]; exact HA6.out.kept ((Upd.refl (fun _ => False) w6).alloc _) (fun _ e => e.elim) HFL.out)
   rw [← hbh, ← hw7]
   have HD7 := Lib.hid HA7.out.dsk
   have HM7 := Lib.hid ((HA7.out.upd.block _ (lt_of_heap HM.out) HMF.out).trans HM.out)
   clear hbh hw7 HA6
   have hun : ∀ n, Upd (fun _ => False) w7 (w7.drewN n) := fun n => ⟨rfl, rfl, rfl, Nat.le_refl _, fun _ _ _ => rfl⟩
   have HUN := Lib.hid hun
   clear hun
   cases cokx with
   |false =>
    have HRE : RowKit.Hid (R = (none, 140, D2)) := Lib.hid (by rw [HRH.out]; unfold openH; rw [if_pos (.inl rfl)])
    go_quiet (fail)
    go_wp2
    go_ret
    exact HFAILS.out _ _ _ (HA7.out.dsk.kept (HUN.out _) (fun _ _ e => e)) (HA7.out.upd.trans ((HUN.out _).mono (fun _ _ e => e.elim))) HRE.out
   |true =>
    obtain ⟨hsays, hpl⟩ := HSY.out rfl
    obtain rfl := HC1.out rfl
    have HSAYS := Lib.hid hsays; have HPL := Lib.hid hpl
    have har := hsays.area
    have hv1 : IntKind.i64.wrap (2 * hx.area) = 2 * hx.area := by rw [IntKind.wrap_i64]; omega
    have hv2 : IntKind.i64.wrap (2 + 2 * hx.area) = 2 + 2 * hx.area := by rw [IntKind.wrap_i64]; omega
    have hm7 := HM7.out
    rw [mdc_lit] at hm7
    obtain ⟨c0, c1, c2, c3, c4, c5, c6, c7, c8⟩ := cells9_of hm7
    obtain ⟨d0, d1, d2, d3⟩ := cells4_of HBH.out
    clear hsays hpl HSY HC1 har hm7
    have hA : Upd (fun _ => False) w7 w7.drew := (Upd.refl _ w7).drew
    by_cases hl : (D2.arr.length : Int) < 2 + 2 * hx.area
    ·have HRE : RowKit.Hid (R = (none, 140, D2)) := Lib.hid (by rw [HRH.out]; unfold openH; rw [if_pos (.inr hl)])
     refine wp_region_G 13 (fun W => Upd (fun _ => False) w7 W) [false, false, false, false, false, false, false, false, false, false, false, false, false, false] rfl (by kernel_rfl) ?_
     generalize w7.drew = wd at hA ⊢
     refine wpG_takeP (i := 0) (v := .bool true) rfl (by kernel_rfl) (fun _ _ _ h => h) hA (.inl ⟨rfl, fun w5 q1 => ?_⟩) ?_
     ·go_simp
     simp only [Act.put, List.setIfInBounds_toArray, List.set]
     refine wpG_takeP (i := 1) (v := .bool false) rfl (by kernel_rfl) (fun _ _ _ h => h) hA (.inl ⟨rfl, fun w5 q1 => ?_⟩) ?_
     ·go_simp
     simp only [Act.put, List.setIfInBounds_toArray, List.set]
     refine wpG_takeP (i := 2) (v := .bool false) rfl (by kernel_rfl) (fun _ _ _ h => h) hA (.inl ⟨rfl, fun w5 q1 => ?_⟩) ?_
     ·go_simp
     simp only [Act.put, List.setIfInBounds_toArray, List.set]
     refine wpG_takeP (i := 3) (v := .pointer (some ⟨m, 0, none⟩)) rfl (by kernel_rfl) (fun _ _ _ h => h) hA (.inl ⟨rfl, fun w5 q1 => ?_⟩) ?_
     ·go_simp
     simp only [Act.put, List.setIfInBounds_toArray, List.set]
     refine wpG_takeP (i := 4) (v := .pointer (some ⟨m, 0, none⟩)) rfl (by kernel_rfl) (fun _ _ _ h => h) hA (.inl ⟨rfl, fun w5 q1 => ?_⟩) ?_
     ·go_simp
     simp only [Act.put, List.setIfInBounds_toArray, List.set]
     refine wpG_takeP (i := 5) (v := .pointer (some ⟨m, 0, none⟩)) rfl (by kernel_rfl) (fun _ _ _ h => h) hA (.inl ⟨rfl, fun w5 q1 => ?_⟩) ?_
     ·go_simp
     simp only [Act.put, List.setIfInBounds_toArray, List.set]
     refine wpG_takeT (i := 6) (v := .pointer (some ⟨p, 0, none⟩)) rfl (fun L hc h => (hc.waits (n := 13) (i := 12) (by kernel_rfl) (hc.waits (n := 12) (i := 7) (by kernel_rfl) (hc.waits (n := 7) (i := 6) (by kernel_rfl) h)))) (by kernel_rfl) (fun _ _ _ h => h) hA (.inl ⟨rfl, fun w5 q1 => ?_⟩) ?_
     ·have hb := (q1.block _ (lt_of_heap HM7.out) (fun e => e)).trans HM7.out
      rw [mdc_lit] at hb
      obtain ⟨c0, c1, c2, c3, c4, c5, c6, c7, c8⟩ := cells9_of hb
      go_simp
     simp only [Act.put, List.setIfInBounds_toArray, List.set]
     refine wpG_takeP (i := 8) (v := .pointer (some ⟨bh, 1, none⟩)) rfl (by kernel_rfl) (fun _ _ _ h => h) hA (.inl ⟨rfl, fun w5 q1 => ?_⟩) ?_
     ·go_simp
     simp only [Act.put, List.setIfInBounds_toArray, List.set]
     refine wpG_takeT (i := 9) (v := .int .i64 hx.area) rfl (fun L hc h => (hc.waits (n := 13) (i := 12) (by kernel_rfl) (hc.waits (n := 12) (i := 11) (by kernel_rfl) (hc.waits (n := 11) (i := 10) (by kernel_rfl) (hc.waits (n := 10) (i := 9) (by kernel_rfl) h))))) (by kernel_rfl) (fun _ _ _ h => h) hA (.inl ⟨rfl, fun w5 q1 => ?_⟩) ?_
     ·obtain ⟨c0, c1, c2, c3⟩ := cells4_of ((q1.block _ (lt_of_heap HBH.out) (fun e => e)).trans HBH.out)
      go_simp
     simp only [Act.put, List.setIfInBounds_toArray, List.set]
     refine wpG_takeP (i := 10) (v := .int .i64 (2 * hx.area)) rfl (by kernel_rfl) (fun _ _ _ h => h) hA (.inl ⟨rfl, fun w5 q1 => ?_⟩) ?_
     ·go_simp
     simp only [Act.put, List.setIfInBounds_toArray, List.set]
     refine wpG_takeP (i := 11) (v := .int .i64 (2 + 2 * hx.area)) rfl (by kernel_rfl) (fun _ _ _ h => h) hA (.inl ⟨rfl, fun w5 q1 => ?_⟩) ?_
     ·go_simp
     simp only [Act.put, List.setIfInBounds_toArray, List.set]
     refine wpG_doIf (i := 7) rfl (by kernel_rfl) rfl (fun K hK => ?_)
     have HKK := Lib.hid hK
     clear hK
     go_step
     refine (len_any _ (HD7.out.kept hA (fun _ _ e => e))).mono ?_
     rintro e w8 ⟨rfl, rfl⟩
     simp only []
     refine HKK.out _ _ hA ?_
     clear HKK
     simp only [Act.put, List.setIfInBounds_toArray, List.set]
     refine wpG_takeP (i := 12) (v := .bool true) rfl (by kernel_rfl) (fun _ _ _ h => h) hA (.inl ⟨rfl, fun w5 q1 => ?_⟩) ?_
     ·go_simp
     simp only [Act.put, List.setIfInBounds_toArray, List.set]
     refine wpG_tail_lit (k := 13) rfl rfl (by kernel_rfl) ?_
     simp only [List.drop]
     have HUA := Lib.hid hA
     clear hA
     go_wp2
     go_ret
     exact HFAILS.out _ _ _ (HA7.out.dsk.kept HUA.out (fun _ _ e => e)) (HA7.out.upd.trans (HUA.out.mono (fun _ _ e => e.elim))) HRE.out
    ·have HRE : RowKit.Hid (R = openP hx (foundD hx 1001 [] 0 D2)) := Lib.hid (by rw [HRH.out]; unfold openH; rw [if_neg (fun e => e.elim (fun q => Bool.noConfusion q) hl)])
     have HLN := Lib.hid hl
     refine wp_region_G 13 (fun W => Upd (fun _ => False) w7 W) [false, false, false, false, false, false, false, false, false, false, false, false, false, false] rfl (by kernel_rfl) ?_
     generalize w7.drew = wd at hA ⊢
     refine wpG_takeP (i := 0) (v := .bool true) rfl (by kernel_rfl) (fun _ _ _ h => h) hA (.inl ⟨rfl, fun w5 q1 => ?_⟩) ?_
     ·go_simp
     simp only [Act.put, List.setIfInBounds_toArray, List.set]
     refine wpG_takeP (i := 1) (v := .bool false) rfl (by kernel_rfl) (fun _ _ _ h => h) hA (.inl ⟨rfl, fun w5 q1 => ?_⟩) ?_
     ·go_simp
     simp only [Act.put, List.setIfInBounds_toArray, List.set]
     refine wpG_takeP (i := 2) (v := .bool false) rfl (by kernel_rfl) (fun _ _ _ h => h) hA (.inl ⟨rfl, fun w5 q1 => ?_⟩) ?_
     ·go_simp
     simp only [Act.put, List.setIfInBounds_toArray, List.set]
     refine wpG_takeP (i := 3) (v := .pointer (some ⟨m, 0, none⟩)) rfl (by kernel_rfl) (fun _ _ _ h => h) hA (.inl ⟨rfl, fun w5 q1 => ?_⟩) ?_
     ·go_simp
     simp only [Act.put, List.setIfInBounds_toArray, List.set]
     refine wpG_takeP (i := 4) (v := .pointer (some ⟨m, 0, none⟩)) rfl (by kernel_rfl) (fun _ _ _ h => h) hA (.inl ⟨rfl, fun w5 q1 => ?_⟩) ?_
     ·go_simp
     simp only [Act.put, List.setIfInBounds_toArray, List.set]
     refine wpG_takeP (i := 5) (v := .pointer (some ⟨m, 0, none⟩)) rfl (by kernel_rfl) (fun _ _ _ h => h) hA (.inl ⟨rfl, fun w5 q1 => ?_⟩) ?_
     ·go_simp
     simp only [Act.put, List.setIfInBounds_toArray, List.set]
     refine wpG_takeT (i := 6) (v := .pointer (some ⟨p, 0, none⟩)) rfl (fun L hc h => (hc.waits (n := 13) (i := 12) (by kernel_rfl) (hc.waits (n := 12) (i := 7) (by kernel_rfl) (hc.waits (n := 7) (i := 6) (by kernel_rfl) h)))) (by kernel_rfl) (fun _ _ _ h => h) hA (.inl ⟨rfl, fun w5 q1 => ?_⟩) ?_
     ·have hb := (q1.block _ (lt_of_heap HM7.out) (fun e => e)).trans HM7.out
      rw [mdc_lit] at hb
      obtain ⟨c0, c1, c2, c3, c4, c5, c6, c7, c8⟩ := cells9_of hb
      go_simp
     simp only [Act.put, List.setIfInBounds_toArray, List.set]
     refine wpG_takeP (i := 8) (v := .pointer (some ⟨bh, 1, none⟩)) rfl (by kernel_rfl) (fun _ _ _ h => h) hA (.inl ⟨rfl, fun w5 q1 => ?_⟩) ?_
     ·go_simp
     simp only [Act.put, List.setIfInBounds_toArray, List.set]
     refine wpG_takeT (i := 9) (v := .int .i64 hx.area) rfl (fun L hc h => (hc.waits (n := 13) (i := 12) (by kernel_rfl) (hc.waits (n := 12) (i := 11) (by kernel_rfl) (hc.waits (n := 11) (i := 10) (by kernel_rfl) (hc.waits (n := 10) (i := 9) (by kernel_rfl) h))))) (by kernel_rfl) (fun _ _ _ h => h) hA (.inl ⟨rfl, fun w5 q1 => ?_⟩) ?_
     ·obtain ⟨c0, c1, c2, c3⟩ := cells4_of ((q1.block _ (lt_of_heap HBH.out) (fun e => e)).trans HBH.out)
      go_simp
     simp only [Act.put, List.setIfInBounds_toArray, List.set]
     refine wpG_takeP (i := 10) (v := .int .i64 (2 * hx.area)) rfl (by kernel_rfl) (fun _ _ _ h => h) hA (.inl ⟨rfl, fun w5 q1 => ?_⟩) ?_
     ·go_simp
     simp only [Act.put, List.setIfInBounds_toArray, List.set]
     refine wpG_takeP (i := 11) (v := .int .i64 (2 + 2 * hx.area)) rfl (by kernel_rfl) (fun _ _ _ h => h) hA (.inl ⟨rfl, fun w5 q1 => ?_⟩) ?_
     ·go_simp
     simp only [Act.put, List.setIfInBounds_toArray, List.set]
     refine wpG_doIf (i := 7) rfl (by kernel_rfl) rfl (fun K hK => ?_)
     have HKK := Lib.hid hK
     clear hK
     go_step
     refine (len_any _ (HD7.out.kept hA (fun _ _ e => e))).mono ?_
     rintro e w8 ⟨rfl, rfl⟩
     simp only []
     refine HKK.out _ _ hA ?_
     clear HKK
     simp only [Act.put, List.setIfInBounds_toArray, List.set]
     refine wpG_takeP (i := 12) (v := .bool false) rfl (by kernel_rfl) (fun _ _ _ h => h) hA (.inl ⟨rfl, fun w5 q1 => ?_⟩) ?_
     ·go_simp
     simp only [Act.put, List.setIfInBounds_toArray, List.set]
     refine wpG_tail_lit (k := 13) rfl rfl (by kernel_rfl) ?_
     simp only [List.drop]
     have HUA := Lib.hid hA
     clear hl hv1 hv2 hA c0 c1 c2 c3 c4 c5 c6 c7 c8 d0 d1 d2 d3
     obtain ⟨ar, har⟩ := Int.eq_ofNat_of_zero_le (show 0 ≤ hx.area by have := HSAYS.out.area; omega)
     have HAR := Lib.hid har
     have hul : Upd (fun _ => False) w7 wd := HUA.out
     have HD13 := Lib.hid (HD7.out.kept hul (fun _ _ e => e))
     have HB13 := Lib.hid ((hul.block _ (lt_of_heap HBH.out) (fun e => e)).trans HBH.out)
     have HM13 := Lib.hid ((hul.block _ (lt_of_heap HM7.out) (fun e => e)).trans HM7.out)
     have HU13 : RowKit.Hid (Upd F w wd) := Lib.hid (HA7.out.upd.trans (hul.mono (fun _ _ e => e.elim)))
     obtain ⟨LsD, hLsD⟩ : ∃ LsD, LsD = (List.range (2 * ar)).map fun (i : Nat) => D2.S (2 + (i : Int)) := ⟨_, rfl⟩
     have hLl : LsD.length = 2 * ar := by rw [hLsD]; simp
     obtain ⟨AA, hAA⟩ : ∃ AA, AA = saysA (SofL LsD) hx 1001 [] 0 := ⟨_, rfl⟩
     have HPLC : RowKit.Hid (∀ W, Upd (fun _ => False) wd W → Calls Tryz.prog 134 #[.pointer (some ⟨m, 0, none⟩), .int .i64 ar] W fun e w' => ∃ g, e = .returned (.slice (some ⟨g, 0, none⟩) (2 * ar) (2 * ar)) ∧ W.heap.size ≤ g ∧ BlksAt w' (some ⟨g, 0, none⟩) LsD ∧ Upd (fun _ => False) W w') := Lib.hid (fun W hW => by
      rw [hLsD]
      exact wmplaces_any (Kd := Kd + 2) W ((hW.block _ (lt_of_heap HM13.out) (fun e => e)).trans HM13.out) (HD13.out.kept hW (fun _ _ e => e)) HDK.out (by omega) HLV.out (by have := HSAYS.out.area; omega) (by have := HLN.out; omega))
     have HSY5 : RowKit.Hid (∀ W g, BlksAt W (some ⟨g, 0, none⟩) LsD → Calls Tryz.prog 133 #[hx.val, .slice (some ⟨g, 0, none⟩) (2 * ar) (2 * ar)] W fun e w' => ∃ PV AV x5, e = .returned (.agg #[.int .i64 hx.turn, .int .i64 hx.area, .int .i64 hx.place, .int .i64 hx.number, PV, AV]) ∧ SyAt W.heap.size w' x5 hx PV AV AA.1 AA.2 ∧ Upd (fun _ => False) W w') := Lib.hid (fun W g hb => by
      have := wsays_any (lc := 2 * ar) hx W hb (by rw [hLl, har]; push_cast; rfl) HSAYS.out.turn HSAYS.out.area ⟨HPL.out, HSAYS.out.place⟩ HSAYS.out.number
      rwa [hLl, ← hAA] at this)
     have HLSD := Lib.hid hLsD; have HAAD := Lib.hid hAA; have HLL := Lib.hid hLl
     unfold Hd.val at HSY5
     clear har hul hLsD hLl hAA
     go_upto_region 13 with fail
     go_cut [9] from 56 to 61 (fun v wx => ∃ x9 B pa9 pc9 aa9 ac9 C9, v = .pointer (some ⟨x9, 0, none⟩) ∧ wx.heap[x9]? = some (.cells #[.int .i64 hx.turn, .int .i64 hx.area, .int .i64 hx.place, .int .i64 hx.number, .slice pa9 AA.1.length pc9, .slice aa9 AA.2.length ac9] 35 (0, 0)) ∧ SyP B wx (.slice pa9 AA.1.length pc9) (.slice aa9 AA.2.length ac9) AA.1 AA.2 ∧ PIn C9 wx pa9 AA.1 ∧ (∀ k, C9 k → B ≤ k ∧ k ≠ x9) ∧ Upd (fun _ => False) wd wx ∧ wd.heap.size ≤ x9 ∧ wd.heap.size ≤ B)
     case first =>
      have hA : Upd (fun _ => False) wd wd.drew := (Upd.refl _ _).drew
      refine wp_region_G 7 (fun W => Upd (fun _ => False) wd W) [false, false, false, false, false, false, false, false] rfl (by kernel_rfl) ?_
      generalize wd.drew = v0 at hA ⊢
      refine wpG_takeT (i := 0) (v := .agg #[.int .i64 hx.turn, .int .i64 hx.area, .int .i64 hx.place, .int .i64 hx.number]) rfl (fun L hc h => (hc.waits (n := 7) (i := 0) (by kernel_rfl) h)) (by kernel_rfl) (fun _ _ _ h => h) hA (.inl ⟨rfl, fun w5 q1 => ?_⟩) ?_
      ·exact run_load_mid' rfl rfl [.int .i64 hx.turn, .int .i64 hx.area, .int .i64 hx.place, .int .i64 hx.number] (rangeAt_block (cs := [.int .i64 hx.turn, .int .i64 hx.area, .int .i64 hx.place, .int .i64 hx.number]) ((q1.block _ (lt_of_heap HB13.out) (fun e => e)).trans HB13.out)) Tryz.underlying31 rfl (by kernel_rfl)
      simp only [Act.put, List.setIfInBounds_toArray, List.set]
      refine wpG_takeT (i := 1) (v := .pointer (some ⟨m, 0, none⟩)) rfl (fun L hc h => (hc.waits (n := 7) (i := 1) (by kernel_rfl) h)) (by kernel_rfl) (fun _ _ _ h => h) hA (.inl ⟨rfl, fun w5 q1 => ?_⟩) ?_
      ·go_simp
      simp only [Act.put, List.setIfInBounds_toArray, List.set]
      refine wpG_takeT (i := 2) (v := .pointer (some ⟨bh, 1, none⟩)) rfl (fun L hc h => (hc.waits (n := 7) (i := 2) (by kernel_rfl) h)) (by kernel_rfl) (fun _ _ _ h => h) hA (.inl ⟨rfl, fun w5 q1 => ?_⟩) ?_
      ·go_simp
      simp only [Act.put, List.setIfInBounds_toArray, List.set]
      refine wpG_takeT (i := 3) (v := .int .i64 ar) rfl (fun L hc h => (hc.waits (n := 7) (i := 3) (by kernel_rfl) h)) (by kernel_rfl) (fun _ _ _ h => h) hA (.inl ⟨rfl, fun w5 q1 => ?_⟩) ?_
      ·obtain ⟨c0, c1, c2, c3⟩ := cells4_of ((q1.block _ (lt_of_heap HB13.out) (fun e => e)).trans HB13.out)
       rw [HAR.out] at c1
       go_simp
      simp only [Act.put, List.setIfInBounds_toArray, List.set]
      refine wpG_do2 (i := 4) (j := 6) rfl rfl (by kernel_rfl) rfl rfl (fun K hK => ?_) (fun K hK => ?_)
      ·have HKK := Lib.hid hK
       clear hK
       have hAs := hA.size
       go_step
       refine (HPLC.out _ hA).mono ?_
       rintro e v1 ⟨gz, rfl, hgz, hblk, hun⟩
       have hA := hA.trans hun
       have HBK := Lib.hid hblk
       clear hblk hgz
       simp only []
       refine HKK.out _ _ hA ?_
       clear HKK hun hAs
       simp only [Act.put, List.setIfInBounds_toArray, List.set]
       refine wpG_do2 (i := 5) (j := 6) rfl rfl (by kernel_rfl) rfl rfl (fun K hK => ?_) (fun K hK => ?_)
       ·have HKK := Lib.hid hK
        clear hK
        have hAs := hA.size
        go_step
        refine (HSY5.out _ gz HBK.out).mono ?_
        rintro e v2 ⟨PV, AV, x5, rfl, hsy, hun⟩
        have hA := hA.trans hun
        have HSYA := Lib.hid hsy.syP
        have HBX := Lib.hid hAs
        clear hsy
        simp only []
        refine HKK.out _ _ hA ?_
        clear HKK hun hAs
        simp only [Act.put, List.setIfInBounds_toArray, List.set]
        refine wpG_do (i := 6) rfl (by kernel_rfl) rfl (fun K hK => ?_)
        have HKK := Lib.hid hK
        clear hK
        have hAs := hA.size
        go_step
        have hun : Upd (fun _ => False) v2 (v2.alloc (.cells #[.int .i64 0, .int .i64 0, .int .i64 0, .int .i64 0, .slice none 0 0, .slice none 0 0] 35)) := (Upd.refl _ _).alloc _
        have hA := hA.trans hun
        have HX9 := Lib.hid (alloc_at (w := v2) (o := .cells #[.int .i64 0, .int .i64 0, .int .i64 0, .int .i64 0, .slice none 0 0, .slice none 0 0] 35) rfl)
        have HBO := Lib.hid hAs
        refine HKK.out _ _ hA ?_
        clear HKK hAs
        simp only [Act.put, List.setIfInBounds_toArray, List.set]
        generalize v2.alloc (.cells #[.int .i64 0, .int .i64 0, .int .i64 0, .int .i64 0, .slice none 0 0, .slice none 0 0] 35) = v3 at hA hun HX9 ⊢
        obtain ⟨x9, hx9d⟩ : ∃ x9, x9 = v2.heap.size := ⟨_, rfl⟩
        rw [← hx9d] at HX9 HBO ⊢
        have HXAP : RowKit.Hid (x9 < 0 ∨ v2.heap.size ≤ x9) := Lib.hid (.inr (Nat.le_of_eq hx9d.symm))
        have HUS : RowKit.Hid (Upd (fun k => k = x9) v2 v3) := Lib.hid (hun.mono (fun _ _ e => e.elim))
        clear hx9d hun
        refine wpG_tail_lit (k := 7) rfl rfl (by kernel_rfl) ?_
        simp only [List.drop]
        have hsp := HSYA.out
        obtain ⟨vs, hp1, hp2⟩ := hsp.prow
        obtain ⟨pa9, pc9, rfl⟩ := rowV hp1
        obtain ⟨aa9, ac9, rfl⟩ := rowV hsp.arow
        refine wpList_store_mid rfl 35 (.tmp 9) (.tmp 61) rfl x9 0 #[.int .i64 hx.turn, .int .i64 hx.area, .int .i64 hx.place, .int .i64 hx.number, .slice pa9 AA.1.length pc9, .slice aa9 AA.2.length ac9] rfl rfl (by have q := there_block HX9.out; exact q) Tryz.size35s (by simp [Value.oneCell']) ?_
        have hx10 := heap_setCells_whole (vs := [.int .i64 hx.turn, .int .i64 hx.area, .int .i64 hx.place, .int .i64 hx.number, .slice pa9 AA.1.length pc9, .slice aa9 AA.2.length ac9]) HX9.out rfl
        have hu10 : Upd (fun j => j = x9) v3 (v3.setCells x9 0 [.int .i64 hx.turn, .int .i64 hx.area, .int .i64 hx.place, .int .i64 hx.number, .slice pa9 AA.1.length pc9, .slice aa9 AA.2.length ac9]) := Upd.setCells (b := x9) (F := fun j => j = x9) rfl _ 0 (Upd.refl _ v3)
        refine (?_ : wpList _ _ _ _ _ (v3.setCells x9 0 [.int .i64 hx.turn, .int .i64 hx.area, .int .i64 hx.place, .int .i64 hx.number, .slice pa9 AA.1.length pc9, .slice aa9 AA.2.length ac9]))
        obtain ⟨wz, hwz⟩ : ∃ wz, wz = v3.setCells x9 0 [.int .i64 hx.turn, .int .i64 hx.area, .int .i64 hx.place, .int .i64 hx.number, .slice pa9 AA.1.length pc9, .slice aa9 AA.2.length ac9] := ⟨_, rfl⟩
        rw [← hwz] at hx10 hu10 ⊢
        have HX10 := Lib.hid hx10; have HU10 := Lib.hid hu10; have HAE := Lib.hid hA
        clear hwz hx10 hu10 hp1 hp2 hsp hA vs
        go_wp2
        go_meet
        case rel =>
         have hus : Upd (fun k => k = x9) _ wz := HUS.out.trans HU10.out
         obtain ⟨C9, hc1, hc2⟩ := HSYA.out.pin
         exact ⟨x9, _, _, _, _, _, C9, rfl, HX10.out, HSYA.out.keptG hus (fun k h1 h2 e => by have e2 : k = x9 := e; have := HXAP.out; omega), hc1.kept hus (fun k hk e => by have e2 : k = x9 := e; have := HXAP.out; have := hc2 k hk; omega), fun k hk => ⟨(hc2 k hk).1, fun e2 => by have := HXAP.out; have := hc2 k hk; omega⟩, HAE.out.step HU10.out (fun k hk e => by have e2 : k = x9 := e; have := HBO.out; omega), HBO.out, HBX.out⟩
       ·have HKK := Lib.hid hK
        clear hK
        have hAs := hA.size
        go_step
        have hun : Upd (fun _ => False) v1 (v1.alloc (.cells #[.int .i64 0, .int .i64 0, .int .i64 0, .int .i64 0, .slice none 0 0, .slice none 0 0] 35)) := (Upd.refl _ _).alloc _
        have hA := hA.trans hun
        have HX9 := Lib.hid (alloc_at (w := v1) (o := .cells #[.int .i64 0, .int .i64 0, .int .i64 0, .int .i64 0, .slice none 0 0, .slice none 0 0] 35) rfl)
        have HBO := Lib.hid hAs
        refine HKK.out _ _ hA ?_
        clear HKK hAs
        simp only [Act.put, List.setIfInBounds_toArray, List.set]
        generalize v1.alloc (.cells #[.int .i64 0, .int .i64 0, .int .i64 0, .int .i64 0, .slice none 0 0, .slice none 0 0] 35) = v2 at hA hun HX9 ⊢
        obtain ⟨x9, hx9d⟩ : ∃ x9, x9 = v1.heap.size := ⟨_, rfl⟩
        rw [← hx9d] at HX9 HBO ⊢
        have HBK := Lib.hid (HBK.out.kept hun)
        clear hx9d hun
        refine wpG_do (i := 5) rfl (by kernel_rfl) rfl (fun K hK => ?_)
        have HKK := Lib.hid hK
        clear hK
        have hAs := hA.size
        go_step
        refine (HSY5.out _ gz HBK.out).mono ?_
        rintro e v3 ⟨PV, AV, x5, rfl, hsy, hun⟩
        have hA := hA.trans hun
        have HSYA := Lib.hid hsy.syP
        have HBX := Lib.hid hAs
        have HXAP : RowKit.Hid (x9 < v2.heap.size ∨ v3.heap.size ≤ x9) := Lib.hid (.inl (lt_of_heap HX9.out))
        have HX9 := Lib.hid ((hun.block _ (lt_of_heap HX9.out) (fun e => e)).trans HX9.out)
        have HUS := Lib.hid (Upd.refl (fun k => k = x9) v3)
        clear hsy
        simp only []
        refine HKK.out _ _ hA ?_
        clear HKK hun hAs
        simp only [Act.put, List.setIfInBounds_toArray, List.set]
        refine wpG_tail_lit (k := 7) rfl rfl (by kernel_rfl) ?_
        simp only [List.drop]
        have hsp := HSYA.out
        obtain ⟨vs, hp1, hp2⟩ := hsp.prow
        obtain ⟨pa9, pc9, rfl⟩ := rowV hp1
        obtain ⟨aa9, ac9, rfl⟩ := rowV hsp.arow
        refine wpList_store_mid rfl 35 (.tmp 9) (.tmp 61) rfl x9 0 #[.int .i64 hx.turn, .int .i64 hx.area, .int .i64 hx.place, .int .i64 hx.number, .slice pa9 AA.1.length pc9, .slice aa9 AA.2.length ac9] rfl rfl (by have q := there_block HX9.out; exact q) Tryz.size35s (by simp [Value.oneCell']) ?_
        have hx10 := heap_setCells_whole (vs := [.int .i64 hx.turn, .int .i64 hx.area, .int .i64 hx.place, .int .i64 hx.number, .slice pa9 AA.1.length pc9, .slice aa9 AA.2.length ac9]) HX9.out rfl
        have hu10 : Upd (fun j => j = x9) v3 (v3.setCells x9 0 [.int .i64 hx.turn, .int .i64 hx.area, .int .i64 hx.place, .int .i64 hx.number, .slice pa9 AA.1.length pc9, .slice aa9 AA.2.length ac9]) := Upd.setCells (b := x9) (F := fun j => j = x9) rfl _ 0 (Upd.refl _ v3)
        refine (?_ : wpList _ _ _ _ _ (v3.setCells x9 0 [.int .i64 hx.turn, .int .i64 hx.area, .int .i64 hx.place, .int .i64 hx.number, .slice pa9 AA.1.length pc9, .slice aa9 AA.2.length ac9]))
        obtain ⟨wz, hwz⟩ : ∃ wz, wz = v3.setCells x9 0 [.int .i64 hx.turn, .int .i64 hx.area, .int .i64 hx.place, .int .i64 hx.number, .slice pa9 AA.1.length pc9, .slice aa9 AA.2.length ac9] := ⟨_, rfl⟩
        rw [← hwz] at hx10 hu10 ⊢
        have HX10 := Lib.hid hx10; have HU10 := Lib.hid hu10; have HAE := Lib.hid hA
        clear hwz hx10 hu10 hp1 hp2 hsp hA vs
        go_wp2
        go_meet
        case rel =>
         have hus : Upd (fun k => k = x9) _ wz := HUS.out.trans HU10.out
         obtain ⟨C9, hc1, hc2⟩ := HSYA.out.pin
         exact ⟨x9, _, _, _, _, _, C9, rfl, HX10.out, HSYA.out.keptG hus (fun k h1 h2 e => by have e2 : k = x9 := e; have := HXAP.out; omega), hc1.kept hus (fun k hk e => by have e2 : k = x9 := e; have := HXAP.out; have := hc2 k hk; omega), fun k hk => ⟨(hc2 k hk).1, fun e2 => by have := HXAP.out; have := hc2 k hk; omega⟩, HAE.out.step HU10.out (fun k hk e => by have e2 : k = x9 := e; have := HBO.out; omega), HBO.out, HBX.out⟩
      ·have HKK := Lib.hid hK
       clear hK
       have hAs := hA.size
       go_step
       have hun : Upd (fun _ => False) v0 (v0.alloc (.cells #[.int .i64 0, .int .i64 0, .int .i64 0, .int .i64 0, .slice none 0 0, .slice none 0 0] 35)) := (Upd.refl _ _).alloc _
       have hA := hA.trans hun
       have HX9 := Lib.hid (alloc_at (w := v0) (o := .cells #[.int .i64 0, .int .i64 0, .int .i64 0, .int .i64 0, .slice none 0 0, .slice none 0 0] 35) rfl)
       have HBO := Lib.hid hAs
       refine HKK.out _ _ hA ?_
       clear HKK hAs
       simp only [Act.put, List.setIfInBounds_toArray, List.set]
       generalize v0.alloc (.cells #[.int .i64 0, .int .i64 0, .int .i64 0, .int .i64 0, .slice none 0 0, .slice none 0 0] 35) = v1 at hA hun HX9 ⊢
       obtain ⟨x9, hx9d⟩ : ∃ x9, x9 = v0.heap.size := ⟨_, rfl⟩
       rw [← hx9d] at HX9 HBO ⊢
       clear hx9d hun
       refine wpG_do (i := 4) rfl (by kernel_rfl) rfl (fun K hK => ?_)
       have HKK := Lib.hid hK
       clear hK
       have hAs := hA.size
       go_step
       refine (HPLC.out _ hA).mono ?_
       rintro e v2 ⟨gz, rfl, hgz, hblk, hun⟩
       have hA := hA.trans hun
       have HBK := Lib.hid hblk
       clear hblk hgz
       have HX9 := Lib.hid ((hun.block _ (lt_of_heap HX9.out) (fun e => e)).trans HX9.out)
       simp only []
       refine HKK.out _ _ hA ?_
       clear HKK hun hAs
       simp only [Act.put, List.setIfInBounds_toArray, List.set]
       refine wpG_do (i := 5) rfl (by kernel_rfl) rfl (fun K hK => ?_)
       have HKK := Lib.hid hK
       clear hK
       have hAs := hA.size
       go_step
       refine (HSY5.out _ gz HBK.out).mono ?_
       rintro e v3 ⟨PV, AV, x5, rfl, hsy, hun⟩
       have hA := hA.trans hun
       have HSYA := Lib.hid hsy.syP
       have HBX := Lib.hid hAs
       have HXAP : RowKit.Hid (x9 < v2.heap.size ∨ v3.heap.size ≤ x9) := Lib.hid (.inl (lt_of_heap HX9.out))
       have HX9 := Lib.hid ((hun.block _ (lt_of_heap HX9.out) (fun e => e)).trans HX9.out)
       have HUS := Lib.hid (Upd.refl (fun k => k = x9) v3)
       clear hsy
       simp only []
       refine HKK.out _ _ hA ?_
       clear HKK hun hAs
       simp only [Act.put, List.setIfInBounds_toArray, List.set]
       refine wpG_tail_lit (k := 7) rfl rfl (by kernel_rfl) ?_
       simp only [List.drop]
       have hsp := HSYA.out
       obtain ⟨vs, hp1, hp2⟩ := hsp.prow
       obtain ⟨pa9, pc9, rfl⟩ := rowV hp1
       obtain ⟨aa9, ac9, rfl⟩ := rowV hsp.arow
       refine wpList_store_mid rfl 35 (.tmp 9) (.tmp 61) rfl x9 0 #[.int .i64 hx.turn, .int .i64 hx.area, .int .i64 hx.place, .int .i64 hx.number, .slice pa9 AA.1.length pc9, .slice aa9 AA.2.length ac9] rfl rfl (by have q := there_block HX9.out; exact q) Tryz.size35s (by simp [Value.oneCell']) ?_
       have hx10 := heap_setCells_whole (vs := [.int .i64 hx.turn, .int .i64 hx.area, .int .i64 hx.place, .int .i64 hx.number, .slice pa9 AA.1.length pc9, .slice aa9 AA.2.length ac9]) HX9.out rfl
       have hu10 : Upd (fun j => j = x9) v3 (v3.setCells x9 0 [.int .i64 hx.turn, .int .i64 hx.area, .int .i64 hx.place, .int .i64 hx.number, .slice pa9 AA.1.length pc9, .slice aa9 AA.2.length ac9]) := Upd.setCells (b := x9) (F := fun j => j = x9) rfl _ 0 (Upd.refl _ v3)
       refine (?_ : wpList _ _ _ _ _ (v3.setCells x9 0 [.int .i64 hx.turn, .int .i64 hx.area, .int .i64 hx.place, .int .i64 hx.number, .slice pa9 AA.1.length pc9, .slice aa9 AA.2.length ac9]))
       obtain ⟨wz, hwz⟩ : ∃ wz, wz = v3.setCells x9 0 [.int .i64 hx.turn, .int .i64 hx.area, .int .i64 hx.place, .int .i64 hx.number, .slice pa9 AA.1.length pc9, .slice aa9 AA.2.length ac9] := ⟨_, rfl⟩
       rw [← hwz] at hx10 hu10 ⊢
       have HX10 := Lib.hid hx10; have HU10 := Lib.hid hu10; have HAE := Lib.hid hA
       clear hwz hx10 hu10 hp1 hp2 hsp hA vs
       go_wp2
       go_meet
       case rel =>
        have hus : Upd (fun k => k = x9) _ wz := HUS.out.trans HU10.out
        obtain ⟨C9, hc1, hc2⟩ := HSYA.out.pin
        exact ⟨x9, _, _, _, _, _, C9, rfl, HX10.out, HSYA.out.keptG hus (fun k h1 h2 e => by have e2 : k = x9 := e; have := HXAP.out; omega), hc1.kept hus (fun k hk e => by have e2 : k = x9 := e; have := HXAP.out; have := hc2 k hk; omega), fun k hk => ⟨(hc2 k hk).1, fun e2 => by have := HXAP.out; have := hc2 k hk; omega⟩, HAE.out.step HU10.out (fun k hk e => by have e2 : k = x9 := e; have := HBO.out; omega), HBO.out, HBX.out⟩
     case rest =>
      obtain ⟨x9, B, pa9, pc9, aa9, ac9, C9, rfl, hx9, hsc, hpin, hcb, huc, hx9l, hBl⟩ := hcut
      have hSlen : ∀ q, okBlk (D2.S (atF hx.area q)) := fun q => by
       have h1 := atF_bound (area := hx.area) (place := q) (by have := HSAYS.out.area; omega)
       exact S_bytes HDK.out (by have := HLN.out; omega)
      have hAA2 : AA = saysA D2.S hx 1001 [] 0 := by
       rw [HAAD.out, HLSD.out]
       exact saysA_congr (fun q => by rw [HAR.out]; exact SofL_S (by have := HSAYS.out.area; have := HAR.out; omega) q) _ _ _
      have hfd := foundD_saysB (h := hx) (fun q => (hSlen q).1) 1001 [] 0 D2 rfl
      rw [← hAA2] at hfd
      have hask := saysA_asked (S := D2.S) (h := hx) (by have := HSAYS.out.area; omega) 1001 [] 0
      rw [← hAA2] at hask
      have hbts := saysA_bytes (S := D2.S) (h := hx) (fun q => (hSlen q).2) 1001 [] 0 (fun b hb => by simp at hb) rfl (by have := HSAYS.out.area; omega)
      rw [← hAA2] at hbts
      obtain ⟨ps, az⟩ := AA
      simp only at hfd hask hbts hsc hpin hx9
      have HPIN := Lib.hid hpin; have HCB := Lib.hid hcb
      obtain ⟨N, hN⟩ : ∃ N, N = az.length := ⟨_, rfl⟩
      rw [← hN] at hx9 hask
      have HX9 := Lib.hid hx9; have HUC := Lib.hid huc; have HX9L := Lib.hid hx9l; have HBL := Lib.hid hBl; have HFD := Lib.hid hfd; have HASK := Lib.hid hask; have HBT := Lib.hid hbts; have HSC := Lib.hid hsc; have HN := Lib.hid hN
      have hmc := (huc.block _ (lt_of_heap HM13.out) (fun e => e)).trans HM13.out
      have HMC := Lib.hid hmc
      have hbc := (huc.block _ (lt_of_heap HB13.out) (fun e => e)).trans HB13.out
      have HBC := Lib.hid hbc
      have HST : RowKit.Hid (AskAt wc wc p F D2 az 0 (Kd + 2)) := Lib.hid ⟨⟨D2, HD13.out.kept huc (fun _ _ e => e), rfl, HDK.out⟩, Upd.refl _ _⟩
      have HFLC : RowKit.Hid (∀ k, F k → k < w.heap.size) := Lib.hid HFL.out
      have hwl : w.heap.size ≤ wd.heap.size := HU13.out.size
      have HWL := Lib.hid hwl
      obtain ⟨d0, d1, d2, d3, d4, d5⟩ := cells6_of hx9
      clear hSlen hAA2 hfd hask hbts hsc hpin hcb hx9 huc hx9l hBl hmc hbc hN hwl
      go_upto_region 15 with fail
      clear d0 d1 d2 d3 d4 d5
      go_loopg [65] N (fun gk i wr => ∃ j : Nat, j ≤ N ∧ gk = N - j ∧ i = .int .i64 j ∧ AskAt wc wr p F D2 az j (Kd + 2))
      case atStart => exact ⟨0, Nat.zero_le _, rfl, rfl, HST.out⟩
      case round =>
       clear HST
       obtain ⟨j, hj, rfl, rfl, hs⟩ := hrel
       obtain ⟨wo, rfl⟩ : ∃ wo, wo = wr := ⟨_, rfl⟩
       obtain ⟨⟨E, hdE, hrE, hokE⟩, hupE⟩ := hs
       have HDE := Lib.hid hdE; have HRE2 := Lib.hid hrE; have HOKE := Lib.hid hokE; have HUPE := Lib.hid hupE
       have hmo := (hupE.block _ (lt_of_heap HMC.out) HMF.out).trans HMC.out
       have HMO := Lib.hid hmo
       clear hdE hrE hokE hupE
       by_cases hjn : j < N
       ·have hji : (j : Int) < N := by omega
        obtain ⟨x, hxj⟩ : ∃ x, az[j]? = some x := ⟨_, List.getElem?_eq_getElem (by rw [← HN.out]; exact hjn)⟩
        have hxb := HASK.out.1 x (List.mem_of_getElem? hxj)
        have hsn := HSAYS.out.area
        have hw1 : IntKind.i64.wrap (2 + (x - 2)) = x := by rw [IntKind.wrap_i64]; omega
        have hw2 : IntKind.i64.wrap ((j : Int) + 1) = j + 1 := by rw [IntKind.wrap_i64]; have := HASK.out.2; omega
        have hrow : ∃ ga, aa9 = some ⟨ga, 0, none⟩ ∧ wo.cell? ⟨ga, j, none⟩ = some (.int .i64 (x - 2)) := by
         have har := HSC.out.arow
         rcases har.2 with ⟨e, e2⟩ | ⟨ga, cap, cur, e, q1, q2, _⟩
         ·have := HN.out; omega
         ·injection e with e _ _
          have e' := e
          subst e
          have hc := World.ownsRow.cells har (g := ga) rfl j (.int .i64 (x - 2)) (by simp [hxj])
          rw [Addr.add_mid, Nat.zero_add] at hc
          exact ⟨ga, rfl, cell_keptF HUPE.out (fun e => by have h1 := HFLC.out ga e; have h2 := q1; have h3 := HBL.out; have h4 := HWL.out; omega) hc⟩
        obtain ⟨ga, rfl, hcx⟩ := hrow
        rw [mdc_lit] at hmo
        obtain ⟨c0, c1, c2, c3, c4, c5, c6, c7, c8⟩ := cells9_of hmo
        have HXJ := Lib.hid hxj
        clear hxb hsn hmo hxj
        go_wp2_with (go_at_call 17; fail)
        refine (read_any x wo HDE.out (HOKE.out.mono (by have := HASK.out.2; omega))).mono ?_
        rintro e w5 ⟨rfl, hd5, hu5⟩
        have hsb := reads_blk (HOKE.out.mono (show Kd + 2 + j ≤ 1099511627774 by have := HASK.out.2; omega)) x
        obtain ⟨s, hs⟩ : ∃ s, s = E.reads x := ⟨_, rfl⟩
        obtain ⟨Er, hEr⟩ : ∃ Er, Er = E.callE x false := ⟨_, rfl⟩
        rw [← hs] at hsb ⊢
        rw [← hEr]
        obtain ⟨f1, f2, f3⟩ := fresh56 w5 s hsb.1
        have HIS : RowKit.Hid ((Tryz.prog.info? 48).map (·.size) = some (bcells s).length) := Lib.hid (by rw [Tryz.info56p]; simp [bcells, hsb.1])
        have H1B := Lib.hid (all_oneCell_toArray (bcells_one s))
        have F1 := Lib.hid f1
        have HD5 := Lib.hid (hd5.kept f3 (fun _ _ e => e))
        have HU5 := Lib.hid ((HUPE.out.trans hu5).trans (f3.mono (F := fun _ => False) (G := F) (fun _ _ e => e.elim)))
        have HER := Lib.hid hEr
        clear hd5 hu5 hsb hs hEr f1 f2 f3 hcx c0 c1 c2 c3 c4 c5 c6 c7 c8 hw1
        simp only []
        iterate 13 go_step
        refine (?_ : wpList _ _ _ _ _ (w5.alloc (.cells (bcells zblk).toArray 48)))
        refine wpList_store_mid rfl 48 (.tmp 12) (.tmp 77) rfl w5.heap.size 0 (bcells s).toArray rfl rfl F1.out (by rw [HIS.out]; simp) H1B.out ?_
        rw [show (bcells s).toArray.toList = bcells s from rfl]
        obtain ⟨w6, hw6⟩ : ∃ w6, w6 = (w5.alloc (.cells (bcells zblk).toArray 48)).setCells w5.heap.size 0 (bcells s) := ⟨_, rfl⟩
        rw [← hw6] at HD5 HU5 ⊢
        clear hw6 F1 H1B HIS
        have hdr : az.drop j = x :: az.drop (j + 1) := by
         obtain ⟨h1, h2⟩ := List.getElem?_eq_some_iff.1 HXJ.out
         rw [List.drop_eq_getElem_cons h1, h2]
        have hre := HRE2.out
        rw [hdr, readsD_cons] at hre
        rw [← HER.out] at hre
        by_cases hE0 : Er = 0
        ·rw [if_pos hE0] at hre
         have HRN := Lib.hid hre
         subst hE0
         clear hre hdr
         go_wp2
         go_roundg (N - (j + 1))
         case measure => omega
         case rel => exact ⟨j + 1, by omega, rfl, rfl, ⟨⟨_, HD5.out, HRN.out, (HOKE.out.callD _ _).mono (by omega)⟩, HU5.out⟩⟩
        ·rw [if_neg hE0] at hre
         have hEb : (Er != 0) = true := by simpa using hE0
         have hRR : R = (none, Er, E.callD x false) := by
          rw [HRE.out]
          unfold openP
          rw [HFD.out.1, hre, if_neg hE0]
         have HRR := Lib.hid hRR
         clear hre hdr hE0 hRR
         go_wp2
         go_ret
         exact HFAILS.out _ _ _ HD5.out ((HU13.out.trans (HUC.out.mono (fun _ _ e => e.elim))).trans HU5.out) HRR.out
       ·obtain rfl : j = N := by omega
        have hre : readsD az D2 = (0, E) := by rw [HRE2.out, HN.out, List.drop_length]; rfl
        have hRP : R = if ps = [] ∨ hx.turn = 1073741824 then (none, 140, E) else openL { hx with turn := hx.turn + 1 } ps E := by
         rw [HRE.out]
         unfold openP
         rw [HFD.out.1, HFD.out.2 (by rw [hre]), hre]
         rfl
        have HRP := Lib.hid hRP
        have hF : ∀ k, F k → ¬ (wd.heap.size ≤ k) := fun k hk e => by have := HFLC.out k hk; have := HWL.out; omega
        have hx9o := (HUPE.out.block _ (lt_of_heap HX9.out) (fun e => hF _ e HX9L.out)).trans HX9.out
        have hbco := (HUPE.out.block _ (lt_of_heap HBC.out) (fun e => by have := HFLC.out _ e; have := HBG.out; omega)).trans HBC.out
        have HX9O := Lib.hid hx9o; have HBCO := Lib.hid hbco
        have HU0 : RowKit.Hid (Upd F w wo) := Lib.hid ((HU13.out.trans (HUC.out.mono (fun _ _ e => e.elim))).trans HUPE.out)
        have HFF := Lib.hid hF
        obtain ⟨d0, d1, d2, d3, d4, d5⟩ := cells6_of hx9o
        obtain ⟨e0, e1, e2, e3⟩ := cells4_of hbco
        clear hre hRP hF hx9o hbco hmo
        by_cases hps : ps = []
        ·have hlb : ((ps.length : Int) == 0) = true := by rw [hps]; rfl
         have HRR : RowKit.Hid (R = (none, 140, E)) := Lib.hid (by rw [HRP.out, if_pos (.inl hps)])
         clear hps
         go_wp2
         go_ret
         exact HFAILS.out _ _ _ HDE.out HU0.out HRR.out
        have hlb : ((ps.length : Int) == 0) = false := by
         have : ps.length ≠ 0 := fun e => hps (List.length_eq_zero_iff.1 e)
         simpa using hps
        by_cases htm : hx.turn = 1073741824
        ·have htb : (hx.turn == 1073741824) = true := by simpa using htm
         have HRR : RowKit.Hid (R = (none, 140, E)) := Lib.hid (by rw [HRP.out, if_pos (.inr htm)])
         clear htm hps
         go_wp2
         go_ret
         exact HFAILS.out _ _ _ HDE.out HU0.out HRR.out
        have htb : (hx.turn == 1073741824) = false := by simpa using htm
        have HRL : RowKit.Hid (R = openL { hx with turn := hx.turn + 1 } ps E) := Lib.hid (by rw [HRP.out, if_neg (fun e => e.elim hps htm)])
        have hwt : IntKind.i64.wrap (hx.turn + 1) = hx.turn + 1 := by rw [IntKind.wrap_i64]; have := HSAYS.out.turn; omega
        have HTM := Lib.hid htm
        have f0 : wo.frozen? ⟨x9, 0, none⟩ = false := frozen_of_heap HX9O.out
        clear htm hps
        go_upto_region 24 with fail
        clear d0 d1 d2 d3 d4 d5 e0 e1 e2 e3 hlb htb f0 hwt
        obtain ⟨w8, hw8⟩ : ∃ w8, w8 = wo.setCell ⟨x9, 0, none⟩ (.int .i64 (hx.turn + 1)) := ⟨_, rfl⟩
        have hx8 : w8.heap[x9]? = some (.cells #[.int .i64 (hx.turn + 1), .int .i64 hx.area, .int .i64 hx.place, .int .i64 hx.number, .slice pa9 ps.length pc9, .slice aa9 j ac9] 35 (0, 0)) := by rw [hw8]; exact block_setCell (i := 0) HX9O.out _
        have hu8 : Upd (fun k => k = x9) wo w8 := by rw [hw8]; exact upd_own _ _ _ _
        rw [← hw8]
        have HX8 := Lib.hid hx8; have HU8 := Lib.hid hu8
        have hm8 := (hu8.block _ (lt_of_heap HMO.out) (fun e => by have e2 : m = x9 := e; have := HX9L.out; have := HLM.out; have := HWL.out; omega)).trans HMO.out
        have HM8 := Lib.hid hm8
        have hd8 := HDE.out.kept hu8 (fun k hk e => HFF.out k hk (by have e2 : k = x9 := e; rw [e2]; exact HX9L.out))
        have hh := whead_any (m := m) (p := p) (hd := X.h) (pv := .slice pa X.parts.length pc) (av := .slice aa an ac) (br := X.broken) (no := no) { hx with turn := hx.turn + 1 } w8 hm8 HMF.out hd8 HOKE.out (by have := HASK.out.2; omega) (by
         have h1 := HSAYS.out.turn; have h2 := HSAYS.out.area; have h3 := HSAYS.out.place; have h4 := HSAYS.out.number; have h5 := HPL.out; have h6 := HTM.out
         exact ⟨by show 0 ≤ hx.turn + 1 ∧ hx.turn + 1 ≤ 4294967295; omega, by show 0 ≤ hx.area ∧ hx.area ≤ 4294967295; omega, by show 0 ≤ hx.place ∧ hx.place ≤ 4294967295; omega, by show 0 ≤ hx.number ∧ hx.number ≤ 4294967295; omega⟩)
        have HHD := Lib.hid hh
        obtain ⟨d0, d1, d2, d3, d4, d5⟩ := cells6_of hx8
        clear hw8 hx8 hu8 hm8 hd8 hh
        unfold Hd.val at HHD
        go_wp2_with (go_at_call 128; fail)
        refine HHD.out.mono ?_
        rintro e w9 ⟨rfl, F9, hd9, hf9, hu9⟩
        have HD9 := Lib.hid hd9; have HF9 := Lib.hid hf9; have HU9 := Lib.hid hu9
        have hm9 := (hu9.block _ (lt_of_heap HM8.out) HMF.out).trans HM8.out
        have HM9 := Lib.hid hm9
        have hx9n := (hu9.block _ (lt_of_heap HX8.out) (fun e => HFF.out _ e HX9L.out)).trans HX8.out
        have HX9N := Lib.hid hx9n
        obtain ⟨Eh, hEh⟩ : ∃ Eh, Eh = E.laysE (raw [headSc { hx with turn := hx.turn + 1 }]) := ⟨_, rfl⟩
        rw [← hEh]
        have hRO : R = if Eh = 0 then (some ⟨{ hx with turn := hx.turn + 1 }, ps, usedOf ps, false⟩, 0, E.lays (raw [headSc { hx with turn := hx.turn + 1 }])) else (none, Eh, E.lays (raw [headSc { hx with turn := hx.turn + 1 }])) := by
         rw [HRL.out, hEh]
         rfl
        have HRO := Lib.hid hRO
        clear hd9 hf9 hu9 hm9 hx9n hEh hRO HHD d0 d1 d2 d3 d4 d5
        simp only []
        have hLM := HLM.out
        have hs0 := HU0.out.size; have hs8 := HU8.out.size; have hs9 := HU9.out.size
        have HU09 : RowKit.Hid (Upd F w w9) := Lib.hid ((HU0.out.step HU8.out (fun k hk e => by have e2 : k = x9 := e; have := HX9L.out; have := HWL.out; omega)).trans HU9.out)
        have HLO9 : RowKit.Hid (∀ k, F9 k → F k ∨ w8.heap.size ≤ k) := HF9
        have HS08 : RowKit.Hid (w.heap.size ≤ w8.heap.size) := Lib.hid (by omega)
        clear hLM hs0 hs8 hs9
        by_cases hE0 : Eh = 0
        rotate_left
        ·have hEb : (Eh == 0) = false := by simpa using hE0
         have HRR : RowKit.Hid (R = (none, Eh, E.lays (raw [headSc { hx with turn := hx.turn + 1 }]))) := Lib.hid (by rw [HRO.out, if_neg hE0])
         clear hE0
         go_wp2
         go_ret
         rw [HRR.out]
         refine ⟨rfl, F9, C, HD9.out, fun k hk => (HLO9.out k hk).imp_right (fun e => Nat.le_trans HS08.out e), fun k hk => .inl hk, fun k hk e => ?_, HU09.out.mono (fun _ _ e => .inl e), HMD.out.kept HU09.out HCF.out HMF.out⟩
         rcases HLO9.out k e with q | q
         ·exact HCF.out k hk q
         ·have := HCLT.out k hk; have := HS08.out; omega
        subst hE0
        have HRR : RowKit.Hid (R = (some ⟨{ hx with turn := hx.turn + 1 }, ps, usedOf ps, false⟩, 0, E.lays (raw [headSc { hx with turn := hx.turn + 1 }]))) := Lib.hid (by rw [HRO.out, if_pos rfl])
        obtain ⟨d0, d1, d2, d3, d4, d5⟩ := cells6_of HX9N.out
        go_upto_region 26 with fail
        iterate 19 go_step
        refine wpList_store_mid rfl 35 (.tmp 109) (.tmp 107) rfl m 1 #[.int .i64 (hx.turn + 1), .int .i64 hx.area, .int .i64 hx.place, .int .i64 hx.number, .slice pa9 ps.length pc9, .slice aa9 j ac9] rfl rfl (by have := there_sub (o := 1) (m := 6) HM9.out (by simp [mdC]); exact this) Tryz.size35s (by simp [Value.oneCell']) ?_
        refine (?_ : wpList _ _ _ _ _ (w9.setCells m 1 [.int .i64 (hx.turn + 1), .int .i64 hx.area, .int .i64 hx.place, .int .i64 hx.number, .slice pa9 ps.length pc9, .slice aa9 j ac9]))
        obtain ⟨w10, hw10⟩ : ∃ w10, w10 = w9.setCells m 1 [.int .i64 (hx.turn + 1), .int .i64 hx.area, .int .i64 hx.place, .int .i64 hx.number, .slice pa9 ps.length pc9, .slice aa9 j ac9] := ⟨_, rfl⟩
        have hm10 : w10.heap[m]? = some (.cells (mdC p { hx with turn := hx.turn + 1 } (.slice pa9 ps.length pc9) (.slice aa9 j ac9) X.broken no) 37 (0, 0)) := by
         rw [hw10]
         have := heap_setCells_at (o := 1) (vs := [.int .i64 (hx.turn + 1), .int .i64 hx.area, .int .i64 hx.place, .int .i64 hx.number, .slice pa9 ps.length pc9, .slice aa9 j ac9]) (old := [.pointer (some ⟨p, 0, none⟩), .int .i64 X.h.turn, .int .i64 X.h.area, .int .i64 X.h.place, .int .i64 X.h.number, .slice pa X.parts.length pc, .slice aa an ac, .bool X.broken, .bool no]) HM9.out (by simp)
         exact this
        have hu10 : Upd (fun k => k = m) w9 w10 := by rw [hw10]; exact Upd.setCells (b := m) (F := fun j => j = m) rfl _ 1 (Upd.refl _ w9)
        rw [← hw10]
        clear hw10 d0 d1 d2 d3 d4 d5
        have HM10 := Lib.hid hm10; have HU10 := Lib.hid hu10
        have f7 : w10.frozen? ⟨m, 7, none⟩ = false := frozen_of_heap hm10
        have f8 : w10.frozen? ⟨m, 8, none⟩ = false := frozen_of_heap hm10
        rw [mdc_lit] at hm10
        obtain ⟨c0, c1, c2, c3, c4, c5, c6, c7, c8⟩ := cells9_of hm10
        clear hm10 hu10
        go_wp2
        go_ret
        obtain ⟨w12, hw12⟩ : ∃ w12, w12 = (w10.setCell ⟨m, 7, none⟩ (.bool false)).setCell ⟨m, 8, none⟩ (.bool false) := ⟨_, rfl⟩
        have hm12 : w12.heap[m]? = some (.cells (mdC p { hx with turn := hx.turn + 1 } (.slice pa9 ps.length pc9) (.slice aa9 j ac9) false false) 37 (0, 0)) := by
         rw [hw12]
         exact block_setCell (i := 8) (block_setCell (i := 7) HM10.out (.bool false)) (.bool false)
        have hu12 : Upd (fun k => k = m) w10 w12 := by rw [hw12]; exact (upd_own _ _ _ _).trans (upd_own _ _ _ _)
        rw [← hw12]
        have hlm := HLM.out; have hwl := HWL.out
        have hu9m : Upd (fun k => k = m) w9 w12 := HU10.out.trans hu12
        have hF9m : ¬ F9 m := fun e => by
         rcases HLO9.out m e with q | q
         ·exact HMF.out q
         ·have := HS08.out; omega
        have huc12 : Upd (fun k => F k ∨ k = m ∨ k = x9) wc w12 := (((HUPE.out.mono (fun _ _ e => .inl e)).trans (HU8.out.mono (fun _ _ e => .inr (.inr e)))).trans (HU9.out.mono (fun _ _ e => .inl e))).trans (hu9m.mono (fun _ _ e => .inr (.inl e)))
        have hpin := HPIN.out.kept huc12 (fun k hk e => by
         have h1 := HCB.out k hk; have h2 := HBL.out
         rcases e with e | e | e
         ·have := HFLC.out k e; omega
         ·omega
         ·exact h1.2 e)
        have hcap : ps.length ≤ pc9 ∧ pc9 ≤ maxLen ∧ (pa9 = none → ps.length = 0) := by
         obtain ⟨vs, hp1, _⟩ := HSC.out.prow
         rcases hp1.2 with ⟨e, e2⟩ | ⟨g2, cap, cur, e, _, _, h4, h5, _⟩
         ·exact ⟨by omega, by injection e with _ _ e3; subst e3; unfold maxLen; omega, fun _ => by omega⟩
         ·injection e with e1 _ e3
          subst e3
          exact ⟨h4, h5, fun e9 => by rw [e9] at e1; cases e1⟩
        have hs8c : wc.heap.size ≤ w8.heap.size := Nat.le_trans HUPE.out.size HU8.out.size
        rw [HRR.out]
        refine ⟨rfl, F9, C9, HD9.out.kept hu9m (fun k hk e => hF9m (by have e2 : k = m := e; rw [← e2]; exact hk)), fun k hk => (HLO9.out k hk).imp_right (fun e => Nat.le_trans HS08.out e), fun k hk => .inr (by have h1 := HCB.out k hk; have h2 := HBL.out; omega), fun k hk e => ?_, (HU09.out.mono (fun _ _ e => .inl e)).trans (hu9m.mono (fun _ _ e => .inr e)), ⟨⟨pa9, pc9, aa9, j, ac9, hm12, hpin, hcap.1, hcap.2.1, hcap.2.2⟩, fun k hk => ?_⟩⟩
        ·have h1 := HCB.out k hk; have h2 := HBL.out; have h3 := HPIN.out.1 k hk
         rcases HLO9.out k e with q | q
         ·have := HFLC.out k q; omega
         ·omega
        ·have h1 := HCB.out k hk; have h2 := HBL.out; omega
end
section
open Go.RowKit Go.Shelf
attribute [local go_sem] Oper.semAt_some
theorem ownsRow_heap {w w' : World} {B : Nat} {e : TypeId} {s : Nat} {v : Value} {n : Nat} {xs : List Value} (h : w.ownsRow B e s v n xs) (hk : ∀ g, v.ownBlock = some g → w'.heap[g]? = w.heap[g]?) : w'.ownsRow B e s v n xs := by
 refine ⟨h.1, ?_⟩
 rcases h.2 with h | ⟨g, cap, cur, rfl, h2, h3, h4⟩
 ·exact .inl h
 ·exact .inr ⟨g, cap, cur, rfl, h2, (hk g rfl).trans h3, h4⟩
theorem Log.keep {w w' : World} {q p : Nat} {X : Lg} {G : Nat → Prop} (h : Log w q p X G) (hk : ∀ k, G k → w'.heap[k]? = w.heap[k]?) : Log w' q p X G := by
 obtain ⟨PV, vs, h1, h2⟩ := h
 refine ⟨PV, vs, ⟨(hk q ((h2 q).2 (.inl rfl))).trans h1.main, ownsRow_heap h1.row (fun g hg => hk g ((h2 g).2 (.inr (.inl hg)))), fun i v b hv hb => ownsRow_heap (h1.parts i v b hv hb) (fun g hg => hk g ((h2 g).2 (.inr (.inr ⟨v, List.mem_of_getElem? hv, hg⟩)))), h1.nq, h1.nv⟩, h2⟩
theorem walk_any (n : Nat) (hn : 1 ≤ n) (l : Nat) {q p bp : Nat} {X : Lg} {G : Nat → Prop} (hok : X.Ok) (hne : X.parts ≠ []) (J : List (Nat × Value) → World → Prop) (W : World) (hlog : Log W q p X G) (hbp : W.heap[bp]? = some (.cells #[.pointer (some ⟨q, 0, none⟩)] 38 (0, 0)))
  (hY : ∀ pre x W0 W1 b, J pre W0 → Upd (fun _ => False) W0 W1 → x.1 = pre.length → X.parts[pre.length + 1]? = some b → OwnB W1 W0.heap.size x.2 b → YieldAt Fence.wide (n - 1) Tryz.prog l #[.int .i64 x.1, x.2] W1 fun e W' =>
   e = .returned (.bool true) ∧ J (pre ++ [x]) W' ∧ ∀ k, G k ∨ k = bp → W'.heap[k]? = W1.heap[k]?) (h0 : J [] W) (hJA : ∀ pre W W', J pre W → Upd (fun _ => False) W W' → J pre W') :
  CallsIn Fence.wide n Tryz.prog 165 #[.func (.yield l) #[] #[], .pointer (some ⟨bp, 0, none⟩)] W fun e W' => (∃ v, e = .returned v) ∧ ∃ xs, xs.length + 1 = X.parts.length ∧ J xs W' := by
 have HLG := Lib.hid hlog; have HBP := Lib.hid hbp; have HY := Lib.hid hY; have HOK := Lib.hid hok; have HJA := Lib.hid hJA
 have hc := cells1_of hbp
 have hpl : 1 ≤ X.parts.length := by
  rcases hX : X.parts with _ | ⟨a, b⟩
  ·exact absurd hX hne
  ·simp
 have hpl2 := hok.len
 have H0 := Lib.hid h0
 clear hlog hbp hY hok hne h0 hJA
 refine callsIn_of_wp Tryz.func165 rfl trivial ?_ rfl
 simp only [Tryz.ntmps165, List.size_toArray, List.length_cons, List.length_nil, Nat.reduceAdd, Nat.reduceSub, Array.replicate_succ, Array.replicate_zero, List.push_toArray, List.append_toArray, List.nil_append, List.cons_append]
 gi_wp2_with (refine ⟨trivial, ?_⟩; gi_at_call 55; fail)
 refine ⟨trivial, ?_⟩
 refine (callsIn_wide.2 (loglen_any W HLG.out HOK.out)).mono ?_
 rintro e w1 ⟨rfl, hu1⟩
 have HU1 := Lib.hid hu1
 clear hu1 hc
 simp only []
 gi_upto_region 1 with fail
 obtain ⟨N, hN⟩ : ∃ N : Nat, N + 1 = X.parts.length := ⟨X.parts.length - 1, by omega⟩
 rw [show ((X.parts.length : Int) - 1) = (N : Int) by omega]
 gi_loopg [6] N (fun gi i wr => ∃ (k : Nat) (pre : List (Nat × Value)) (W0 : World), k ≤ N ∧ gi = N - k ∧ i = .int .i64 k ∧ pre.length = k ∧ J pre W0 ∧ Upd (fun _ => False) W0 wr ∧ Log W0 q p X G ∧ W0.heap[bp]? = some (.cells #[.pointer (some ⟨q, 0, none⟩)] 38 (0, 0)))
 case atStart => exact ⟨0, [], W, by omega, rfl, rfl, rfl, H0.out, HU1.out, HLG.out, HBP.out⟩
 case round =>
  obtain ⟨k, pre, W0, hk, rfl, rfl, hpre, hJ, hu, hlg, hbp⟩ := hrel
  obtain ⟨wo, rfl⟩ : ∃ wo, wo = wr := ⟨_, rfl⟩
  by_cases hkN : k < N
  ·have hlgo := hlg.kept hu (fun _ _ e => e)
   have hbpo := (hu.block _ (lt_of_heap hbp) (fun e => e)).trans hbp
   have hcc := cells1_of hbpo
   have hkN2 : (k : Int) < N := by omega
   obtain ⟨PV, vs, h1, h2⟩ := hlgo
   have hvl := h1.vslen
   obtain ⟨b, hb⟩ : ∃ b, X.parts[k + 1]? = some b := ⟨_, List.getElem?_eq_getElem (by omega)⟩
   obtain ⟨v, hv⟩ : ∃ v, vs[k + 1]? = some v := ⟨_, List.getElem?_eq_getElem (by omega)⟩
   have hown := h1.parts _ _ _ hv hb
   have hbl := (HOK.out.bytes b (List.mem_of_getElem? hb)).2
   obtain ⟨g, cap, hPV⟩ : ∃ g cap, PV = .slice (some ⟨g, 0, none⟩) X.parts.length cap := by
    rcases h1.row.2 with ⟨_, h⟩ | ⟨g, cap, cur, h, _⟩
    ·omega
    ·exact ⟨g, cap, h⟩
   subst hPV
   have c5 : wo.cell? ⟨q, 5, none⟩ = some (.slice (some ⟨g, 0, none⟩) X.parts.length cap) := by simp [World.cell?, h1.main, Lg.cells]
   have cv : wo.cell? ⟨g, k + 1, none⟩ = some v := by
    have := h1.row.cells (g := g) rfl (k + 1) v hv
    rwa [Addr.add_mid, Nat.zero_add] at this
   have HOWN := Lib.hid hown; have HB := Lib.hid hb; have HJ := Lib.hid hJ; have HU := Lib.hid hu; have HLG0 := Lib.hid hlg; have HBP0 := Lib.hid hbp; have HPRE := Lib.hid hpre
   have hlN : (k : Int) + 1 < X.parts.length := by omega
   clear h1 h2 hown hb hJ hu hlg hbp hbpo hvl hv hpre HLG HBP HU1 H0
   gi_wp2_with (refine ⟨trivial, ?_⟩; gi_at_call 99; fail)
   refine ⟨trivial, ?_⟩
   refine (callsIn_wide.2 (clone_any wo (by omega) HOWN.out.bytesIn)).mono ?_
   rintro e w3 ⟨u, rfl, hou, _, hu3⟩
   have hu03 : Upd (fun _ => False) W0 w3 := HU.out.trans hu3
   have hJy := HY.out pre (k, u) W0 w3 b HJ.out hu03 HPRE.out.symm (by rw [HPRE.out]; exact HB.out) (hou.mono HU.out.size)
   obtain ⟨fn, tmps, assign, body, hy, hR⟩ := hJy
   dsimp only at hy
   have HRR := Lib.hid hR; have HU03 := Lib.hid hu03
   clear hou hu3 hR hu03 HOWN HB HJ HU HY cv c5 hcc
   simp only []
   iterate 3 gi_step
   refine HRR.out.mono ?_
   rintro e w4 ⟨rfl, hJ4, hk4⟩
   have HJ4 := Lib.hid hJ4
   have HL4 := Lib.hid ((HLG0.out.kept HU03.out (fun _ _ e => e)).keep (fun j hj => hk4 j (.inl hj)))
   have HB4 := Lib.hid ((hk4 bp (.inr rfl)).trans ((HU03.out.block _ (lt_of_heap HBP0.out) (fun e => e)).trans HBP0.out))
   clear hJ4 hk4 hy HRR HU03 HLG0 HBP0
   simp only []
   gi_wp2
   gi_roundg (N - (k + 1))
   case measure => omega
   case rel => exact ⟨k + 1, pre ++ [(k, u)], w4, by omega, rfl, congrArg _ (by omega), by simp [HPRE.out], HJ4.out, Upd.refl _ _, HL4.out, HB4.out⟩
  ·obtain rfl : k = N := by omega
   have hkN2 : ¬ (k : Int) < k := by omega
   have HFIN : RowKit.Hid (∃ xs : List (Nat × Value), xs.length + 1 = X.parts.length ∧ J xs wo) := Lib.hid ⟨pre, by omega, HJA.out _ _ _ hJ hu⟩
   clear hJ hu hlg hbp hpre
   gi_wp2
   refine bodyPost_end (results_none rfl _ _ _) rfl ?_
   exact ⟨⟨_, rfl⟩, HFIN.out⟩
theorem walAll_any (q : Nat) (w : World) : Calls Tryz.prog 120 #[.pointer (some ⟨q, 0, none⟩)] w fun e w' => e = .returned (.func (.func 165) #[] #[.pointer (some ⟨w.heap.size, 0, none⟩)]) ∧ w' = w.alloc (.cells #[.pointer (some ⟨q, 0, none⟩)] 38) := by
 go_enter Tryz.func120, Tryz.ntmps120
 go_wp2
 go_ret
 exact ⟨rfl, rfl⟩
end
section
open Go.RowKit Go.Shelf
attribute [local go_sem] Oper.semAt_some
theorem types_apart {W : World} {B B' n k : Nat} {v u : Value} {xs : List Value} {b : List Int} (h : W.ownsRow B 39 1 v n xs) (h2 : OwnB W B' u b) (hv : v.ownBlock = some k) : u.ownBlock ≠ some k := by
 intro hu
 rcases h.2 with ⟨rfl, _⟩ | ⟨g, cap, cur, rfl, _, hg, _⟩
 ·simp [Value.ownBlock] at hv
 ·rcases h2.2 with ⟨rfl, _⟩ | ⟨g2, cap2, cur2, rfl, _, hg2, _⟩
  ·simp [Value.ownBlock] at hu
  ·simp only [Value.ownBlock, Option.some.injEq] at hv hu
   subst hv
   subst hu
   rw [hg] at hg2
   injection hg2 with hg2
   injection hg2 with _ hg2
   cases hg2
structure TellAt (w : World) (X : Lg) (pre : List (Nat × Value)) (W : World) : Prop where
 upd : Upd (fun _ => False) w W
 size : w.heap.size + 4 ≤ W.heap.size
 c0 : W.heap[w.heap.size]? = some (.cells #[.slice none 0 0] 32 (0, 0))
 c1 : W.heap[w.heap.size + 1]? = some (.cells #[.bool false] 4 (0, 0))
 out : ∃ v, W.heap[w.heap.size + 1 + 1]? = some (.cells #[v] 32 (0, 0)) ∧ W.ownsRow (w.heap.size + 4) 39 1 v pre.length (pre.map (·.2))
 each : ∀ i x b, pre[i]? = some x → X.parts[i + 1]? = some b → OwnB W (w.heap.size + 4) x.2 b
theorem TellAt.kept {w W W' : World} {X : Lg} {pre : List (Nat × Value)} (h : TellAt w X pre W) (hk : ∀ (k : Nat) (o : Obj), W.heap[k]? = some o → o.isCells = true → W'.heap[k]? = some o) (hs : W.heap.size ≤ W'.heap.size) (hu : Upd (fun _ => False) w W') : TellAt w X pre W' := by
 have hrow : ∀ {B e s v n xs}, W.ownsRow B e s v n xs → W'.ownsRow B e s v n xs := fun {B e s v n xs} h => by
  refine ⟨h.1, ?_⟩
  rcases h.2 with h | ⟨g, cap, cur, rfl, h2, h3, h4⟩
  ·exact .inl h
  ·exact .inr ⟨g, cap, cur, rfl, h2, hk g _ h3 rfl, h4⟩
 obtain ⟨v, h1, h2⟩ := h.out
 exact ⟨hu, Nat.le_trans h.size hs, hk _ _ h.c0 rfl, hk _ _ h.c1 rfl, ⟨v, hk _ _ h1 rfl, hrow h2⟩, fun i x b hx hb => hrow (h.each i x b hx hb)⟩
theorem TellAt.upd0 {w W W' : World} {X : Lg} {pre : List (Nat × Value)} (h : TellAt w X pre W) (hu : Upd (fun _ => False) W W') : TellAt w X pre W' :=
 h.kept (fun k _o ho _ => (hu.block k (lt_of_heap ho) (fun e => e)).trans ho) hu.size (h.upd.trans hu)
theorem upd_put {W : World} {l : Nat} (o : Obj) : Upd (fun k => k = l) W (W.putObj l o) := Upd.of_grown (grownBy_putObj' W l o) (fun k hk => by injection hk with hk; exact hk.symm)
theorem TellAt.put {w W : World} {X : Lg} {pre : List (Nat × Value)} {l : Nat} {o : Obj} (o' : Obj) (h : TellAt w X pre W) (hl : w.heap.size ≤ l) (ho : W.heap[l]? = some o) (hc : o.isCells = false) : TellAt w X pre (W.putObj l o') :=
 h.kept (fun k p hp hpc => by
  by_cases e : k = l
  ·subst e; rw [ho] at hp; injection hp with hp; subst hp; rw [hc] at hpc; cases hpc
  ·exact (World.putObj_heap_other e).trans hp) (upd_put o').size (h.upd.step (upd_put o') (fun k hk e => by omega))
theorem TellAt.more {w W W' : World} {X : Lg} {pre : List (Nat × Value)} {x : Nat × Value} {v v' : Value} (h : TellAt w X pre W) (hbox : W.heap[w.heap.size + 1 + 1]? = some (.cells #[v] 32 (0, 0))) (hrow : W.ownsRow (w.heap.size + 4) 39 1 v pre.length (pre.map (·.2)))
  (hx : ∀ b, X.parts[pre.length + 1]? = some b → OwnB W (w.heap.size + 4) x.2 b) (hg : W.grownBy W' v.ownBlock) (hrow' : W'.ownsRow (w.heap.size + 4) 39 1 v' (pre.length + 1) (pre.map (·.2) ++ [x.2])) :
  TellAt w X (pre ++ [x]) (W'.setCell ⟨w.heap.size + 1 + 1, 0, none⟩ v') := by
 have hvb : ∀ k, v.ownBlock = some k → w.heap.size + 4 ≤ k := fun k hk => (World.ownsRow.lt hrow k hk).1
 have hvb' : ∀ k, v'.ownBlock = some k → w.heap.size + 4 ≤ k := fun k hk => (World.ownsRow.lt hrow' k hk).1
 have hkeep : ∀ k, k < W.heap.size → v.ownBlock ≠ some k → W'.heap[k]? = W.heap[k]? := fun k hk hn => hg.block k hk (fun e => hn e.symm)
 have hu1 : Upd (fun k => v.ownBlock = some k) W W' := Upd.of_grown hg (fun k hk => hk)
 have hu2 : Upd (fun k => k = w.heap.size + 1 + 1) W' (W'.setCell ⟨w.heap.size + 1 + 1, 0, none⟩ v') := upd_own W' (w.heap.size + 1 + 1) 0 v'
 have hs := h.size
 have hn : ∀ k, k < w.heap.size + 4 → v.ownBlock ≠ some k := fun k hk e => by have := hvb k e; omega
 have c0 := (hkeep _ (by omega) (hn _ (by omega))).trans h.c0
 have c1 := (hkeep _ (by omega) (hn _ (by omega))).trans h.c1
 have cb := (hkeep _ (by omega) (hn _ (by omega))).trans hbox
 refine ⟨(h.upd.step hu1 (fun k hk e => by have := hvb k e; omega)).step hu2 (fun k hk e => by omega), by have := hu2.size; have := hu1.size; omega,
  (hu2.block _ (lt_of_heap c0) (by omega)).trans c0, (hu2.block _ (lt_of_heap c1) (by omega)).trans c1, ⟨v', ?_, ?_⟩, ?_⟩
 ·have := blk_set (i := 0) (v := v') cb
  simpa using this
 ·rw [List.length_append, List.map_append]
  exact ownsRow_heap hrow' (fun k hk => hu2.block k (World.ownsRow.lt hrow' k hk).2 (fun e => by have := hvb' k hk; omega))
 ·intro i y b hy hb
  have hold : OwnB W (w.heap.size + 4) y.2 b := by
   by_cases hi : i < pre.length
   ·rw [List.getElem?_append_left hi] at hy
    exact h.each i y b hy hb
   ·rw [List.getElem?_append_right (by omega)] at hy
    have hi2 : i - pre.length = 0 := by
     have := (List.getElem?_eq_some_iff.1 hy).1
     simp at this
     omega
    rw [hi2] at hy
    simp at hy
    subst hy
    rw [show i = pre.length by omega] at hb
    exact hx b hb
  refine ownsRow_heap hold (fun k hk => ?_)
  have hkl := World.ownsRow.lt hold k hk
  rw [hu2.block k (Nat.lt_of_lt_of_le hkl.2 hu1.size) (fun e => by omega)]
  exact hkeep k hkl.2 (fun e => types_apart hrow hold e hk)
theorem all_any {q p : Nat} {X : Lg} {G : Nat → Prop} (w : World) (hlog : Log w q p X G) (hok : X.Ok) (hne : X.parts ≠ []) :
  Calls Tryz.prog 69 #[.pointer (some ⟨q, 0, none⟩)] w fun e w' => ∃ v vs, e = .returned (.tuple #[v, .bool true]) ∧ w'.ownsRow w.heap.size 39 1 v (X.parts.length - 1) vs ∧ (∀ i u b, vs[i]? = some u → X.parts[i + 1]? = some b → OwnB w' w.heap.size u b) ∧ Upd (fun _ => False) w w' := by
 have HLG := Lib.hid hlog; have HOK := Lib.hid hok; have HNE := Lib.hid hne
 have HGL := Lib.hid hlog.lt
 have hpl := hok.len
 clear hlog hok hne
 refine (callsIn_wide (n := 3)).1 ?_
 refine callsIn_of_wp_marks Tryz.func69 rfl trivial ?_ rfl
 simp only [Tryz.ntmps69, List.size_toArray, List.length_cons, List.length_nil, Nat.reduceAdd, Nat.reduceSub, Array.replicate_succ, Array.replicate_zero, List.push_toArray, List.append_toArray, List.nil_append, List.cons_append]
 gi_wp2_with (refine ⟨trivial, ?_⟩; gi_at_call 120; refine (callsIn_wide.2 (walAll_any q _)).mono ?_; rintro e w' ⟨rfl, h⟩)
 obtain ⟨w1, hw1⟩ : ∃ w1, w1 = (((w.alloc (.cells #[.slice none 0 0] 32)).alloc (.cells #[.bool false] 4)).alloc (.cells #[.slice none 0 0] 32)).alloc (.cells #[.pointer (some ⟨q, 0, none⟩)] 38) := ⟨_, rfl⟩
 rw [← hw1]
 have hsz : w1.heap.size = w.heap.size + 4 := by rw [hw1]; simp
 have hu1 : Upd (fun _ => False) w w1 := by rw [hw1]; exact ((((Upd.refl _ w).alloc _).alloc _).alloc _).alloc _
 have hat : TellAt w X [] w1 := by
  refine ⟨hu1, by omega, ?_, ?_, ⟨.slice none 0 0, ?_, World.ownsRow_nil _ _ _ _⟩, fun i x b hx => by simp at hx⟩
  ·rw [hw1]; exact (alloc_lt (by simp <;> omega)).trans ((alloc_lt (by simp <;> omega)).trans ((alloc_lt (by simp <;> omega)).trans (alloc_at rfl)))
  ·rw [hw1]; exact (alloc_lt (by simp <;> omega)).trans ((alloc_lt (by simp <;> omega)).trans (alloc_at (by simp <;> omega)))
  ·rw [hw1]; exact (alloc_lt (by simp <;> omega)).trans (alloc_at (by simp <;> omega))
 have hbox : w1.heap[w.heap.size + 1 + 1 + 1]? = some (.cells #[.pointer (some ⟨q, 0, none⟩)] 38 (0, 0)) := by rw [hw1]; exact alloc_at (by simp <;> omega)
 have HU1 := Lib.hid hu1; have HAT := Lib.hid hat; have HBX := Lib.hid hbox; have HSZ := Lib.hid hsz
 clear h hw1 hat hu1 hbox hsz
 refine wpIn_rangeFunc_told (α := Nat × Value) (encs := fun x => #[.int .i64 x.1, x.2]) rfl (by omega) (gf := 165) (lb := #[.pointer (some ⟨w.heap.size + 1 + 1 + 1, 0, none⟩)]) rfl trivial (enters_of Tryz.func165 (by kernel_rfl) rfl) (fun _ => rfl)
  (fun pre x W0 W1 => x.1 = pre.length ∧ ∃ b, X.parts[pre.length + 1]? = some b ∧ OwnB W1 W0.heap.size x.2 b) (fun xs => xs.length + 1 = X.parts.length) (TellAt w X) (fun k => G k ∨ k = w.heap.size + 1 + 1 + 1) ?hKp (fun _ _ _ h hu => h.upd0 hu) (fun pre W l o o' h hl ho hc => h.put o' (by have := HSZ.out; omega) ho hc) HAT.out ?hseq
  (fun x => { tmps := #[.pointer (some ⟨q, 0, none⟩), undef, .pointer (some ⟨w.heap.size, 0, none⟩), .pointer (some ⟨w.heap.size + 1, 0, none⟩), .pointer (some ⟨w.heap.size + 1 + 1, 0, none⟩), .int .i64 x.1, x.2, .pointer (some ⟨q, 0, none⟩), .func (.func 165) #[] #[.pointer (some ⟨w.heap.size + 1 + 1 + 1, 0, none⟩)], .int .i64 x.1, x.2, undef, undef, undef, undef, undef, undef, undef, undef, undef], defers := [] }) ?hassign ?hbody ?hdone
 case hKp =>
  rintro k (hk | hk)
  ·have := HGL.out k hk; have := HSZ.out; omega
  ·have := HSZ.out; omega
 case hseq =>
  intro l J W h0 hW hJA hY
  have hb : ∀ k o, k < w1.heap.size → w1.heap[k]? = some o → W.heap[k]? = some o := fun k o hk ho => (hW k hk).trans ho
  refine walk_any 2 (by omega) l HOK.out HNE.out J W ((HLG.out.kept HU1.out (fun _ _ e => e)).keep (fun k hk => hW k (by have := HGL.out k hk; have := HSZ.out; omega))) ((hW _ (by have := HSZ.out; omega)).trans HBX.out) (fun pre x W0 W1 b hj hu hx hb ho => hY pre x W0 W1 hj hu ⟨hx, b, hb, ho⟩) h0 hJA
 case hassign =>
  intro l x W K hK
  have HKK := Lib.hid hK
  clear hK
  gi_wp2
  exact HKK.out
 case hbody =>
  rintro l pre x W0 W1 W r r' hl hi0 hu ⟨hx1, b, hb, hown⟩ hl1 rfl
  obtain ⟨W, hW⟩ : ∃ W, W = W1.putObj l (.loop r') := ⟨_, rfl⟩
  rw [← hW]
  have hat : TellAt w X pre W := by rw [hW]; exact (hi0.upd0 hu).put _ (by have := HSZ.out; omega) hl1 rfl
  have hownW : OwnB W (w.heap.size + 4) x.2 b := by
   have h4 := hown.mono (B' := w.heap.size + 4) hi0.size
   rw [hW]
   refine ownsRow_heap h4 (fun k hk => ?_)
   refine World.putObj_heap_other (fun e => ?_)
   subst e
   rcases h4.2 with ⟨h, _⟩ | ⟨g, cap, cur, h, _, hg, _⟩
   ·rw [h] at hk; simp [Value.ownBlock] at hk
   ·rw [h] at hk
    simp only [Value.ownBlock, Option.some.injEq] at hk
    subst hk
    rw [hl1] at hg
    injection hg with hg
    cases hg
  obtain ⟨xk, u⟩ := x
  simp only at hx1 hownW
  subst hx1
  obtain ⟨v, hbx, hrow⟩ := hat.out
  have hplb : pre.length + 1 < X.parts.length := (List.getElem?_eq_some_iff.1 hb).1
  obtain ⟨sa, sc, hv⟩ := rowV hrow
  obtain ⟨ua, uc, hu'⟩ := hownW.slice'
  have c4 := cells1_of hbx
  have f4 : W.frozen? ⟨w.heap.size + 1 + 1, 0, none⟩ = false := frozen_of_heap hbx
  have hvb : ∀ k, v.ownBlock = some k → w.heap.size + 4 ≤ k := fun k hk => (World.ownsRow.lt hrow k hk).1
  have hua : Upd (fun _ => False) W (W.alloc (.cells #[u] 39)) := (Upd.refl _ W).alloc _
  have hatA := hat.upd0 hua
  have hbxA := (hua.block _ (lt_of_heap hbx) (fun e => e)).trans hbx
  have hownA : OwnB (W.alloc (.cells #[u] 39)) (w.heap.size + 4) u b := hownW.keptF hua (fun _ _ e => e)
  have hnotc : ∀ k o, W.heap[k]? = some o → o.isCells = false → v.ownBlock ≠ some k := by
   intro k o ho hc e
   rcases hrow.2 with ⟨h, _⟩ | ⟨g, cap, cur, h, _, hg, _⟩
   ·rw [h] at e; simp [Value.ownBlock] at e
   ·rw [h] at e
    simp only [Value.ownBlock, Option.some.injEq] at e
    subst e
    rw [ho] at hg
    injection hg with hg
    subst hg
    cases hc
  subst hv
  subst hu'
  have HAT2 := Lib.hid hat; have HROW := Lib.hid hrow; have HATA := Lib.hid hatA; have HBXA := Lib.hid hbxA; have HOWNA := Lib.hid hownA; have HVB := Lib.hid hvb; have HB := Lib.hid hb; have HNC := Lib.hid hnotc; have HUA := Lib.hid hua
  clear hat hown hrow hatA hbxA hownA hvb hb hi0 hu hl1 hW hownW hnotc hua hbx
  gi_upto_region 7 with fail
  iterate 10 gi_step
  obtain ⟨i0, hi0, hz0, hz1, hz2⟩ := info_parts Tryz.info28p
  refine wpListIn_append_own _ rfl (.tmp 15) (.tmp 17) 32 rfl (w.heap.size + 4) 39 i0 (.slice none 0 0) 1 24 Tryz.underlying32 hi0 hz0 hz1 hz2 rfl (by omega) _ _ _ rfl (HROW.out.alloc _) ⟨W.heap.size, 0, none⟩ 1 1 [.slice ua b.length uc] rfl rfl (cell_one_new _ _ _) (by simp [Value.oneCell']) (by unfold maxLen; omega) (by omega) (by have := HAT2.out.size; simp; omega) ?_
  intro v' w4 hown4 hgrow _
  obtain ⟨g4, cap4, rfl⟩ := ownsRow_succ hown4
  have hmore := HATA.out.more (x := (pre.length, .slice ua b.length uc)) HBXA.out (HROW.out.alloc _) (fun c hc => by have := HB.out; rw [this] at hc; injection hc with hc; rw [← hc]; exact HOWNA.out) hgrow hown4
  have hbx4 : w4.heap[w.heap.size + 1 + 1]? = some (.cells #[.slice sa pre.length sc] 32 (0, 0)) := (hgrow.block _ (lt_of_heap HBXA.out) (fun e => by have := HVB.out _ e.symm; omega)).trans HBXA.out
  have f4' : w4.frozen? ⟨w.heap.size + 1 + 1, 0, none⟩ = false := frozen_of_heap hbx4
  have c4' := cells1_of hbx4
  have hsA : W.heap.size < (W.alloc (.cells #[.slice ua b.length uc] 39)).heap.size := by simp
  have hblk : ∀ k, k < W.heap.size → (Value.slice sa pre.length sc).ownBlock ≠ some k → k ≠ w.heap.size + 1 + 1 → (w4.setCell ⟨w.heap.size + 1 + 1, 0, none⟩ (.slice (some ⟨g4, 0, none⟩) (pre.length + 1) cap4)).heap[k]? = W.heap[k]? := fun k hk h1 h2 => by
   rw [set_ne (by exact h2), hgrow.block k (by omega) (fun e => h1 e.symm)]
   exact HUA.out.block k hk (fun e => e)
  have HMORE := Lib.hid hmore; have HBLK := Lib.hid hblk
  have HSZ4 : RowKit.Hid (W.heap.size ≤ (w4.setCell ⟨w.heap.size + 1 + 1, 0, none⟩ (.slice (some ⟨g4, 0, none⟩) (pre.length + 1) cap4)).heap.size) := Lib.hid (by
   have h1 := hgrow.size
   have h2 := (upd_own w4 (w.heap.size + 1 + 1) 0 (.slice (some ⟨g4, 0, none⟩) (pre.length + 1) cap4)).size
   omega)
  clear hmore hblk hgrow hown4 hi0 hz0 hz1 hz2 c4 f4 hsA hbx4
  gi_wp2
  refine ⟨HMORE.out, ⟨HSZ4.out, fun k o hk ho hc => ?_⟩, fun k hk => ?_⟩
  ·rw [HBLK.out k (lt_of_heap ho) (HNC.out k o ho hc) (by have := HSZ.out; omega)]
   exact ho
  ·have h1 := HAT2.out.size
   refine HBLK.out k ?_ (fun e => ?_) ?_
   ·rcases hk with hk | hk
    ·have := HGL.out k hk; omega
    ·omega
   ·have := HVB.out k e
    rcases hk with hk | hk
    ·have := HGL.out k hk; omega
    ·omega
   ·rcases hk with hk | hk
    ·have := HGL.out k hk; omega
    ·omega
 case hdone =>
  rintro xs W hS hs hK
  obtain ⟨v, hbx, hrow⟩ := hs.out
  obtain ⟨sa, sc, rfl⟩ := rowV hrow
  have c20 := cells1_of hbx
  have c18 := cells1_of hs.c0
  have c19 := cells1_of hs.c1
  have f18 : W.frozen? ⟨w.heap.size, 0, none⟩ = false := frozen_of_heap hs.c0
  have f19 : W.frozen? ⟨w.heap.size + 1, 0, none⟩ = false := frozen_of_heap hs.c1
  have HS := Lib.hid hs; have HK := Lib.hid hK; have HROW := Lib.hid hrow; have HBX2 := Lib.hid hbx; have HXS := Lib.hid hS
  clear hs hK hrow hbx hS
  gi_wp2
  obtain ⟨W2, hW2⟩ : ∃ W2, W2 = (W.setCell ⟨w.heap.size, 0, none⟩ (.slice sa xs.length sc)).setCell ⟨w.heap.size + 1, 0, none⟩ (.bool true) := ⟨_, rfl⟩
  rw [← hW2]
  have hz := HS.out.size; have hz1 := HSZ.out
  have hk2 : W2.heap[w1.heap.size]? = some (.deferred (some [])) := by
   rw [hW2, set_ne (by show w1.heap.size ≠ w.heap.size + 1; omega), set_ne (by show w1.heap.size ≠ w.heap.size; omega)]; exact HK.out
  have h0 : W2.heap[w.heap.size]? = some (.cells #[.slice sa xs.length sc] 32 (0, 0)) := by
   rw [hW2, set_ne (by show w.heap.size ≠ w.heap.size + 1; omega)]
   have := blk_set (i := 0) (v := .slice sa xs.length sc) HS.out.c0
   simpa using this
  have h1 : W2.heap[w.heap.size + 1]? = some (.cells #[.bool true] 4 (0, 0)) := by
   have h1' : (W.setCell ⟨w.heap.size, 0, none⟩ (.slice sa xs.length sc)).heap[w.heap.size + 1]? = some (.cells #[.bool false] 4 (0, 0)) := by
    rw [set_ne (by show w.heap.size + 1 ≠ w.heap.size; omega)]; exact HS.out.c1
   have := blk_set (i := 0) (v := .bool true) h1'
   rw [hW2]
   simpa using this
  have hu2 : Upd (fun k => k = w.heap.size ∨ k = w.heap.size + 1) W W2 := by
   rw [hW2]
   exact ((upd_own W w.heap.size 0 _).mono (fun k _ e => .inl e)).trans ((upd_own _ (w.heap.size + 1) 0 _).mono (fun k _ e => .inr e))
  refine ⟨by simp, .inl ⟨_, _, rfl, run_takeDeferred hk2, ?_⟩⟩
  have hg3 := grownBy_putObj' W2 w1.heap.size (.deferred none)
  have h0' := (hg3.block _ (lt_of_heap h0) (fun e => by have := Option.some.inj e; omega)).trans h0
  have h1' := (hg3.block _ (lt_of_heap h1) (fun e => by have := Option.some.inj e; omega)).trans h1
  have hu3 : Upd (fun k => k = w.heap.size ∨ k = w.heap.size + 1 ∨ k = w1.heap.size) W (W2.putObj w1.heap.size (.deferred none)) := (hu2.mono (fun k _ e => e.elim .inl (fun e => .inr (.inl e)))).trans ((upd_put (.deferred none)).mono (fun k _ e => .inr (.inr e)))
  have hkeepR : ∀ {B e s v n xs}, w.heap.size + 4 ≤ B → W.ownsRow B e s v n xs → (W2.putObj w1.heap.size (.deferred none)).ownsRow w.heap.size e s v n xs := fun {B e s v n xs} hB h => by
   have hne1 : v.ownBlock ≠ some w1.heap.size := fun e2 => by
    rcases h.2 with ⟨h, _⟩ | ⟨g, cap, cur, h, _, hg, _⟩
    ·rw [h] at e2; simp [Value.ownBlock] at e2
    ·rw [h] at e2
     simp only [Value.ownBlock, Option.some.injEq] at e2
     subst e2
     rw [HK.out] at hg
     injection hg with hg
     cases hg
   have h5 : W.ownsRow w.heap.size e s v n xs := by
    refine ⟨h.1, ?_⟩
    rcases h.2 with h | ⟨g, cap, cur, rfl, h2, h3⟩
    ·exact .inl h
    ·exact .inr ⟨g, cap, cur, rfl, by omega, h3⟩
   refine ownsRow_heap h5 (fun k hk => hu3.block k (World.ownsRow.lt h k hk).2 (fun e3 => ?_))
   have := (World.ownsRow.lt h k hk).1
   rcases e3 with e3 | e3 | e3
   ·omega
   ·omega
   ·subst e3; exact hne1 hk
  refine ⟨_, results_cell2 (fn := Tryz.f69) rfl rfl rfl (run_load22 h0') (run_load4 h1'), _, xs.map (·.2), rfl, ?_, ?_, ?_⟩
  ·have := hkeepR (Nat.le_refl _) HROW.out
   rw [show X.parts.length - 1 = xs.length by have := HXS.out; omega]
   exact this
  ·intro i u b hu hb
   rw [List.getElem?_map] at hu
   obtain ⟨x, hx, rfl⟩ := Option.map_eq_some_iff.1 hu
   exact hkeepR (Nat.le_refl _) (HS.out.each i x b hx hb)
  ·exact HS.out.upd.step hu3 (fun k hk e => by omega)
end
section
open Go.RowKit Go.Shelf
def RowsIn (w : World) (v : Value) (txs : List (List Int)) : Prop := ∃ vs, w.ownsRow 0 39 1 v txs.length vs ∧ ∀ (i : Nat) u b, vs[i]? = some u → txs[i]? = some b → BytesIn w u b
end
section
open Go.RowKit
end
end Go.Proofs.YtbimkhdiplnbfaaGreat
