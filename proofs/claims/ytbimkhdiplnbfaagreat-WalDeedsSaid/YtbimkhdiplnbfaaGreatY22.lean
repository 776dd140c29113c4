/- What whole and found find on a disk that may fail, as values. -/
import Derived.Test.YtbimkhdiplnbfaaGreatY17
import Derived.Test.YtbimkhdiplnbfaaGreatY19
set_option linter.unusedVariables false
set_option linter.unusedSimpArgs false
namespace Go.Proofs.YtbimkhdiplnbfaaGreat
set_option maxRecDepth 1000000
set_option maxHeartbeats 16000000
section
open Go.RowKit
open Classical in
noncomputable def goD (h : Hd) (number place turn : Int) (snap : Bool) : Nat → Nat → List Int → Dk → Option (List Int) × Int × Dk
 | 0, _, b, D => (some b, 0, D)
 |m + 1, k, b, D =>
  if D.callE (atF h.area (place + k)) false = 0 then
   if cutF turn number snap (overF b (48 * k - 4) ((D.reads (atF h.area (place + k))).drop 16)) k = D.reads (atF h.area (place + k)) then
    goD h number place turn snap m (k + 1) (overF b (48 * k - 4) ((D.reads (atF h.area (place + k))).drop 16)) (D.callD (atF h.area (place + k)) false)
   else (none, 0, D.callD (atF h.area (place + k)) false)
  else (none, D.callE (atF h.area (place + k)) false, D.callD (atF h.area (place + k)) false)
open Classical in
noncomputable def wholeD (h : Hd) (number place : Int) (snap : Bool) (left : Int) (D : Dk) : Option (List Int) × Int × Dk :=
 if left = 0 then (none, 0, D) else
 if D.callE (atF h.area place) false = 0 then
  if Starts h left (D.reads (atF h.area place)) then
   if cutF (startT (D.reads (atF h.area place))) number snap (startB (D.reads (atF h.area place))) 0 = D.reads (atF h.area place) then
    goD h number place (startT (D.reads (atF h.area place))) snap (secsN (startN (D.reads (atF h.area place))).toNat - 1) 1 (startB (D.reads (atF h.area place))) (D.callD (atF h.area place) false)
   else (none, 0, D.callD (atF h.area place) false)
  else (none, 0, D.callD (atF h.area place) false)
 else (none, D.callE (atF h.area place) false, D.callD (atF h.area place) false)
noncomputable def foundD (h : Hd) : Nat → List (List Int) → Int → Dk → List (List Int) × Int × Dk
 | 0, ps, _, D => (ps, 0, D)
 |f + 1, ps, u, D =>
  match wholeD h (h.number + ps.length) (h.place + u) (decide (ps = [])) (h.area - u) D with
  | (some b, _, D') => foundD h f (ps ++ [b]) (u + secsN b.length) D'
  | (none, E, D') => (ps, E, D')
theorem Dk.Good.callR {D : Dk} {N : Nat} (h : D.Good N) {i : Int} (hi : 0 ≤ i ∧ i < N) : D.callE i false = 0 ∧ (D.callD i false).Good N ∧ D.reads i = D.S i ∧ (D.callD i false).S = D.S := by
 obtain ⟨h1, h2, h3, h4⟩ := h
 have n1 : ¬ (i < 0 ∨ (D.arr.length : Int) ≤ i) := by omega
 have e : D.callD i false = { D with fail := max (D.fail - 1) (-1), ops := D.ops + 1 } := by
  simp [Dk.callD, h1, h3, n1]
 have hr : D.callR i false = true := by simp [Dk.callR, h1, h3]; omega
 refine ⟨by simp [Dk.callE, h1, h3, n1], ?_, by unfold Dk.reads Dk.S; rw [if_pos hr], ?_⟩
 ·rw [e]
  exact ⟨h1, h2, by show max (D.fail - 1) (-1) = -1; omega, h4⟩
 ·rw [e]; rfl
section
variable {F : Fence} {n : Nat} {P : Program}
theorem wpIn_rangeFunc_told {α : Type} {g : Operand} {ps : Array Tmp} {assign body : Code} {Q : Exit → Act → World → Prop} {a : Act} {w : World}
  (hro : F.round = none) (h1 : 1 ≤ n) {gf : Nat} {lb : Array Value} (hg : a.eval g = .func (.func gf) #[] lb) (hFg : F.fn gf) (eg : ∀ args w, (callFunc gf args).run P w = .ok (.enter gf args) w)
  {encs : α → Array Value} (hps : ∀ x, (encs x).size = ps.size) (T : List α → α → World → World → Prop) (S : List α → Prop) (I : List α → World → Prop) (Kp : Nat → Prop) (hKp : ∀ k, Kp k → k < w.heap.size)
  (hIU : ∀ pre W W', I pre W → Upd (fun _ => False) W W' → I pre W') (hIP : ∀ pre W l o o', I pre W → w.heap.size ≤ l → W.heap[l]? = some o → o.isCells = false → I pre (W.putObj l o')) (h0 : I [] w)
  (hseq : ∀ (l : Nat) (J : List α → World → Prop) (W : World), J [] W → (∀ k, k < w.heap.size → W.heap[k]? = w.heap[k]?) → (∀ pre W W', J pre W → Upd (fun _ => False) W W' → J pre W') →
   (∀ pre x W0 W1, J pre W0 → Upd (fun _ => False) W0 W1 → T pre x W0 W1 → YieldAt F (n - 1 - 1) P l (encs x) W1 fun e W' => e = .returned (.bool true) ∧ J (pre ++ [x]) W' ∧ ∀ k, Kp k → W'.heap[k]? = W1.heap[k]?) →
   CallsIn F (n - 1) P gf (#[.func (.yield l) #[] #[]] ++ lb) W fun e W' => (∃ v, e = .returned v) ∧ ∃ xs, S xs ∧ J xs W')
  (a₁ : α → Act) (hassign : ∀ (l : Nat) (x : α) (W : World) (K : Act → World → Prop), K (a₁ x) W →
   assign.wpIn (F.inRound l) (n - 1 - 1) P (Exit.then K (fun _ _ _ => False)) { tmps := (ps.zip (encs x)).foldl (fun t (p, v) => t.setIfInBounds p v) a.tmps, defers := [] } W)
  (hbody : ∀ (l : Nat) (pre : List α) (x : α) (W0 W1 W : World) (r r' : Loop), w.heap.size ≤ l → I pre W0 → Upd (fun _ => False) W0 W1 → T pre x W0 W1 → W1.heap[l]? = some (.loop r) → W = W1.putObj l (.loop r') →
   body.wpIn (F.inRound l) (n - 1 - 1) P (fun e _ W3 => e = .normal ∧ I (pre ++ [x]) W3 ∧ KeepsFrom w.heap.size W W3 ∧ ∀ k, Kp k → W3.heap[k]? = W.heap[k]?) (a₁ x) W)
  (hdone : ∀ (xs : List α) (W : World), S xs → I xs W → W.heap[w.heap.size]? = some (.deferred (some [])) → Q .normal { a with defers := { target := .collected w.heap.size, args := #[] } :: a.defers } W) :
  (Code.rangeFunc g ps assign body).wpIn F n P Q a w := by
 refine wpIn_rangeFunc ?_
 intro fn hfn
 rw [hro]
 obtain ⟨m, hm⟩ : ∃ m, m = w.heap.size := ⟨_, rfl⟩
 obtain ⟨W1, hW1⟩ : ∃ W1, W1 = (w.alloc (.deferred (some []))).alloc (.loop { state := .ready, pending := none, fn, tmps := a.tmps, params := ps, assign, body, defers := w.heap.size }) := ⟨_, rfl⟩
 have hU1 : Upd (fun _ => False) w W1 := by rw [hW1]; exact ((Upd.refl _ w).alloc _).alloc _
 have hD1 : W1.heap[m]? = some (.deferred (some [])) := by rw [hW1, hm]; exact (alloc_lt (by simp)).trans (alloc_at rfl)
 obtain ⟨rec, hrec⟩ : ∃ rec : LoopState → Option Code → Loop, rec = fun st pe => { state := st, pending := pe, fn, tmps := a.tmps, params := ps, assign, body, defers := w.heap.size } := ⟨_, rfl⟩
 have hR1 : W1.heap[m + 1]? = some (.loop (rec .ready none)) := by rw [hW1, hm, hrec]; exact alloc_at (by simp)
 refine ⟨m + 1, [{ target := .collected m, args := #[] }], W1, { target := .fn (.func gf) lb, args := #[.func (.yield (m + 1)) #[] #[]] }, W1, gf, #[.func (.yield (m + 1)) #[] #[]] ++ lb, W1, ?_, ?_, ?_, ?_, fun _ => h1, ?_⟩
 ·rw [hW1, hm]; exact run_enterLoop_outer _ _ _ _ _
 ·simp only [resolve, hg]
  simp [go_sem]
 ·intro f' hf'; simp [Target.leads] at hf'; subst hf'; exact hFg
 ·simp [invoke, go_sem, eg]
 ·have hread : ∀ {W W' : World} {k : Nat} {o : Obj}, Upd (fun _ => False) W W' → W.heap[k]? = some o → W'.heap[k]? = some o := fun hu h => (hu.block _ (lt_of_heap h) (fun e => e)).trans h
  refine (hseq (m + 1) (fun pre W => I pre W ∧ W.heap[m + 1]? = some (.loop (rec .ready none)) ∧ W.heap[m]? = some (.deferred (some []))) W1 ⟨hIU _ _ _ h0 hU1, hR1, hD1⟩ (fun k hk => hU1.block k hk (fun e => e)) (fun pre W W' hJ hu => ⟨hIU _ _ _ hJ.1 hu, hread hu hJ.2.1, hread hu hJ.2.2⟩) ?_).mono ?_
  ·rintro pre x W0 Wy ⟨hi, hl, hd⟩ hu hT
   have hl1 := hread hu hl
   have hd1 := hread hu hd
   have hy := run_yield (P := P) (args := encs x) hl1 (by rw [hrec]; exact hps x)
   rw [hrec] at hy
   refine ⟨fn, _, assign, body, hy, roundIn_of_wpIn hfn (hassign _ x Wy _ ?_)⟩
   refine ⟨_, run_beginRound hl1 (by rw [hrec]), ?_⟩
   refine wpIn_mono (hbody (m + 1) pre x W0 Wy _ _ _ (by omega) hi hu hT hl1 rfl) ?_
   rintro e a3 W3 ⟨rfl, hi3, hk3, hkp3⟩
   have hl2 : (Wy.putObj (m + 1) (.loop { rec .ready none with state := .busy })).heap[m + 1]? = some (.loop { rec .ready none with state := .busy }) := World.putObj_heap_same (lt_of_heap hl1)
   have hl3 := hk3.same _ _ (by omega) hl2 rfl
   have hd3 := hk3.same m (.deferred (some [])) (by omega) ((World.putObj_heap_other (by omega)).trans hd1) rfl
   have hend := run_endRound (P := P) none hl3
   rw [hrec] at hend
   refine ⟨_, _, hend, rfl, ⟨hIP _ _ _ _ _ hi3 (by omega) hl3 rfl, ?_, (World.putObj_heap_other (by omega)).trans hd3⟩, fun k hk => ?_⟩
   ·rw [hrec]; exact World.putObj_heap_same (lt_of_heap hl3)
   ·have := hKp k hk
    rw [World.putObj_heap_other (by omega), hkp3 k hk, World.putObj_heap_other (by omega)]
  ·rintro e W2 ⟨⟨v, rfl⟩, xs, hS, hi, hl, hd⟩
   have hend := run_endLoop (P := P) hl (by rw [hrec]; simp)
   rw [hrec] at hend
   refine ⟨none, _, hend, ?_⟩
   have := hdone xs _ hS (hIP _ _ _ _ (.loop { rec .ready none with state := .exhausted }) hi (by omega) hl rfl) (by rw [← hm]; exact (World.putObj_heap_other (by omega)).trans hd)
   rw [hm]
   rw [hrec, hm] at this
   exact this
end
end
end Go.Proofs.YtbimkhdiplnbfaaGreat
