/- A rule for a range over a function whose iterator and whose body both write memory: what each may write is told apart by the blocks' types. -/
import Derived.Test.YtbonfdkgkcbkmaaGreatW1
import Derived.RangeFuncNested
import Derived.RangeFuncBound
import Derived.RangeFuncCalls
import Derived.RangeFuncLeaves
import Derived.Shelf.Abstract
import Derived.Shelf.RegionOpen
import Derived.OwnWalkIn
import Derived.TacticsInMore
import Derived.LoopNIn
import Derived.LoopIn
set_option linter.unusedVariables false
set_option linter.unusedSimpArgs false

section
namespace Go.Proofs.YtbonfdkgkcbkmaaGreat
set_option maxRecDepth 100000
set_option maxRecDepth 100000
open Go.RowKit

/-- Only cells of which Φ speaks, and new blocks, may have changed. -/
abbrev UpdT (Φ : Nat → TypeId → Prop) (w w' : World) : Prop := Upd (fun k => ∃ cs t fr, w.heap[k]? = some (.cells cs t fr) ∧ Φ k t) w w'
theorem UpdT.of0 {Φ : Nat → TypeId → Prop} {w w' : World} (h : Upd0 w w') : UpdT Φ w w' := h.mono (fun _ _ e => e.elim)
theorem UpdT.trans {Φ : Nat → TypeId → Prop} {a b c : World} (h : UpdT Φ a b) (k : UpdT Φ b c) : UpdT Φ a c := by
  refine Upd.step h k (fun j hj ⟨cs, t, fr, e, p⟩ => ?_)
  apply Classical.byContradiction
  intro hn
  rw [h.block j hj hn] at e
  exact hn ⟨cs, t, fr, e, p⟩
theorem UpdT.keep {Φ : Nat → TypeId → Prop} {w w' : World} (h : UpdT Φ w w') {k : Nat} {o : Obj} (hk : w.heap[k]? = some o) (hn : ∀ cs t fr, o = .cells cs t fr → ¬ Φ k t) : w'.heap[k]? = some o :=
  (h.block k (lt_of_heap hk) (fun ⟨cs, t, fr, e, p⟩ => by rw [hk] at e; injection e with e; exact hn cs t fr e p)).trans hk
theorem upd_put {W : World} {l : Nat} (o : Obj) : Upd (fun k => k = l) W (W.putObj l o) := Upd.of_grown (grownBy_putObj' W l o) (fun k hk => by injection hk with hk; exact hk.symm)
theorem cells_put {W : World} {l k : Nat} {o p : Obj} (o' : Obj) (hk : W.heap[k]? = some p) (hp : p.isCells = true) (ho : W.heap[l]? = some o) (hc : o.isCells = false) : (W.putObj l o').heap[k]? = some p := by
  by_cases e : k = l
  · subst e; rw [ho] at hk; injection hk with hk; subst hk; rw [hc] at hp; cases hp
  · exact (World.putObj_heap_other e).trans hk
theorem ownsRow_heap {w w' : World} {B : Nat} {e : TypeId} {s : Nat} {v : Value} {n : Nat} {xs : List Value} (h : w.ownsRow B e s v n xs) (hk : ∀ g, v.ownBlock = some g → w'.heap[g]? = w.heap[g]?) : w'.ownsRow B e s v n xs := by
  refine ⟨h.1, ?_⟩
  rcases h.2 with h | ⟨g, cap, cur, rfl, h2, h3, h4⟩
  · exact .inl h
  · exact .inr ⟨g, cap, cur, rfl, h2, (hk g rfl).trans h3, h4⟩
theorem ownsRow_at {w : World} {B : Nat} {e : TypeId} {s : Nat} {v : Value} {n : Nat} {xs : List Value} (h : w.ownsRow B e s v n xs) {k : Nat} (hk : v.ownBlock = some k) : ∃ cur, w.heap[k]? = some (.cells cur e (0, 0)) := by
  rcases h.2 with ⟨h1, _⟩ | ⟨g, cap, cur, h1, _, hg, _⟩
  · rw [h1] at hk; simp [Value.ownBlock] at hk
  · rw [h1] at hk
    simp only [Value.ownBlock, Option.some.injEq] at hk
    subst hk
    exact ⟨cur, hg⟩
theorem ownsRow_put {W : World} {B : Nat} {e : TypeId} {s : Nat} {v : Value} {n : Nat} {xs : List Value} (h : W.ownsRow B e s v n xs) {l : Nat} {o : Obj} (o' : Obj) (ho : W.heap[l]? = some o) (hc : o.isCells = false) : (W.putObj l o').ownsRow B e s v n xs := by
  refine ownsRow_heap h (fun g hg => ?_)
  obtain ⟨cur, hcur⟩ := ownsRow_at h hg
  rw [cells_put o' hcur rfl ho hc, hcur]
theorem ownsRow_T {Φ : Nat → TypeId → Prop} {w w' : World} {B : Nat} {e : TypeId} {s : Nat} {v : Value} {n : Nat} {xs : List Value} (h : w.ownsRow B e s v n xs) (hu : UpdT Φ w w') (hn : ∀ k, B ≤ k → ¬ Φ k e) : w'.ownsRow B e s v n xs := by
  refine ownsRow_heap h (fun g hg => ?_)
  obtain ⟨cur, hcur⟩ := ownsRow_at h hg
  rw [hu.keep hcur (fun cs t fr e => by injection e with _ e; subst e; exact hn g (World.ownsRow.lt h g hg).1), hcur]
theorem UpdT.put {Φ : Nat → TypeId → Prop} {w W : World} (h : UpdT Φ w W) {l : Nat} (hl : w.heap.size ≤ l) (o' : Obj) : UpdT Φ w (W.putObj l o') := Upd.step h (upd_put o') (fun k hk e => by omega)
theorem UpdT.own {Φ : Nat → TypeId → Prop} {w W W' : World} {F : Nat → Prop} (h : UpdT Φ w W) (hu : Upd F W W') (hF : ∀ k, F k → w.heap.size ≤ k) : UpdT Φ w W' := Upd.step h hu (fun k hk e => by have := hF k e; omega)
/-- Behind a statement that does not panic. -/
def noPanic (Q : Exit → Act → World → Prop) : Exit → Act → World → Prop
  | .panic _, _, _ => False
  | e, a, w => Q e a w
theorem noPanic_of {Q : Exit → Act → World → Prop} : ∀ (e : Exit) (a : Act) (w : World), noPanic Q e a w → Q e a w := fun e a w h => by
  cases e <;> first | exact h | exact h.elim

def ownPostT (Φ : Nat → TypeId → Prop) (I : World → Prop) (Ix : Code → World → Prop) (W : World) : Exit → Act → World → Prop
  | .normal, _, W3 => I W3 ∧ UpdT Φ W W3
  | .ret, _, W3 => Ix .ret W3 ∧ UpdT Φ W W3
  | .exit id, _, W3 => Ix (.exit id) W3 ∧ UpdT Φ W W3
  | .goto t, _, W3 => Ix (.goto t) W3 ∧ UpdT Φ W W3
  | _, _, _ => False

section
variable {F : Fence} {n : Nat} {P : Program}

/-- The rule. -/
theorem wpIn_rangeFunc_T {α : Type} {g : Operand} {ps : Array Tmp} {assign body : Code} {Q : Exit → Act → World → Prop} {a : Act} {w : World}
    (hro : F.round = none) (h1 : 1 ≤ n) {gf : Nat} {lb : Array Value} (hg : a.eval g = .func (.func gf) #[] lb) (hFg : F.fn gf) (eg : ∀ args w, (callFunc gf args).run P w = .ok (.enter gf args) w)
    {encs : α → Array Value} (hps : ∀ x, (encs x).size = ps.size) (Φi Φb : Nat → TypeId → Prop) (T : List α → α → Prop) (S : List α → World → Prop) (I : List α → World → Prop) (Ix : Code → World → Prop)
    (hIU : ∀ pre W W', w.heap.size ≤ W.heap.size → I pre W → UpdT Φi W W' → I pre W') (hIP : ∀ pre W l (o : Loop) o', I pre W → w.heap.size ≤ l → W.heap[l]? = some (.loop o) → I pre (W.putObj l o'))
    (hXU : ∀ c W W', w.heap.size ≤ W.heap.size → Ix c W → UpdT Φi W W' → Ix c W') (hXP : ∀ c W l (o : Loop) o', Ix c W → w.heap.size ≤ l → W.heap[l]? = some (.loop o) → Ix c (W.putObj l o')) (h0 : I [] w) (hSP : ∀ xs W l (o : Loop) o', S xs W → w.heap.size ≤ l → W.heap[l]? = some (.loop o) → S xs (W.putObj l o'))
    (hseq : ∀ (l : Nat) (J : List α → World → Prop) (Jx : World → Prop) (W : World), J [] W → Upd0 w W → (∀ pre W W', w.heap.size ≤ W.heap.size → J pre W → UpdT Φi W W' → J pre W') → (∀ W W', w.heap.size ≤ W.heap.size → Jx W → UpdT Φi W W' → Jx W') →
      (∀ pre x W1, w.heap.size ≤ W1.heap.size → J pre W1 → T pre x → YieldAt F (n - 1 - 1) P l (encs x) W1 fun e W' => (e = .returned (.bool true) ∧ J (pre ++ [x]) W' ∧ UpdT Φb W1 W') ∨ (e = .returned (.bool false) ∧ Jx W')) →
      CallsIn F (n - 1) P gf (#[.func (.yield l) #[] #[]] ++ lb) W fun e W' => (∃ v, e = .returned v) ∧ ((∃ xs, S xs W' ∧ J xs W') ∨ Jx W'))
    (Ax : α → Act → World → Prop) (hAP : ∀ x a' W l (o : Loop) o', Ax x a' W → w.heap.size ≤ l → W.heap[l]? = some (.loop o) → Ax x a' (W.putObj l o'))
    (hassign : ∀ (l : Nat) (x : α) (W : World) (K : Act → World → Prop), w.heap.size ≤ W.heap.size → (∀ a' W', Upd0 W W' → Ax x a' W' → K a' W') →
      assign.wpIn (F.inRound l) (n - 1 - 1) P (Exit.then K (fun _ _ _ => False)) { tmps := (ps.zip (encs x)).foldl (fun t (p, v) => t.setIfInBounds p v) a.tmps, defers := [] } W)
    (hbody : ∀ (l : Nat) (pre : List α) (x : α) (a' : Act) (W : World) (r : Loop), w.heap.size ≤ l → w.heap.size ≤ W.heap.size → I pre W → T pre x → Ax x a' W → W.heap[l]? = some (.loop r) →
      body.wpIn (F.inRound l) (n - 1 - 1) P (ownPostT Φb (I (pre ++ [x])) Ix W) a' W)
    (hdone : ∀ (xs : List α) (W : World), S xs W → I xs W → W.heap[w.heap.size]? = some (.deferred (some [])) → Q .normal { a with defers := { target := .collected w.heap.size, args := #[] } :: a.defers } W)
    (hstop : ∀ (c : Code) (W : World), Ix c W → W.heap[w.heap.size]? = some (.deferred (some [])) → c.wpIn F n P Q { a with defers := { target := .collected w.heap.size, args := #[] } :: a.defers } W) :
    (Code.rangeFunc g ps assign body).wpIn F n P Q a w := by
  refine wpIn_rangeFunc ?_
  intro fn hfn
  rw [hro]
  obtain ⟨m, hm⟩ : ∃ m, m = w.heap.size := ⟨_, rfl⟩
  obtain ⟨W1, hW1⟩ : ∃ W1, W1 = (w.alloc (.deferred (some []))).alloc (.loop { state := .ready, pending := none, fn, tmps := a.tmps, params := ps, assign, body, defers := w.heap.size }) := ⟨_, rfl⟩
  have hU1 : Upd0 w W1 := by rw [hW1]; exact ((Upd.refl _ w).alloc _).alloc _
  have hD1 : W1.heap[m]? = some (.deferred (some [])) := by rw [hW1, hm]; exact (alloc_lt (by simp)).trans (alloc_at rfl)
  obtain ⟨rec, hrec⟩ : ∃ rec : LoopState → Option Code → Loop, rec = fun st pe => { state := st, pending := pe, fn, tmps := a.tmps, params := ps, assign, body, defers := w.heap.size } := ⟨_, rfl⟩
  have hR1 : W1.heap[m + 1]? = some (.loop (rec .ready none)) := by rw [hW1, hm, hrec]; exact alloc_at (by simp)
  refine ⟨m + 1, [{ target := .collected m, args := #[] }], W1, { target := .fn (.func gf) lb, args := #[.func (.yield (m + 1)) #[] #[]] }, W1, gf, #[.func (.yield (m + 1)) #[] #[]] ++ lb, W1, ?_, ?_, ?_, ?_, fun _ => h1, ?_⟩
  · rw [hW1, hm]; exact run_enterLoop_outer _ _ _ _ _
  · simp only [resolve, hg]
    simp [go_sem]
  · intro f' hf'; simp [Target.leads] at hf'; subst hf'; exact hFg
  · simp [invoke, go_sem, eg]
  · have hread : ∀ {Φ : Nat → TypeId → Prop} {W W' : World} {k : Nat} {o : Obj}, UpdT Φ W W' → W.heap[k]? = some o → o.isCells = false → W'.heap[k]? = some o := fun hu h hc => hu.keep h (fun cs t fr e => by subst e; cases hc)
    have hIxJ : ∀ (c : Code) (W W' : World), w.heap.size ≤ W.heap.size → (Ix c W ∧ W.heap[m + 1]? = some (.loop (rec .done (some c))) ∧ W.heap[m]? = some (.deferred (some []))) → UpdT Φi W W' → (Ix c W' ∧ W'.heap[m + 1]? = some (.loop (rec .done (some c))) ∧ W'.heap[m]? = some (.deferred (some []))) :=
      fun c W W' hs h hu => ⟨hXU c _ _ hs h.1 hu, hread hu h.2.1 rfl, hread hu h.2.2 rfl⟩
    refine (hseq (m + 1) (fun pre W => I pre W ∧ W.heap[m + 1]? = some (.loop (rec .ready none)) ∧ W.heap[m]? = some (.deferred (some []))) (fun W => ∃ c, Ix c W ∧ W.heap[m + 1]? = some (.loop (rec .done (some c))) ∧ W.heap[m]? = some (.deferred (some []))) W1 ⟨hIU _ _ _ (Nat.le_refl _) h0 (UpdT.of0 hU1), hR1, hD1⟩ hU1
      (fun pre W W' hs hJ hu => ⟨hIU _ _ _ hs hJ.1 hu, hread hu hJ.2.1 rfl, hread hu hJ.2.2 rfl⟩) (fun W W' hs ⟨c, hJ⟩ hu => ⟨c, hIxJ c W W' hs hJ hu⟩) ?_).mono ?_
    · rintro pre x Wy hsy ⟨hi, hl, hd⟩ hT
      have hy := run_yield (P := P) (args := encs x) hl (by rw [hrec]; exact hps x)
      rw [hrec] at hy
      refine ⟨fn, _, assign, body, hy, roundIn_of_wpIn hfn (hassign _ x Wy _ hsy (fun a' Wa hua hax => ?_))⟩
      have hla := hread (UpdT.of0 (Φ := Φi) hua) hl rfl
      have hda := hread (UpdT.of0 (Φ := Φi) hua) hd rfl
      refine ⟨_, run_beginRound hla (by rw [hrec]), ?_⟩
      have hl2 : (Wa.putObj (m + 1) (.loop { rec .ready none with state := .busy })).heap[m + 1]? = some (.loop { rec .ready none with state := .busy }) := World.putObj_heap_same (lt_of_heap hla)
      have hd2 : (Wa.putObj (m + 1) (.loop { rec .ready none with state := .busy })).heap[m]? = some (.deferred (some [])) := (World.putObj_heap_other (by omega)).trans hda
      have hsa : w.heap.size ≤ Wa.heap.size := Nat.le_trans hsy hua.size
      refine wpIn_mono (hbody (m + 1) pre x a' _ _ (by omega) (by simpa using hsa) (hIP _ _ _ _ _ (hIU _ _ _ hsy hi (UpdT.of0 hua)) (by omega) hla) hT (hAP _ _ _ _ _ _ hax (by omega) hla) hl2) ?_
      have hUend : ∀ W3, UpdT Φb (Wa.putObj (m + 1) (.loop { rec .ready none with state := .busy })) W3 → UpdT Φb Wy (W3.putObj (m + 1) (.loop (rec .ready none))) := by
        intro W3 hu3
        refine ⟨hu3.os.trans hua.os, hu3.tape.trans hua.tape, hu3.output.trans hua.output, by have h1 := hu3.size; have h2 := hua.size; simp at h1 ⊢; omega, fun k hk hn => ?_⟩
        by_cases e : k = m + 1
        · subst e
          rw [hl]
          exact World.putObj_heap_same (lt_of_heap (hread hu3 hl2 rfl))
        · have hka : Wa.heap[k]? = Wy.heap[k]? := hua.block k hk (fun e => e)
          have hkb : (Wa.putObj (m + 1) (.loop { rec .ready none with state := .busy })).heap[k]? = Wa.heap[k]? := World.putObj_heap_other e
          rw [World.putObj_heap_other e, hu3.block k (by have := hua.size; simp; omega) (by rw [hkb, hka]; exact hn), hkb, hka]
      have hX : ∀ (c : Code) (Z : Value → World → Prop) (W3 : World), Ix c W3 ∧ UpdT Φb (Wa.putObj (m + 1) (.loop { rec .ready none with state := .busy })) W3 → ∃ v w', (Instr.endRound (m + 1) (some c)).run P W3 = .ok v w' ∧ (Z v w' ∨ (Ending.returned v = .returned (.bool false) ∧ ∃ c, Ix c w' ∧ w'.heap[m + 1]? = some (.loop (rec .done (some c))) ∧ w'.heap[m]? = some (.deferred (some [])))) := by
        rintro c Z W3 ⟨hx3, hu3⟩
        have hl3 := hread hu3 hl2 rfl
        have hd3 := hread hu3 hd2 rfl
        have hend := run_endRound (P := P) (some c) hl3
        rw [hrec] at hend
        refine ⟨_, _, hend, .inr ⟨rfl, c, hXP _ _ _ _ _ hx3 (by omega) hl3, ?_, (World.putObj_heap_other (by omega)).trans hd3⟩⟩
        rw [hrec]
        exact World.putObj_heap_same (lt_of_heap hl3)
      intro e a3 W3 hp
      cases e with
      | normal =>
        obtain ⟨hi3, hu3⟩ := hp
        have hl3 := hread hu3 hl2 rfl
        have hd3 := hread hu3 hd2 rfl
        have hend := run_endRound (P := P) none hl3
        have hue := hUend W3 hu3
        rw [hrec] at hend hue
        refine ⟨_, _, hend, .inl ⟨rfl, ⟨hIP _ _ _ _ _ hi3 (by omega) hl3, ?_, (World.putObj_heap_other (by omega)).trans hd3⟩, hue⟩⟩
        rw [hrec]
        exact World.putObj_heap_same (lt_of_heap hl3)
      | ret => exact hX .ret _ W3 hp
      | exit id => exact hX (.exit id) _ W3 hp
      | goto t => exact hX (.goto t) _ W3 hp
      | panic c => exact hp.elim
      | outgrown => exact hp.elim
    · rintro e W2 ⟨⟨v, rfl⟩, hJ⟩
      rcases hJ with ⟨xs, hS, hi, hl, hd⟩ | ⟨c, hx, hl, hd⟩
      · have hend := run_endLoop (P := P) hl (by rw [hrec]; simp)
        rw [hrec] at hend
        refine ⟨none, _, hend, ?_⟩
        have := hdone xs _ (hSP _ _ _ _ (.loop { rec .ready none with state := .exhausted }) hS (by omega) hl) (hIP _ _ _ _ (.loop { rec .ready none with state := .exhausted }) hi (by omega) hl) (by rw [← hm]; exact (World.putObj_heap_other (by omega)).trans hd)
        rw [hm]
        rw [hrec, hm] at this
        exact this
      · have hend := run_endLoop (P := P) hl (by rw [hrec]; simp)
        rw [hrec] at hend
        refine ⟨some c, _, hend, ?_⟩
        have := hstop c _ (hXP _ _ _ _ (.loop { rec .done (some c) with state := .exhausted }) hx (by omega) hl) (by rw [← hm]; exact (World.putObj_heap_other (by omega)).trans hd)
        rw [hm]
        rw [hrec, hm] at this
        exact this
end
end Go.Proofs.YtbonfdkgkcbkmaaGreat
end

section
namespace Go.Proofs.YtbonfdkgkcbkmaaGreat
set_option maxRecDepth 100000
set_option maxRecDepth 100000
open Go.RowKit

theorem run_store_nilf {P : Program} {w : World} {a : Addr} : (store a .nilFunc).run P w = stored P w a .nilFunc .plain := run_store P w a _ _ rfl
attribute [local go_sem] run_store_func run_store_nilf
end Go.Proofs.YtbonfdkgkcbkmaaGreat
end

