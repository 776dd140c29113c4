/- A register whose disk may be armed: a Commit there, and what a loss of power leaves; a twin of it. -/
import Derived.Test.YtbimkhdiplnbfaaGreatF1
import Derived.Test.YtbimkhdiplnbfaaGreatF5
import Derived.Test.YtbimkhdiplnbfaaGreatF25
import Derived.Test.YtbimkhdiplnbfaaGreatF27
import Derived.Test.YtbimkhdiplnbfaaGreatF35
set_option linter.unusedVariables false
set_option linter.unusedSimpArgs false

section
namespace Go.Proofs.YtbimkhdiplnbfaaGreat
set_option maxRecDepth 100000
open Go.RowKit Go.Shelf

def SaysS (P : List (List Int)) (ev : Int) (l : KV) : Prop := ∃ p0 txs, P = p0 :: txs ∧ foundN p0 txs = ((ev, l), true)

theorem areaN_used : ∀ (P : List (List Int)) (a : Int), (∀ b ∈ P, b.length ≤ 40000) → areaN a P = a + usedOf P
 | [], a, _ => by simp [areaN, usedOf]
 |b :: P, a, h => by
  have e : areaN a (b :: P) = areaN (a + secsI b.length) P := rfl
  rw [e, areaN_used P _ (fun c hc => h c (List.mem_cons_of_mem _ hc)), usedOf_cons, secsI_N (h b (by simp))]
  omega

structure RgX (X : Lg) (w0 W : World) (p r N : Nat) (area : Int) (t : Nat) (ev : Int) (l : KV) : Prop where
 out : ∃ (q b n : Nat) (C : Nat → Prop) (D : Dk) (G F : Nat → Prop) (τ : Int), RegG W r q p ev b n C l area X D G F N (20000 + 2000 * t) τ ∧ D.row = [] ∧ τ ≤ X.h.turn ∧ X.h.turn ≤ 1 + t ∧ X.h.number + X.parts.length ≤ 2 + t ∧ n ≤ 48 * t ∧
  (∀ k, G k → w0.heap.size ≤ k) ∧ (∀ k, F k → w0.heap.size ≤ k) ∧ (∀ k, C k → w0.heap.size ≤ k) ∧ w0.heap.size ≤ b ∧ w0.heap.size ≤ r
 upd : Upd (fun _ => False) w0 W
structure RgT (X : Lg) (w0 W : World) (p r N : Nat) (area : Int) (t : Nat) (ev : Int) (l : KV) : Prop where
 out : ∃ (q b n : Nat) (C : Nat → Prop) (D : Dk) (G F : Nat → Prop) (τ : Int), RegG W r q p ev b n C l area X D G F N (20000 + 2000 * t) τ ∧ τ ≤ X.h.turn + 1 ∧ X.h.turn ≤ 1 + t ∧ X.h.number + X.parts.length ≤ 2 + t ∧ n ≤ 48 * t ∧
  (∀ k, G k → w0.heap.size ≤ k) ∧ (∀ k, F k → w0.heap.size ≤ k) ∧ (∀ k, C k → w0.heap.size ≤ k) ∧ w0.heap.size ≤ b ∧ w0.heap.size ≤ r
 upd : Upd (fun _ => False) w0 W
theorem RgX.copy {X : Lg} {w0 W : World} {p r N t : Nat} {area ev : Int} {l : KV} (h : RgX X w0 W p r N area t ev l) (ht : t ≤ 300) :
  Calls Tryz.prog 38 #[.pointer (some ⟨p, 0, none⟩)] W fun e W1 => ∃ c, e = .returned (.pointer (some ⟨c, 0, none⟩)) ∧ Upd (fun _ => False) W W1 ∧
   Calls Tryz.prog 35 #[.pointer (some ⟨c, 0, none⟩)] W1 fun e W2 => ∃ r', e = .returned (.tuple #[.pointer (some ⟨r', 0, none⟩), .int .i64 0]) ∧ RgT X.on W W2 c r' N area (t + 501) ev l := by
 obtain ⟨⟨q, b, n, C, D, G, F, τ, h1, h2, h3, h4, h5, h6, h7, h8, h9, h10, h11⟩, hu⟩ := h
 have hnum := h1.good.ok.number
 obtain ⟨p0, txs, hp, hfo⟩ := h1.says
 refine (copy_run W h1.mem.wal.2.1 (h1.good.dok.mono (by omega))).mono ?_
 rintro e W1 ⟨rfl, g, c', hcp⟩
 obtain ⟨F1, hD1, hF1, hu1⟩ := hcp.dsk
 refine ⟨W.heap.size, rfl, hu1, ?_⟩
 refine (ropen_good (N := N) W1 hD1 h1.law h1.good.good h1.good.dok (by omega) h1.good.fits (by omega) (by omega) hp (by rw [hfo])).mono ?_
 rintro e W2 ⟨r', q', b', n', C', D', G', F', rfl, k1, k2, k3, k4, k5, k6, k7, k8, k9, k10, k11, k12⟩
 have hsz := hu1.size
 have har : areaN (X.h.area - X.used) X.parts = area := by
  rw [areaN_used _ _ (fun b hb => (h1.good.ok.bytes b hb).2), h1.har, ← h1.law.sum]
  omega
 rw [hfo, har] at k1
 have hF' : ∀ k, F' k → W.heap.size ≤ k := fun k hk => by
  rcases k8 k hk with e | e
  ·exact hF1 k e
  ·omega
 refine ⟨r', rfl, ⟨q', b', n', C', D', G', F', X.h.turn + 1, ⟨k1, ?_, k3, h1.fine, h1.hev, h1.har, p0, txs, hp, hfo⟩, by show X.h.turn + 1 ≤ X.h.turn + 1 + 1; omega, by show X.h.turn + 1 ≤ 1 + ((t + 501 : Nat) : Int); omega, by show X.h.number + X.parts.length ≤ 2 + ((t + 501 : Nat) : Int); omega, by omega, fun k hk => by have := k7 k hk; omega, hF', fun k hk => by have := k11 k hk; omega, by omega, by omega⟩, hu1.step k12 (fun k hk e => by have := hF1 k e; omega)⟩
 rw [show 20000 + 2000 * (t + 501) = 20000 + 2000 * t + 1002000 by omega]
 exact k2

structure RegL (w : World) (r q p : Nat) (ev : Int) (b n : Nat) (C : Nat → Prop) (l : KV) (X : Lg) (D : Dk) (G F : Nat → Prop) (K : Nat) : Prop where
 mem : RegMem w r q p ev b n C l 30 X D G F
 live : LiveN 62 30 X D
 armed : D.Armed 62
 dok : D.Ok K
 fine : l.Fine
 hev : 0 ≤ ev ∧ ev ≤ 4611686018427387904
 says : SaysS X.parts ev l

def LiveOut (ev : Int) (l : KV) (X : Lg) (B : BatchV) (E : Int) (P1 P2 : List (List Int)) : Prop :=
 (goodE ev 30 l X B ≠ 0 ∧ E ≠ 0 ∧ SaysS P1 ev l ∧ SaysS P2 ev l) ∨
 (goodE ev 30 l X B = 0 ∧ E = 0 ∧ SaysS P1 B.epoch (l.withs B.sets) ∧ SaysS P2 B.epoch (l.withs B.sets)) ∨
 (goodE ev 30 l X B = 0 ∧ E = 9 ∧ SaysS P1 ev l ∧ SaysS P2 B.epoch (l.withs B.sets))

def planE : Plan → Int
 |.no E => E
 |.app => 0
 |.cp => 0
theorem goodE_plan {ev area : Int} {l : KV} {X : Lg} {B : BatchV} {P : Plan} (h : planF ev area l X B = P) : goodE ev area l X B = planE P := by
 subst h
 unfold goodE
 cases planF ev area l X B <;> rfl

theorem commit_live {r q p : Nat} {ev : Int} {b n c K : Nat} {C G F : Nat → Prop} {l : KV} {X : Lg} {D : Dk} {a : Option Addr} {B : BatchV} (w : World) (h : RegL w r q p ev b n C l X D G F K) (ht : X.h.turn < 1000000) (hm : X.h.number + X.parts.length < 1000000) (hK : K ≤ 1000000000)
  (hpl : X.parts.length < 1000) (hn : n ≤ 1000000) (hs : SetsIn w a B.sets) (hsl : B.sets.length ≤ 900) (hk : B.Ok) (hal : ∀ b o, a = some ⟨b, o, none⟩ → b < w.heap.size) :
  Calls Tryz.prog 31 #[.pointer (some ⟨r, 0, none⟩), batchV B a c] w fun e w' => ∃ E D' F' P1 P2, e = .returned (.int .i64 E) ∧ Dsk w' p D' F' ∧ D'.Ok (K + 4000) ∧ (∀ k, F' k → F k ∨ w.heap.size ≤ k) ∧ Upd (fun k => G k ∨ F k ∨ k = r) w w' ∧ ShakyN 62 30 D' P1 P2 (X.h.turn + 1) (X.h.number + X.parts.length + 1) ∧ LiveOut ev l X B E P1 P2 := by
 have har := h.live.area
 obtain ⟨p0, txs, hp, hfo⟩ := h.says
 refine (commit_any (c := c) (B := B) w h.mem h.live.ok hpl h.dok hK hn h.fine h.hev.1 (by omega) hs hsl hk hal).mono ?_
 intro e w' hc
 have hlay : ∀ L : List (Int × List Int), (∀ x ∈ L, 0 ≤ x.1 ∧ x.1 < (62 : Nat)) → D.laysE L = 0 ∧ (D.lays L).Armed 62 ∨ D.laysE L = 9 := fun L hL => Dk.Armed.lays (by omega) L D h.armed hL
 unfold CommitAns at hc
 cases hP : planF ev 30 l X B with
 |no E =>
  rw [hP] at hc
  obtain ⟨rfl, hu⟩ := hc
  have hg : goodE ev 30 l X B = E := goodE_plan hP
  refine ⟨E, D, F, X.parts, X.parts, rfl, h.mem.wal.2.1.kept hu (fun _ _ e => e), h.dok.mono (by omega), fun k hk => .inl hk, hu.mono (F := fun _ => False) (fun _ _ e => e.elim), h.live.shaky (by omega) (by omega), ?_⟩
  by_cases h0 : E = 0
  ·subst h0
   obtain ⟨h1, h2⟩ := plan_no0 hP
   have h3 : SaysS X.parts B.epoch (l.withs B.sets) := by
    rw [h1, h2]
    exact ⟨p0, txs, hp, hfo⟩
   exact .inr (.inl ⟨hg, rfl, h3, h3⟩)
  ·exact .inl ⟨by rw [hg]; exact h0, h0, ⟨p0, txs, hp, hfo⟩, ⟨p0, txs, hp, hfo⟩⟩
 |app =>
  rw [hP] at hc
  obtain ⟨hb, hc⟩ := hc
  obtain ⟨hr, hd, hf⟩ := plan_app hP
  obtain ⟨hl, hfit⟩ := fits_len hf
  have hE : goodE ev 30 l X B = 0 := goodE_plan hP
  have hrf : X.refuses (encF B).length X.used = 0 := by
   unfold Lg.refuses
   rw [h.live.unbroken, if_neg (by simp), if_neg (by omega), if_neg (by omega)]
  have hfit' : X.used + secsN (encF B).length ≤ X.h.area := by omega
  rcases hc with ⟨hx, _⟩ | ⟨_, hc⟩
  ·exact absurd hrf hx
  obtain ⟨rfl, ev', b', n', C', l', G', F', k1, k2, _, k4, k5, k6, k7, k8, k9⟩ := hc
  have hsb := secsN_bound hl
  have hdk := Dk.lays_ok (partSc X.h (X.h.number + X.parts.length) (X.h.place + X.used) false (encF B) hb) h.dok
  rw [partSc_length] at hdk
  have hdk2 : (D.lays (X.apS (encF B) hb)).Ok (K + 4000) := Dk.Ok.mono hdk (by omega)
  have hadd : SaysS (X.parts ++ [encF B]) B.epoch (l.withs B.sets) := ⟨p0, txs ++ [encF B], by rw [hp]; rfl, found_add hfo hr hk hd⟩
  have hu := h.live.ok.used
  rcases hlay (X.apS (encF B) hb) (partSc_bound hb (by omega) (by have := h.live.fit; omega)) with ⟨g1, g2⟩ | g1
  ·refine ⟨_, _, F', X.parts ++ [encF B], X.parts ++ [encF B], rfl, k1.wal.2.1, hdk2, k8, k9, ?_, .inr (.inl ⟨hE, g1, hadd, hadd⟩)⟩
   exact (h.live.add hb hl hfit' (by omega) g1).shaky (P2 := X.parts ++ [encF B]) (by show X.h.turn ≤ X.h.turn + 1; omega) (by show X.h.number + ((X.parts ++ [encF B]).length : Int) ≤ X.h.number + X.parts.length + 1; simp; omega)
  ·refine ⟨_, _, F', X.parts, X.parts ++ [encF B], rfl, k1.wal.2.1, hdk2, k8, k9, ?_, .inr (.inr ⟨hE, g1, ⟨p0, txs, hp, hfo⟩, hadd⟩)⟩
   exact h.live.add_shaky hb hl hfit' (by omega) (by omega) (by omega)
 |cp =>
  rw [hP] at hc
  obtain ⟨hb, hc⟩ := hc
  obtain ⟨hr, hd, hf⟩ := plan_cp hP
  obtain ⟨hl, hfit⟩ := fits_len hf
  have hfit' : (secsN (wholeF B.epoch (l.withs B.sets)).length : Int) ≤ X.h.area := by omega
  have hE : goodE ev 30 l X B = 0 := goodE_plan hP
  have hrf : X.refuses (wholeF B.epoch (l.withs B.sets)).length 0 = 0 := by
   unfold Lg.refuses
   rw [h.live.unbroken, if_neg (by simp), if_neg (by omega), if_neg (by omega)]
  rcases hc with ⟨hx, _⟩ | ⟨_, hx, _⟩ | ⟨_, _, hc⟩
  ·exact absurd hrf hx
  ·omega
  obtain ⟨rfl, ev', b', n', C', l', G', F', k1, k2, _, k4, k5, k6, k7, k8, k9⟩ := hc
  have hsb := secsN_bound hl
  have hbd : ∀ x ∈ X.cpS (wholeF B.epoch (l.withs B.sets)) hb, 0 ≤ x.1 ∧ x.1 < (62 : Nat) := partSc_bound hb (by omega) (by have := h.live.fit; omega)
  have hdk := Dk.lays_ok (partSc X.h X.cpH.number X.cpH.place true (wholeF B.epoch (l.withs B.sets)) hb) h.dok
  rw [partSc_length] at hdk
  have hdk2 : (X.cpD D (wholeF B.epoch (l.withs B.sets)) hb).Ok (K + 4000) := by
   unfold Lg.cpD
   split
   ·exact Dk.Ok.mono (Dk.lays_ok [headSc X.cpH] hdk) (by simp; omega)
   ·exact Dk.Ok.mono hdk (by omega)
  obtain ⟨f1, f2⟩ := doE_fine h.fine hr hk hd
  have hep := (BatchV.right_sets hr).1
  have h0 := h.hev.1
  have hadd : SaysS [wholeF B.epoch (l.withs B.sets)] B.epoch (l.withs B.sets) := ⟨wholeF B.epoch (l.withs B.sets), [], rfl, found_whole f1 (by omega) hep⟩
  have hcp : X.cpE D (wholeF B.epoch (l.withs B.sets)) hb = 0 ∨ X.cpE D (wholeF B.epoch (l.withs B.sets)) hb = 9 := by
   unfold Lg.cpE
   rcases hlay _ hbd with ⟨g1, g2⟩ | g1
   ·rw [if_pos g1]
    rcases Dk.Armed.lays (by omega) (raw [headSc X.cpH]) _ g2 (headSc_bound (by omega)) with ⟨g3, _⟩ | g3
    ·exact .inl g3
    ·exact .inr g3
   ·rw [if_neg (by rw [g1]; decide)]
    exact .inr g1
  rcases hcp with g1 | g1
  ·refine ⟨_, _, F', [wholeF B.epoch (l.withs B.sets)], [wholeF B.epoch (l.withs B.sets)], rfl, k1.wal.2.1, hdk2, k8, k9, ?_, .inr (.inl ⟨hE, g1, hadd, hadd⟩)⟩
   have hlv := h.live.cp hb hl hfit' (by omega) (by omega) g1
   rw [Lg.cp, if_pos rfl] at hlv
   exact hlv.shaky (P2 := [wholeF B.epoch (l.withs B.sets)]) (by show X.h.turn + 1 ≤ X.h.turn + 1; omega) (by show X.h.number + X.parts.length + ((1 : Nat) : Int) ≤ X.h.number + X.parts.length + 1; omega)
  ·refine ⟨_, _, F', X.parts, [wholeF B.epoch (l.withs B.sets)], rfl, k1.wal.2.1, hdk2, k8, k9, ?_, .inr (.inr ⟨hE, g1, ⟨p0, txs, hp, hfo⟩, hadd⟩)⟩
   exact h.live.cp_shaky hb hl hfit' (by omega) (by omega) (by omega) (by omega)
end Go.Proofs.YtbimkhdiplnbfaaGreat
end

section
namespace Go.Proofs.YtbimkhdiplnbfaaGreat
set_option maxRecDepth 100000
open Go.RowKit Go.Shelf

theorem openL_err {hd : Hd} {ps : List (List Int)} {D : Dk} (h : (openL hd ps D).1 = none) : (openL hd ps D).2.1 ≠ 0 := by
 unfold openL at h ⊢
 split at h
 ·cases h
 ·rename_i h1
  rw [if_neg h1]
  exact h1
theorem openL_some {hd : Hd} {ps : List (List Int)} {D : Dk} {X : Lg} (h : (openL hd ps D).1 = some X) : X.parts = ps ∧ X.broken = false := by
 unfold openL at h
 split at h
 ·injection h with h
  subst h
  exact ⟨rfl, rfl⟩
 ·cases h
theorem openP_err {hd : Hd} {R : List (List Int) × Int × Dk} (h : (openP hd R).1 = none) : (openP hd R).2.1 ≠ 0 := by
 unfold openP at h ⊢
 split at h
 ·rename_i h1
  rw [if_pos h1]
  split at h
  ·rename_i h2
   rw [if_pos h2]
   show (140 : Int) ≠ 0
   decide
  ·rename_i h2
   rw [if_neg h2]
   exact openL_err h
 ·rename_i h1
  rw [if_neg h1]
  exact h1
theorem openP_some {hd : Hd} {R : List (List Int) × Int × Dk} {X : Lg} (h : (openP hd R).1 = some X) : X.parts ≠ [] ∧ X.broken = false := by
 unfold openP at h
 split at h
 ·split at h
  ·cases h
  ·rename_i h2
   obtain ⟨h3, h4⟩ := openL_some h
   exact ⟨by rw [h3]; exact fun e => h2 (.inl e), h4⟩
 ·cases h
theorem openH_err {c : Hd × Bool} {D : Dk} (h : (openH c D).1 = none) : (openH c D).2.1 ≠ 0 := by
 unfold openH at h ⊢
 split at h
 ·rename_i h1
  rw [if_pos h1]
  show (140 : Int) ≠ 0
  decide
 ·rename_i h1
  rw [if_neg h1]
  exact openP_err h
theorem openH_some {c : Hd × Bool} {D : Dk} {X : Lg} (h : (openH c D).1 = some X) : X.parts ≠ [] ∧ X.broken = false := by
 unfold openH at h
 split at h
 ·cases h
 ·exact openP_some h
theorem openD_err {D : Dk} (h : (openD D).1 = none) : (openD D).2.1 ≠ 0 := by
 unfold openD at h ⊢
 split at h
 ·rename_i h1
  rw [if_pos h1]
  split at h
  ·rename_i h2
   rw [if_pos h2]
   exact openH_err h
  ·rename_i h2
   rw [if_neg h2]
   exact h2
 ·rename_i h1
  rw [if_neg h1]
  exact h1
theorem openD_some {D : Dk} {X : Lg} (h : (openD D).1 = some X) : X.parts ≠ [] ∧ X.broken = false := by
 unfold openD at h
 split at h
 ·split at h
  ·exact openH_some h
  ·cases h
 ·cases h

def RFound (w : World) (p : Nat) (X : Lg) (D' : Dk) (F' : Nat → Prop) (p0 : List Int) (txs : List (List Int)) (e : Ending) (w' : World) : Prop :=
 ∃ r q b n C G', e = .returned (.tuple #[.pointer (some ⟨r, 0, none⟩), .int .i64 0]) ∧ RegMem w' r q p (foundN p0 txs).1.1 b n C (foundN p0 txs).1.2 (areaN (X.h.area - X.used) X.parts) X D' G' F' ∧ (foundN p0 txs).1.2.Fine ∧
  (0 ≤ (foundN p0 txs).1.1 ∧ (foundN p0 txs).1.1 ≤ 4611686018427387904) ∧ n ≤ 48 + 48 * X.parts.length ∧ (∀ k, G' k → w.heap.size ≤ k) ∧ w.heap.size ≤ r ∧ w.heap.size ≤ b ∧ (∀ k, C k → w.heap.size ≤ k)

def ROpenAns (w : World) (p K : Nat) (F : Nat → Prop) (R : Option Lg × Int × Dk) (e : Ending) (w' : World) : Prop :=
 ∃ F', Dsk w' p R.2.2 F' ∧ (∀ k, F' k → F k ∨ w.heap.size ≤ k) ∧ Upd F w w' ∧ R.2.2.Ok (K + 1002000) ∧ match R.1 with
 |none => e = .returned (.tuple #[.pointer none, .int .i64 R.2.1])
 |some X => X.Ok ∧ X.broken = false ∧ ∃ p0 txs, X.parts = p0 :: txs ∧ (((foundN p0 txs).2 = false ∧ e = .returned (.tuple #[.pointer none, .int .i64 302])) ∨ ((foundN p0 txs).2 = true ∧ RFound w p X R.2.2 F' p0 txs e w'))

set_option maxHeartbeats 8000000 in
theorem ropen_any {p K : Nat} {D : Dk} {F : Nat → Prop} (w : World) (hD : Dsk w p D F) (hok : D.Ok K) (hK : K ≤ 1000000000) :
  Calls Tryz.prog 35 #[.pointer (some ⟨p, 0, none⟩)] w (ROpenAns w p K F (openD D)) := by
 have hop := open_any w hD hok (by omega)
 have h1 := openD_err (D := D)
 have h2 := fun X => openD_some (D := D) (X := X)
 obtain ⟨R, hR⟩ : ∃ R, R = openD D := ⟨_, rfl⟩
 rw [← hR] at hop h1 ⊢
 simp only [← hR] at h2
 obtain ⟨o, E, D'⟩ := R
 clear hR hD hok hK
 have HC := Lib.hid hop
 clear hop
 cases o with
 |none =>
  have hE : E ≠ 0 := h1 rfl
  clear h1 h2
  go_enter Tryz.func35, Tryz.ntmps35
  go_wp2_with (go_at_call 61; fail)
  refine HC.out.mono ?_
  rintro e w1 ⟨F', k1, k2, k3, k4, rfl⟩
  have HK := Lib.hid (show ROpenAns w p K F (none, E, D') (.returned (.tuple #[.pointer none, .int .i64 E])) w1 from ⟨F', k1, k2, k3, k4, rfl⟩)
  clear k1 k2 k3 k4 HC
  simp only []
  go_wp2
  go_returns
  exact HK.out
 |some X =>
  obtain ⟨hne, hbr⟩ := h2 X rfl
  obtain ⟨p0, txs, hp⟩ : ∃ p0 txs, X.parts = p0 :: txs := by
   cases e : X.parts with
   |nil => exact absurd e hne
   |cons a b => exact ⟨a, b, rfl⟩
  clear h1 h2 hne
  have HBR := Lib.hid hbr; have HP := Lib.hid hp
  clear hbr hp
  go_enter Tryz.func35, Tryz.ntmps35
  go_wp2_with (go_at_call 61; fail)
  refine HC.out.mono ?_
  rintro e w1 ⟨F', k1, k2, k3, k4, q, G', rfl, k5, k6, k7, k8⟩
  have H1 := Lib.hid k1; have H2 := Lib.hid k2; have H3 := Lib.hid k3; have H4 := Lib.hid k4; have H5 := Lib.hid k5; have H6 := Lib.hid k6; have H7 := Lib.hid k7; have H8 := Lib.hid k8
  clear k1 k2 k3 k4 k5 k6 k7 k8 HC
  simp only []
  go_wp2_with (go_at_call 100; fail)
  refine (rfound_any w1 H5.out H8.out HP.out).mono ?_
  rintro e w2 ⟨b, n, C, rfl, hm, hf, hev, hn, hb, hc, hu⟩
  obtain ⟨s9, hs9⟩ : ∃ s, s = foundN p0 txs := ⟨_, rfl⟩
  obtain ⟨ar9, har9⟩ : ∃ x, x = areaN (X.h.area - X.used) X.parts := ⟨_, rfl⟩
  rw [← hs9] at hm hf hev
  rw [← hs9, ← har9]
  have HS9 := Lib.hid hs9; have HAR := Lib.hid har9
  obtain ⟨⟨ev9, l9⟩, ok9⟩ := s9
  simp only at hm hf hev
  have HM := Lib.hid hm; have HF := Lib.hid hf; have HEV := Lib.hid hev; have HN := Lib.hid hn; have HB := Lib.hid hb; have HC := Lib.hid hc; have HU := Lib.hid hu
  clear hm hf hev hn hb hc hu hs9 har9
  cases ok9 with
  |false =>
   simp only []
   go_wp2
   go_returns
   have hu2 := HU.out.trans ((Upd.refl (fun _ => False) w2).alloc (.cells #[.int .u64 ev9, .map (some b)] 167))
   refine ⟨F', H1.out.kept hu2 (fun _ _ e => e), H2.out, H3.out.trans (hu2.mono (F := fun _ => False) (fun _ _ e => e.elim)), H4.out, H8.out, HBR.out, p0, txs, HP.out, .inl ⟨?_, rfl⟩⟩
   rw [← HS9.out]
  |true =>
   simp only []
   obtain ⟨w3, hw3⟩ : ∃ w3, w3 = (w2.alloc (.cells #[.int .u64 ev9, .map (some b)] 167)).alloc (.cells #[.pointer (some ⟨q, 0, none⟩), .int .u64 ev9, .map (some b), .int .i64 ar9] 172) := ⟨_, rfl⟩
   have hu3 : Upd (fun _ => False) w2 w3 := by rw [hw3]; exact ((Upd.refl _ w2).alloc _).alloc _
   have hr3 : RegAt w3 (w2.heap.size + 1) (.pointer (some ⟨q, 0, none⟩)) ev9 (.map (some b)) ar9 := by
    unfold RegAt
    rw [hw3]
    exact alloc_at (by simp)
   have HW3 := Lib.hid hw3; have HU3 := Lib.hid hu3; have HR3 := Lib.hid hr3
   clear hw3 hu3 hr3
   go_wp2
   go_returns
   rw [← HW3.out]
   have hsz := HU.out.size
   have hu13 := HU.out.trans HU3.out
   have hGl := H5.out.lt
   have hFl := H1.out.lt
   have hws := H3.out.size
   refine ⟨F', H1.out.kept hu13 (fun _ _ e => e), H2.out, H3.out.trans (hu13.mono (F := fun _ => False) (fun _ _ e => e.elim)), H4.out, H8.out, HBR.out, p0, txs, HP.out, .inr ⟨by rw [← HS9.out], ?_⟩⟩
   unfold RFound
   rw [← HS9.out, ← HAR.out]
   exact ⟨w2.heap.size + 1, q, b, n, C, G', rfl, ⟨HR3.out, HM.out.kept0 HU3.out, ⟨H5.out.kept' hu13, H1.out.kept hu13 (fun _ _ e => e), H7.out⟩, ⟨fun e => by have := hGl _ e; omega, fun e => by have := hFl _ e; omega⟩, ⟨fun e => by have := hGl _ e; have := HB.out; omega, fun e => by have := hFl _ e; have := HB.out; omega⟩, fun k hk => ⟨fun e => by have := hGl _ e; have := HC.out k hk; omega, fun e => by have := hFl _ e; have := HC.out k hk; omega⟩⟩,
    HF.out, HEV.out, HN.out, H6.out, by omega, by have := HB.out; omega, fun k hk => by have := HC.out k hk; omega⟩
end Go.Proofs.YtbimkhdiplnbfaaGreat
end

section
namespace Go.Proofs.YtbimkhdiplnbfaaGreat
set_option maxRecDepth 100000
open Go.RowKit Go.Shelf

theorem ValsAt.kept {F C : Nat → Prop} {w w' : World} {a : Option Addr} {l : KV} (h : ValsAt w C a l) (hu : Upd F w w') (ha : ∀ g o, a = some ⟨g, o, none⟩ → ¬ F g) (hc : ∀ k, C k → ¬ F k) : ValsAt w' C a l := fun i p hp => by
 obtain ⟨g, v, e, h1, h2, h3⟩ := h i p hp
 exact ⟨g, v, e, cell_keptF hu (ha g 0 e) h1, cell_keptF hu (ha g 0 e) h2, h3.kept hu hc⟩
theorem ValsAt.kept0 {C : Nat → Prop} {w w' : World} {a : Option Addr} {l : KV} (h : ValsAt w C a l) (hu : Upd (fun _ => False) w w') : ValsAt w' C a l := h.kept hu (fun _ _ _ e => e) (fun _ _ e => e)

theorem KV.get_first {l : KV} {s : ByteArray} {k : Nat} {p : ByteArray × List Int} (hp : l[k]? = some p) (he : p.1 = s) (hn : ∀ i q, i < k → l[i]? = some q → q.1 ≠ s) : l.get s = some p.2 := by
 induction l generalizing k with
 |nil => simp at hp
 |cons q l ih =>
  unfold KV.get
  cases k with
  |zero =>
   simp at hp
   subst hp
   simp [he]
  |succ k =>
   have h1 := hn 0 q (by omega) rfl
   rw [List.find?_cons_of_neg (by simpa using h1)]
   exact ih (by simpa using hp) (fun i q hi hq => hn (i + 1) q (by omega) (by simpa using hq))
theorem KV.get_no {l : KV} {s : ByteArray} (hn : ∀ (i : Nat) (q : ByteArray × List Int), l[i]? = some q → q.1 ≠ s) : l.get s = none := by
 unfold KV.get
 rw [Option.map_eq_none_iff, List.find?_eq_none]
 intro q hq
 obtain ⟨i, hi⟩ := List.mem_iff_getElem?.1 hq
 simpa using hn i q hi

set_option maxHeartbeats 8000000 in
theorem get_val {C : Nat → Prop} {a : Option Addr} {c : Nat} {l : KV} {s : ByteArray} (w : World) (h : ValsAt w C a l) (hl : l.length ≤ 1000) :
  Calls Tryz.prog 32 #[.slice a l.length c, .string s] w fun e w' => ∃ v, e = .returned (.tuple #[v, .bool (l.get s).isSome]) ∧ BytesAt w' C v ((l.get s).getD []) ∧ Upd (fun _ => False) w w' := by
 have HV := Lib.hid h
 clear h
 go_enter Tryz.func32, Tryz.ntmps32
 go_upto_block 0 with fail
 go_upto_region 2 with fail
 go_loopg [10] l.length (fun gk i wr => ∃ k : Nat, k ≤ l.length ∧ gk = l.length - k ∧ i = .int .i64 k ∧ (∀ i q, i < k → l[i]? = some q → q.1 ≠ s) ∧ Upd (fun _ => False) w wr)
 case atStart => exact ⟨0, Nat.zero_le _, rfl, rfl, fun i q hi => by omega, Upd.refl _ _⟩
 case round =>
  obtain ⟨k, hk, rfl, rfl, hn, hu⟩ := hrel
  have HN := Lib.hid hn; have HU := Lib.hid hu
  have hv := HV.out.kept0 hu
  clear hn hu
  by_cases hkn : k < l.length
  ·have hkni : (k : Int) < l.length := by omega
   obtain ⟨p, hp⟩ : ∃ p, l[k]? = some p := ⟨_, List.getElem?_eq_getElem hkn⟩
   obtain ⟨g, v, rfl, y0, y1, hb⟩ := hv k p hp
   obtain ⟨va, vc, rfl, _⟩ := hb.slice
   have HB := Lib.hid hb; have HP := Lib.hid hp
   clear hv hb hp
   go_upto_region 4 with fail
   obtain ⟨wa, hwa⟩ : ∃ wa, wa = wr.alloc (.cells #[.string p.1, .slice va p.2.length vc] 164) := ⟨_, rfl⟩
   rw [← hwa]
   have hua : Upd (fun _ => False) wr wa := by rw [hwa]; exact (Upd.refl _ wr).alloc _
   have hxa : wa.heap[wr.heap.size]? = some (.cells #[.string p.1, .slice va p.2.length vc] 164 (0, 0)) := by rw [hwa]; exact alloc_at rfl
   obtain ⟨z0, z1⟩ := cells2_of hxa
   have HBA := Lib.hid (HB.out.kept hua (fun _ _ e => e)); have HUA := Lib.hid (HU.out.trans hua)
   clear hwa hua hxa y0 y1
   have hcv2 : IntKind.i64.wrap ((k : Int) + 1) = (k : Int) + 1 := by rw [IntKind.wrap_i64]; omega
   by_cases he : p.1 = s
   ·have hget := KV.get_first HP.out he HN.out
    have HG := Lib.hid hget
    clear hget
    subst he
    go_wp2
    go_returns
    rw [HG.out]
    exact ⟨_, rfl, HBA.out, HUA.out⟩
   ·have HE := Lib.hid he
    have heb : (p.1.toList == s.toList) = false := by rw [toList_eq]; exact decide_eq_false he
    go_wp2
    go_roundg (l.length - (k + 1))
    case measure => omega
    case rel => exact ⟨k + 1, by omega, rfl, congrArg _ (by omega), fun i q hi hq => by
     by_cases e : i = k
     ·subst e
      rw [HP.out] at hq
      injection hq with hq
      subst hq
      exact HE.out
     ·exact HN.out i q (by omega) hq, HUA.out⟩
  ·obtain rfl : k = l.length := by omega
   have hget : l.get s = none := KV.get_no fun i q hq => HN.out i q (List.getElem?_eq_some_iff.1 hq).1 hq
   have HG := Lib.hid hget
   clear hget
   go_wp2
   go_returns
   rw [HG.out]
   exact ⟨_, rfl, .inl ⟨rfl, rfl⟩, HU.out⟩
end Go.Proofs.YtbimkhdiplnbfaaGreat
end

section
namespace Go.Proofs.YtbimkhdiplnbfaaGreat
set_option maxRecDepth 100000
open Go.RowKit Go.Shelf

def rightV (l : KV) (R : List Bool) (k : Nat) (x : SetV) : SetV := if R[k]? = some true then ⟨(clipV x).name, (l.get (clipV x).name).isSome, x.is, (l.get (clipV x).name).getD [], (clipV x).new⟩ else clipV x
def batchR (l : KV) (R : List Bool) (B : BatchV) : BatchV := ⟨B.epoch, B.large, (B.sets.take 49).mapIdx (rightV l R)⟩

def BoolsR (w : World) (ka : Option Addr) (keep : List Bool) : Prop := ∀ i b, keep[i]? = some b → ∃ kb ko, ka = some ⟨kb, ko, none⟩ ∧ kb < w.heap.size ∧ w.cell? ⟨kb, ko + i, none⟩ = some (.bool b)

theorem take_drop_at {α : Type} {M l0 : List α} {k : Nat} (hM : M.length = l0.length) (hk : k < l0.length) : (M.take k ++ l0.drop k)[k]? = some l0[k] := by
 have e1 : (M.take k).length = k := by simp; omega
 rw [List.getElem?_append_right (by omega), e1, Nat.sub_self]
 simp [hk]
theorem take_drop_set {α : Type} {M l0 : List α} {k : Nat} {y : α} (hM : M.length = l0.length) (hy : M[k]? = some y) : (M.take k ++ l0.drop k).set k y = M.take (k + 1) ++ l0.drop (k + 1) := by
 obtain ⟨h1, h2⟩ := List.getElem?_eq_some_iff.1 hy
 have e1 : (M.take k).length = k := by simp; omega
 rw [List.set_append_right _ _ (by omega), e1, Nat.sub_self, List.take_succ_eq_append_getElem h1, List.drop_eq_getElem_cons (l := l0) (by omega), h2]
 simp only [List.set_cons_zero, List.append_assoc, List.cons_append, List.nil_append]

structure BrAt (w : World) (base : Nat) (ev : Int) (lg : Bool) (opc rgc : Array Value) (C : Nat → Prop) (la : Option Addr) (lc : Nat) (l : List SetV) (W : World) : Prop where
 out : W.heap[w.heap.size + 3]? = some (.cells #[.int .u64 ev, .bool lg, .slice la l.length lc] 56 (0, 0))
 res : W.heap[w.heap.size + 2]? = some (.cells #[.int .u64 0, .bool false, .slice none 0 0] 56 (0, 0))
 op : W.heap[w.heap.size]? = some (.cells opc 58 (0, 0))
 row : SetRow W base C (.slice la l.length lc) l
 rows : RowC W C
 upd : Upd (fun _ => False) w W
 reg : W.heap[w.heap.size + 1]? = some (.cells rgc 62 (0, 0))
 low : ∀ k, C k → base ≤ k

theorem BrAt.kept0 {w : World} {base : Nat} {ev : Int} {lg : Bool} {opc rgc : Array Value} {C : Nat → Prop} {la : Option Addr} {lc : Nat} {l : List SetV} {W W' : World} (h : BrAt w base ev lg opc rgc C la lc l W) (hu : Upd (fun _ => False) W W') : BrAt w base ev lg opc rgc C la lc l W' := by
 have kk : ∀ (b : Nat) o, W.heap[b]? = some o → W'.heap[b]? = some o := fun b o h => (hu.block _ (lt_of_heap h) (fun e => e)).trans h
 exact ⟨kk _ _ h.out, kk _ _ h.res, kk _ _ h.op, h.row.kept hu (fun _ _ e => e) (fun _ _ e => e), h.rows.kept hu (fun _ _ e => e), h.upd.trans hu, kk _ _ h.reg, h.low⟩

theorem flat_put2 (L : List (SetV × Value × Value)) (i : Nat) (x : SetV) (y : SetV × Value × Value) (v : Value) (hi : L[i]? = some y) (hn : x.name = y.1.name) (his : x.is = y.1.is) :
  ((L.flatMap elC).set (i * 5 + 1) (.bool x.was)).set (i * 5 + 3) v = (L.set i (x, v, y.2.2)).flatMap elC := by
 have hil := (List.getElem?_eq_some_iff.1 hi).1
 apply List.ext_getElem?
 intro p
 by_cases hp : p < 5 * L.length
 ·obtain ⟨j, t, ht, hj, rfl⟩ : ∃ j t, t < 5 ∧ j < L.length ∧ p = j * 5 + t := ⟨p / 5, p % 5, by omega, by omega, by omega⟩
  by_cases hji : j = i
  ·subst hji
   rw [flat_at (L.set j (x, v, y.2.2)) j t (x, v, y.2.2) (by simp [hil]) ht]
   have h2 := flat_at L j t y hi ht
   have hlen : j * 5 + 4 < (L.flatMap elC).length := by rw [flat_length]; omega
   match t, ht with
   | 0, _ => rw [List.getElem?_set_ne (by omega), List.getElem?_set_ne (by omega), h2]; simp [elC, hn]
   | 1, _ => rw [List.getElem?_set_ne (by omega), List.getElem?_set_self (by omega)]; rfl
   | 2, _ => rw [List.getElem?_set_ne (by omega), List.getElem?_set_ne (by omega), h2]; simp [elC, his]
   | 3, _ => rw [List.getElem?_set_self (by simp only [List.length_set]; omega)]; rfl
   | 4, _ => rw [List.getElem?_set_ne (by omega), List.getElem?_set_ne (by omega), h2]; simp [elC]
  ·rw [List.getElem?_set_ne (by omega), List.getElem?_set_ne (by omega)]
   rw [flat_at L j t L[j] (List.getElem?_eq_getElem hj) ht, flat_at (L.set i (x, v, y.2.2)) j t L[j] (by rw [List.getElem?_set_ne (Ne.symm hji)]; exact List.getElem?_eq_getElem hj) ht]
 ·rw [List.getElem?_eq_none (by simp only [List.length_set, flat_length]; omega), List.getElem?_eq_none (by rw [flat_length, List.length_set]; omega)]

theorem SetRow.more {C C' : Nat → Prop} {w : World} {B : Nat} {sv : Value} {l : List SetV} (h : SetRow w B C sv l) (hc : ∀ k, C k → C' k) : SetRow w B C' sv l := by
 obtain ⟨L, h0, h1, h2, h3⟩ := h
 exact ⟨L, h0, h1, fun y hy => ⟨(h2 y hy).1.mono hc, (h2 y hy).2.mono hc⟩, h3⟩
theorem SetRow.put2 {w : World} {g cap B : Nat} {C : Nat → Prop} {l : List SetV} {i : Nat} {x x' : SetV} {v : Value} (h : SetRow w B C (.slice (some ⟨g, 0, none⟩) l.length cap) l) (hr : RowC w C) (hi : l[i]? = some x) (hn : x'.name = x.name) (his : x'.is = x.is) (hnew : x'.new = x.new) (hv : BytesAt w C v x'.old) (hf : x'.fine) :
  SetRow ((w.setCell ⟨g, i * 5 + 1, none⟩ (.bool x'.was)).setCell ⟨g, i * 5 + 3, none⟩ v) B C (.slice (some ⟨g, 0, none⟩) l.length cap) (l.set i x') ∧ Upd (fun k => k = g) w ((w.setCell ⟨g, i * 5 + 1, none⟩ (.bool x'.was)).setCell ⟨g, i * 5 + 3, none⟩ v) := by
 have hap : ∀ k, C k → ¬ k = g := fun k hk e => h.apart hr k hk (by rw [e]; rfl)
 have hupd : Upd (fun k => k = g) w ((w.setCell ⟨g, i * 5 + 1, none⟩ (.bool x'.was)).setCell ⟨g, i * 5 + 3, none⟩ v) := (upd_own w g _ _).trans (upd_own _ g _ _)
 obtain ⟨L, rfl, h1, h2, h3⟩ := h
 simp only [List.getElem?_map, Option.map_eq_some_iff] at hi
 obtain ⟨y, hy, rfl⟩ := hi
 refine ⟨⟨L.set i (x', v, y.2.2), by rw [List.map_set], ?_, fun z hz => ?_, fun z hz => ?_⟩, hupd⟩
 ·have := ((h1.stored (i * 5 + 1) (.bool x'.was)).1.stored (i * 5 + 3) v).1
  rw [flat_put2 L i x' y v hy hn his] at this
  rw [List.length_set]
  exact this
 ·rcases List.mem_or_eq_of_mem_set hz with hz | rfl
  ·exact ⟨(h2 z hz).1.kept hupd hap, (h2 z hz).2.kept hupd hap⟩
  ·exact ⟨hv.kept hupd hap, by rw [hnew]; exact (h2 y (List.mem_of_getElem? hy)).2.kept hupd hap⟩
 ·rcases List.mem_or_eq_of_mem_set hz with hz | rfl
  ·exact h3 z hz
  ·exact hf

set_option maxHeartbeats 8000000 in
theorem batch_right {c rn rc pn pc kn kc : Nat} {a ra pa ka : Option Addr} {B : BatchV} {R : List Bool} {l : KV} {CV : Nat → Prop} {e0 kd on : Int} (w : World) (hs : SetsIn w a B.sets) (hb : ∀ x ∈ B.sets, Bytes x.old ∧ Bytes x.new) (hl : B.sets.length ≤ c) (hc : c ≤ maxLen)
  (hR : BoolsR w ra R) (hrn : rn = R.length) (hV : ValsAt w CV pa l) (hpn : pn = l.length) (hF : l.Fine) :
  Calls Tryz.prog 19 #[.agg #[.int .i64 kd, .int .i64 on, .int .u64 B.epoch, .bool B.large, .slice a B.sets.length c, .slice ra rn rc, .slice ka kn kc], .agg #[.int .u64 e0, .slice pa pn pc]] w (CopyAns w (batchR l R B)) := by
 have HRB := Lib.hid hR; have HRN := Lib.hid hrn; have HV := Lib.hid hV; have HPN := Lib.hid hpn; have HF := Lib.hid hF
 clear hR hrn hV hpn hF
 have HS := Lib.hid hs; have HBB := Lib.hid hb
 clear hs hb
 obtain ⟨n, hn⟩ : ∃ n, n = B.sets.length := ⟨_, rfl⟩
 rw [← hn] at hl ⊢
 have HN := Lib.hid hn
 clear hn
 obtain ⟨w1, hw1⟩ : ∃ w1, w1 = ((w.alloc (.cells #[.int .i64 kd, .int .i64 on, .int .u64 B.epoch, .bool B.large, .slice a n c, .slice ra rn rc, .slice ka kn kc] 58)).alloc (.cells #[.int .u64 e0, .slice pa pn pc] 62)).alloc (.cells #[.int .u64 0, .bool false, .slice none 0 0] 56) := ⟨_, rfl⟩
 have hu1 : Upd (fun _ => False) w w1 := by rw [hw1]; exact (((Upd.refl _ w).alloc _).alloc _).alloc _
 have ho1 : w1.heap[w.heap.size]? = some (.cells #[.int .i64 kd, .int .i64 on, .int .u64 B.epoch, .bool B.large, .slice a n c, .slice ra rn rc, .slice ka kn kc] 58 (0, 0)) := by rw [hw1, alloc_lt (by simp; omega), alloc_lt (by simp)]; exact alloc_at rfl
 have hg1 : w1.heap[w.heap.size + 1]? = some (.cells #[.int .u64 e0, .slice pa pn pc] 62 (0, 0)) := by rw [hw1, alloc_lt (by simp)]; exact alloc_at (by simp)
 have hr1 : w1.heap[w.heap.size + 2]? = some (.cells #[.int .u64 0, .bool false, .slice none 0 0] 56 (0, 0)) := by rw [hw1]; exact alloc_at (by simp)
 have hz1 : w1.heap.size = w.heap.size + 3 := by rw [hw1]; simp
 have HW1 := Lib.hid hw1; have HU1 := Lib.hid hu1; have HO1 := Lib.hid ho1; have HR1 := Lib.hid hr1; have HG1 := Lib.hid hg1; have HZ1 := Lib.hid hz1
 clear hw1 hu1 ho1 hr1 hz1 hg1
 go_enter Tryz.func19, Tryz.ntmps19
 go_upto_region 1 with fail
 rw [← HW1.out, show w.heap.size + 1 + 1 = w.heap.size + 2 from rfl]
 have cc : ∀ j v, #[Value.int .i64 kd, .int .i64 on, .int .u64 B.epoch, .bool B.large, .slice a n c, .slice ra rn rc, .slice ka kn kc][j]? = some v → w1.cell? ⟨w.heap.size, j, none⟩ = some v := fun j v h => by
  rw [cell_of_heap HO1.out]; exact h
 have c2 := cc 2 _ rfl; have c3 := cc 3 _ rfl; have c4 := cc 4 _ rfl
 have CS := Lib.hid (cc 5 _ rfl)
 clear cc
 go_upto_region 2 with fail
 rw [HZ1.out]
 obtain ⟨w2, hw2⟩ : ∃ w2, w2 = w1.alloc (.cells #[.int .u64 B.epoch, .bool B.large, .slice a n c] 56) := ⟨_, rfl⟩
 rw [← hw2]
 have hu2 : Upd (fun _ => False) w1 w2 := by rw [hw2]; exact (Upd.refl _ w1).alloc _
 have hb2 : w2.heap[w.heap.size + 3]? = some (.cells #[.int .u64 B.epoch, .bool B.large, .slice a n c] 56 (0, 0)) := by rw [hw2]; exact alloc_at HZ1.out.symm
 have fr2 : w2.frozen? ⟨w.heap.size + 3, 2, none⟩ = false := frozen_of_heap hb2
 obtain ⟨y0, y1, y2⟩ := cells3_of hb2
 obtain ⟨m, hm⟩ : ∃ m, m = (B.sets.take 49).length := ⟨_, rfl⟩
 have hmm : m = min n 49 := by rw [hm, HN.out]; simp [Nat.min_comm]
 have hmn : min (n : Int) 49 = (m : Int) := by omega
 have hmle : m ≤ n := by omega
 have hslice : ∃ a', (∀ W, (Instr.slice 54 (.slice a n c) none (some (.int .i64 m)) none).run Tryz.prog W = .ok (.slice a' m c) W) ∧ SetsIn w a' (B.sets.take 49) := by
  have hr : ∀ W, (Instr.slice 54 (.slice a n c) none (some (.int .i64 m)) none).run Tryz.prog W = .ok (sliced a 0 m c 5) W := fun W => by
   rw [run_slice_h W 54 a n c elem54 .i64 m (by omega) (by omega), size54e]
   simp [Result.andThen]
  cases a with
  |none => exact ⟨none, fun W => by rw [hr W]; unfold sliced; simp, fun i x hx => by
    obtain ⟨_, _, _, b, o, e, _⟩ := HS.out i x (by rw [List.getElem?_take] at hx; split at hx; exact hx; cases hx)
    cases e⟩
  |some ad =>
   refine ⟨some (if c = 0 then ad else ad.add 0), fun W => by rw [hr W]; unfold sliced; simp; split <;> rfl, fun i x hx => ?_⟩
   have hx' : B.sets[i]? = some x := by rw [List.getElem?_take] at hx; split at hx; exact hx; cases hx
   obtain ⟨g1, g2, g3, b, o, e, r⟩ := HS.out i x hx'
   injection e with e
   subst e
   exact ⟨g1, g2, g3, b, o, by split <;> rfl, r⟩
 obtain ⟨a', hsl, hsin⟩ := hslice
 have HSIN := Lib.hid hsin; have HMM := Lib.hid hmm; have HM := Lib.hid hm
 have HU2 := Lib.hid (HU1.out.trans hu2); have HB2 := Lib.hid hb2
 have HG2 := Lib.hid ((hu2.block _ (lt_of_heap HG1.out) (fun e => e)).trans HG1.out)
 have HR2 := Lib.hid ((hu2.block _ (lt_of_heap HR1.out) (fun e => e)).trans HR1.out)
 have HO2 := Lib.hid ((hu2.block _ (lt_of_heap HO1.out) (fun e => e)).trans HO1.out)
 clear hw2 hu2 hb2 hm hmm hsin c2 c3 c4 HW1 HU1 HO1 HR1 HZ1 CS
 go_upto_region 3 with fail
 obtain ⟨w3, hw3⟩ : ∃ w3, w3 = w2.setCell ⟨w.heap.size + 3, 2, none⟩ (.slice a' m c) := ⟨_, rfl⟩
 rw [← hw3]
 have hu3 : Upd (fun k => k = w.heap.size + 3) w2 w3 := by rw [hw3]; exact upd_own w2 _ 2 _
 have hb3 : w3.heap[w.heap.size + 3]? = some (.cells #[.int .u64 B.epoch, .bool B.large, .slice a' m c] 56 (0, 0)) := by
  rw [hw3]
  have := blk_set (i := 2) (v := .slice a' m c) HB2.out
  simpa using this
 obtain ⟨y0, y1, y2⟩ := cells3_of hb3
 obtain ⟨l0, hl0⟩ : ∃ l0, l0 = B.sets.take 49 := ⟨_, rfl⟩
 have HU3 := Lib.hid (HU2.out.step hu3 (fun k hk e => by omega)); have HB3 := Lib.hid hb3
 have HG3 := Lib.hid ((hu3.block _ (lt_of_heap HG2.out) (by omega)).trans HG2.out)
 have HR3 := Lib.hid ((hu3.block _ (lt_of_heap HR2.out) (by omega)).trans HR2.out)
 have HO3 := Lib.hid ((hu3.block _ (lt_of_heap HO2.out) (by omega)).trans HO2.out)
 have HCP : RowKit.Hid (Calls Tryz.prog 20 #[.agg #[.int .u64 B.epoch, .bool B.large, .slice a' m c]] w3 (CopyAns w3 ⟨B.epoch, B.large, l0⟩)) := Lib.hid (by
  rw [HM.out, hl0]
  exact copied_any (B := ⟨B.epoch, B.large, B.sets.take 49⟩) w3 (HSIN.out.kept HU3.out) (fun x hx => HBB.out x (List.mem_of_mem_take hx)) (by simp; omega))
 have HL0 := Lib.hid hl0
 have HM0 : RowKit.Hid (m = l0.length) := Lib.hid (by rw [hl0]; exact HM.out)
 clear hw3 hu3 hb3 hl0 HU2 HB2 HR2 HO2 HSIN hsl HM
 go_wp2_with (go_at_call 20; fail)
 refine HCP.out.mono ?_
 rintro e w4 ⟨la, lc, rfl, ⟨C, hrow, hrc, hc4⟩, hcap, hu4⟩
 obtain ⟨n4, hn4⟩ : ∃ n4, n4 = l0.length := ⟨_, rfl⟩
 unfold batchV
 simp only []
 simp only [] at hrow hcap
 rw [← hn4] at hrow hcap ⊢
 have HN4 := Lib.hid hn4
 have HB4 := Lib.hid ((hu4.block _ (lt_of_heap HB3.out) (fun e => e)).trans HB3.out)
 have HG4 := Lib.hid ((hu4.block _ (lt_of_heap HG3.out) (fun e => e)).trans HG3.out)
 have HR4 := Lib.hid ((hu4.block _ (lt_of_heap HR3.out) (fun e => e)).trans HR3.out)
 have HO4 := Lib.hid ((hu4.block _ (lt_of_heap HO3.out) (fun e => e)).trans HO3.out)
 have HU4 := Lib.hid (HU3.out.trans hu4)
 have HSZ := Lib.hid (lt_of_heap HB3.out)
 have HROW := Lib.hid hrow; have HRC := Lib.hid hrc; have HC4 := Lib.hid hc4; have HCAP := Lib.hid hcap
 clear hn4 hrow hrc hc4 hcap hu4 HCP HB3 HR3 HO3 HU3 y0 y1 y2
 go_step
 refine wpList_store_mid rfl 56 (.tmp 5) (.tmp 21) rfl (w.heap.size + 3) 0 #[.int .u64 B.epoch, .bool B.large, .slice la n4 lc] rfl rfl (by have q := there_block HB4.out; exact q) size56 (by simp [Value.oneCell']) ?_
 have hb5 := heap_setCells_whole (vs := [.int .u64 B.epoch, .bool B.large, .slice la n4 lc]) HB4.out rfl
 have hu5 := Upd.setCells (F := fun k => k = w.heap.size + 3) (b := w.heap.size + 3) rfl [.int .u64 B.epoch, .bool B.large, .slice la n4 lc] 0 (Upd.refl _ w4)
 obtain ⟨w5, hw5⟩ : ∃ w5, w5 = w4.setCells (w.heap.size + 3) 0 [.int .u64 B.epoch, .bool B.large, .slice la n4 lc] := ⟨_, rfl⟩
 rw [← hw5] at hb5 hu5
 rw [show #[Value.int .u64 B.epoch, .bool B.large, .slice la n4 lc].toList = [.int .u64 B.epoch, .bool B.large, .slice la n4 lc] from rfl, ← hw5]
 obtain ⟨opc, hopc⟩ : ∃ opc, opc = #[Value.int .i64 kd, .int .i64 on, .int .u64 B.epoch, .bool B.large, .slice a n c, .slice ra rn rc, .slice ka kn kc] := ⟨_, rfl⟩
 obtain ⟨base, hbase⟩ : ∃ base, base = w3.heap.size := ⟨_, rfl⟩
 obtain ⟨M, hM⟩ : ∃ M, M = l0.mapIdx (rightV l R) := ⟨_, rfl⟩
 have HMM2 := Lib.hid hM
 have hd : BrAt w base B.epoch B.large opc #[.int .u64 e0, .slice pa pn pc] C la lc l0 w5 := by
  have e5 : #[Value.int .u64 B.epoch, .bool B.large, .slice la n4 lc] = #[Value.int .u64 B.epoch, .bool B.large, .slice la l0.length lc] := by rw [HN4.out]
  refine ⟨by rw [← HN4.out]; exact hb5, (hu5.block _ (lt_of_heap HR4.out) (by omega)).trans HR4.out, by rw [hopc]; exact (hu5.block _ (lt_of_heap HO4.out) (by omega)).trans HO4.out, ?_, HRC.out.kept hu5 (fun k hk e => by have := HC4.out k hk; have := HSZ.out; omega), HU4.out.step hu5 (fun k hk e => by omega), (hu5.block _ (lt_of_heap HG4.out) (by omega)).trans HG4.out, fun k hk => by rw [hbase]; exact HC4.out k hk⟩
  rw [← HN4.out, hbase]
  refine HROW.out.kept hu5 (fun k hk e => ?_) (fun k hk e => by have := HC4.out k hk; have := HSZ.out; omega)
  obtain ⟨L, _, q, _⟩ := HROW.out
  have := (q.lt k hk).1
  have := HSZ.out
  omega
 have HD := Lib.hid hd
 have HBS : RowKit.Hid (w.heap.size + 3 < base) := Lib.hid (by rw [hbase]; exact HSZ.out)
 have HOPC := Lib.hid hopc
 have HBB0 : RowKit.Hid (∀ x ∈ l0, x.name.size ≤ 140737488351232) := Lib.hid (fun x hx => by
  obtain ⟨L, _, _, _, q⟩ := HROW.out
  exact (q x hx).1)
 obtain ⟨y0, y1, y2⟩ := cells3_of hb5
 clear hM hb5 hu5 hw5 hopc hbase hd HB4 HR4 HO4 HU4 HSZ HROW HRC HC4 HBB
 go_upto_region 5 with fail
 have hnle : n4 ≤ 49 := by rw [HN4.out, HL0.out]; simp; omega
 go_loopg [25] n4 (fun gk i wr => ∃ (k : Nat) (la : Option Addr) (C : Nat → Prop), k ≤ n4 ∧ gk = n4 - k ∧ i = .int .i64 k ∧ BrAt w base B.epoch B.large opc #[.int .u64 e0, .slice pa pn pc] C la lc (M.take k ++ l0.drop k) wr)
 case atStart => exact ⟨0, la, C, Nat.zero_le _, rfl, rfl, by simpa using HD.out⟩
 case round =>
  clear HD
  obtain ⟨k, la, C, hk, rfl, rfl, hd⟩ := hrel
  have HD := Lib.hid hd
  clear hd
  have hMl : M.length = l0.length := by rw [HMM2.out]; simp
  have hlen : (M.take k ++ l0.drop k).length = n4 := by simp only [List.length_append, List.length_take, List.length_drop, hMl]; have := HN4.out; omega
  by_cases hkn : k < n4
  ·have hkni : (k : Int) < n4 := by omega
   have hkl : k < l0.length := by have := HN4.out; omega
   have hx : (M.take k ++ l0.drop k)[k]? = some l0[k] := take_drop_at hMl hkl
   obtain ⟨x, hxx⟩ : ∃ x, x = l0[k] := ⟨_, rfl⟩
   rw [← hxx] at hx
   have hMk : M[k]? = some (rightV l R k x) := by rw [HMM2.out, List.getElem?_mapIdx, List.getElem?_eq_getElem hkl, hxx]; rfl
   have hset : (M.take k ++ l0.drop k).set k (rightV l R k x) = M.take (k + 1) ++ l0.drop (k + 1) := take_drop_set hMl hMk
   have HSET := Lib.hid hset; have HX := Lib.hid hx
   obtain ⟨lk, hlk⟩ : ∃ lk, lk = M.take k ++ l0.drop k := ⟨_, rfl⟩
   rw [← hlk] at HD hlen HSET HX
   have hxin := List.mem_of_getElem? HX.out
   obtain ⟨L, hLm, hLo, hLb, hLf⟩ := HD.out.row
   have hfx := hLf x hxin
   have hx' := HX.out
   rw [← hLm] at hx'
   simp only [List.getElem?_map, Option.map_eq_some_iff] at hx'
   obtain ⟨y, hy, hyx⟩ := hx'
   obtain ⟨b1, b2⟩ := hLb y (List.mem_of_getElem? hy)
   obtain ⟨g, hg⟩ : ∃ g, la = some ⟨g, 0, none⟩ := by
    rcases hLo.2 with ⟨_, e⟩ | ⟨g, cap, cur, e, _⟩
    ·omega
    ·injection e with e; exact ⟨g, e⟩
   subst hg
   have hcell : ∀ j, j < 5 → wr.cell? ⟨g, k * 5 + j, none⟩ = (elC y)[j]? := fun j hj => by
    have := World.ownsRow.cells hLo rfl (k * 5 + j) ((elC y)[j]'(by rw [elC_length]; exact hj)) (by rw [flat_at L k j y hy hj, List.getElem?_eq_getElem])
    rw [Addr.add_mid, Nat.zero_add] at this
    rw [this, List.getElem?_eq_getElem]
   obtain ⟨oa, oc, eo, ho1, ho2⟩ := b1.slice
   obtain ⟨na, nc, en, hn1, hn2⟩ := b2.slice
   obtain ⟨m0, hm0⟩ : ∃ m0, m0 = min x.name.size 40 := ⟨_, rfl⟩
   obtain ⟨m1, hm1⟩ : ∃ m1, m1 = min x.old.length 3001 := ⟨_, rfl⟩
   obtain ⟨m2, hm2⟩ : ∃ m2, m2 = min x.new.length 3001 := ⟨_, rfl⟩
   obtain ⟨u1, hs1, hu1⟩ := b1.head (n := m1) (by rw [hyx]; omega)
   obtain ⟨u2, hs2, hu2⟩ := b2.head (n := m2) (by rw [hyx]; omega)
   obtain ⟨ua, uc, eu, _, _⟩ := hu1.slice
   obtain ⟨va, vc, ev, _, _⟩ := hu2.slice
   have hl1 : (y.1.old.take m1).length = m1 := by simp only [List.length_take, hyx]; omega
   have hl2 : (y.1.new.take m2).length = m2 := by simp only [List.length_take, hyx]; omega
   rw [hl1] at eu; rw [hl2] at ev
   have q0 := hcell 0 (by omega); have q3 := hcell 3 (by omega); have q4 := hcell 4 (by omega)
   rw [hyx] at hu1 hu2 eo en
   subst eu ev
   rw [eo] at hs1; rw [en] at hs2
   simp only [elC, hyx, eo, en] at q0 q3 q4
   have hmn0 : min (x.name.size : Int) 40 = (m0 : Int) := by omega
   have hmn1 : min (x.old.length : Int) 3001 = (m1 : Int) := by omega
   have hmn2 : min (x.new.length : Int) 3001 = (m2 : Int) := by omega
   have hm0le : (m0 : Int) ≤ x.name.size := by omega
   have fr0 : ∀ j, wr.frozen? ⟨g, j, none⟩ = false := fun j => World.ownsRow.frozenAt hLo j
   have f0 := fr0 (k * 5); have f3 := fr0 (k * 5 + 3); have f4 := fr0 (k * 5 + 4)
   have hA : wr.drew.cell? ⟨g, k * 5, none⟩ = some (.string x.name) ∧ wr.drew.cell? ⟨g, k * 5 + 3, none⟩ = some (.slice oa x.old.length oc) ∧ wr.drew.cell? ⟨g, k * 5 + 4, none⟩ = some (.slice na x.new.length nc) := ⟨by simpa using q0, by simpa using q3, by simpa using q4⟩
   have hxx' : x = l0[k] := hxx
   have HU1 := Lib.hid hu1; have HU2 := Lib.hid hu2; have HFX := Lib.hid hfx
   have HM0' := Lib.hid hm0; have HM1' := Lib.hid hm1; have HM2' := Lib.hid hm2; have HCE := Lib.hid hlk
   have y2 := (cells3_of HD.out.out).2.2
   rw [hlen] at y2
   have HFR := Lib.hid fr0
   clear hLm hLo hLb hLf hfx hy hyx b1 b2 hcell eo en ho1 ho2 hn1 hn2 hu1 hu2 hm0 hm1 hm2 hxx hxx' hlk hset hx hxin hMk hMl hl1 hl2 q0 q3 q4 f0 f3 f4 fr0
   go_upto_region 8 with fail
   have hud : Upd (fun _ => False) wr wr.drew := (Upd.refl _ wr).drew
   have HUD := Lib.hid hud
   have HROWL : RowKit.Hid (SetRow wr.drew base C (.slice (some ⟨g, 0, none⟩) lk.length lc) lk) := Lib.hid (HD.out.row.kept hud (fun _ _ e => e) (fun _ _ e => e))
   have HRCD := Lib.hid (HD.out.rows.kept hud (fun _ _ e => e))
   have HU1 := Lib.hid (HU1.out.kept hud (fun _ _ e => e)); have HU2 := Lib.hid (HU2.out.kept hud (fun _ _ e => e))
   have HFR : RowKit.Hid (∀ j, wr.drew.frozen? ⟨g, j, none⟩ = false) := Lib.hid (fun j => by
    obtain ⟨_, _, q, _⟩ := HROWL.out
    exact World.ownsRow.frozenAt q j)
   clear hud
   refine wp_region_G 38 (fun W => W.cell? ⟨g, k * 5, none⟩ = some (.string x.name) ∧ W.cell? ⟨g, k * 5 + 3, none⟩ = some (.slice oa x.old.length oc) ∧ W.cell? ⟨g, k * 5 + 4, none⟩ = some (.slice na x.new.length nc)) [false, false, false, false, false, false, false, false, false, false, false, false, false, false, false, false, false, false, false, false, false, false, false, false, false, false, false, false, false, false, false, false, false, false, false, false, false, false, false, false, false, false, false, false, false] rfl (by kernel_rfl) ?_
   generalize wr.drew = wd at hA HROWL HRCD HU1 HU2 HFR HUD ⊢
   refine wpG_tq 0 (.pointer (some ⟨g, k * 5, none⟩)) [] rfl (by kernel_rfl) (fun _ _ _ h => h) hA rfl (fun w5 q1 => ?_) ?_
   ·go_simp
   simp only [Act.put, List.setIfInBounds_toArray, List.set]
   refine wpG_takeP (i := 1) (v := .pointer (some ⟨g, k * 5, none⟩)) rfl (by kernel_rfl) (fun _ _ _ h => h) hA (.inl ⟨rfl, fun w5 q1 => ?_⟩) ?_
   ·go_simp
   simp only [Act.put, List.setIfInBounds_toArray, List.set]
   refine wpG_takeP (i := 2) (v := .pointer (some ⟨g, k * 5, none⟩)) rfl (by kernel_rfl) (fun _ _ _ h => h) hA (.inl ⟨rfl, fun w5 q1 => ?_⟩) ?_
   ·go_simp
   simp only [Act.put, List.setIfInBounds_toArray, List.set]
   refine wpG_tq 3 (.pointer (some ⟨g, k * 5, none⟩)) [] rfl (by kernel_rfl) (fun _ _ _ h => h) hA rfl (fun w5 q1 => ?_) ?_
   ·go_simp
   simp only [Act.put, List.setIfInBounds_toArray, List.set]
   refine wpG_tq 4 (.pointer (some ⟨g, k * 5, none⟩)) [] rfl (by kernel_rfl) (fun _ _ _ h => h) hA rfl (fun w5 q1 => ?_) ?_
   ·go_simp
   simp only [Act.put, List.setIfInBounds_toArray, List.set]
   refine wpG_tq 5 (.pointer (some ⟨g, k * 5, none⟩)) [] rfl (by kernel_rfl) (fun _ _ _ h => h) hA rfl (fun w5 q1 => ?_) ?_
   ·go_simp
   simp only [Act.put, List.setIfInBounds_toArray, List.set]
   refine wpG_tq 6 (.string x.name) [] rfl (by kernel_rfl) (fun _ _ _ h => h) hA rfl (fun w5 q1 => ?_) ?_
   ·obtain ⟨c0, c1, c2⟩ := q1
    go_simp
   simp only [Act.put, List.setIfInBounds_toArray, List.set]
   refine wpG_tq 7 (.pointer (some ⟨g, k * 5, none⟩)) [] rfl (by kernel_rfl) (fun _ _ _ h => h) hA rfl (fun w5 q1 => ?_) ?_
   ·go_simp
   simp only [Act.put, List.setIfInBounds_toArray, List.set]
   refine wpG_tq 8 (.pointer (some ⟨g, k * 5, none⟩)) [] rfl (by kernel_rfl) (fun _ _ _ h => h) hA rfl (fun w5 q1 => ?_) ?_
   ·go_simp
   simp only [Act.put, List.setIfInBounds_toArray, List.set]
   refine wpG_tq 9 (.pointer (some ⟨g, k * 5, none⟩)) [] rfl (by kernel_rfl) (fun _ _ _ h => h) hA rfl (fun w5 q1 => ?_) ?_
   ·go_simp
   simp only [Act.put, List.setIfInBounds_toArray, List.set]
   refine wpG_tq 10 (.string x.name) [] rfl (by kernel_rfl) (fun _ _ _ h => h) hA rfl (fun w5 q1 => ?_) ?_
   ·obtain ⟨c0, c1, c2⟩ := q1
    go_simp
   simp only [Act.put, List.setIfInBounds_toArray, List.set]
   refine wpG_tq 11 (.int .i64 x.name.size) [] rfl (by kernel_rfl) (fun _ _ _ h => h) hA rfl (fun w5 q1 => ?_) ?_
   ·go_simp
   simp only [Act.put, List.setIfInBounds_toArray, List.set]
   refine wpG_tq 12 (.int .i64 m0) [] rfl (by kernel_rfl) (fun _ _ _ h => h) hA rfl (fun w5 q1 => ?_) ?_
   ·go_simp
   simp only [Act.put, List.setIfInBounds_toArray, List.set]
   refine wpG_tq 13 (.string (x.name.extract 0 m0)) [] rfl (by kernel_rfl) (fun _ _ _ h => h) hA rfl (fun w5 q1 => ?_) ?_
   ·go_simp
   simp only [Act.put, List.setIfInBounds_toArray, List.set]
   refine wpG_tq 14 (.pointer (some ⟨g, k * 5, none⟩)) [17, 16, 15] rfl (by kernel_rfl) (fun _ _ _ h => h) hA rfl (fun w5 q1 => ?_) ?_
   ·go_simp
   simp only [Act.put, List.setIfInBounds_toArray, List.set]
   refine wpG_tq 15 (.pointer (some ⟨g, k * 5, none⟩)) [17, 16] rfl (by kernel_rfl) (fun _ _ _ h => h) hA rfl (fun w5 q1 => ?_) ?_
   ·go_simp
   simp only [Act.put, List.setIfInBounds_toArray, List.set]
   refine wpG_tq 16 (.pointer (some ⟨g, k * 5 + 3, none⟩)) [17] rfl (by kernel_rfl) (fun _ _ _ h => h) hA rfl (fun w5 q1 => ?_) ?_
   ·go_simp
   simp only [Act.put, List.setIfInBounds_toArray, List.set]
   refine wpG_tq 17 (.slice oa x.old.length oc) [] rfl (by kernel_rfl) (fun _ _ _ h => h) hA rfl (fun w5 q1 => ?_) ?_
   ·obtain ⟨c0, c1, c2⟩ := q1
    go_simp
   simp only [Act.put, List.setIfInBounds_toArray, List.set]
   refine wpG_tq 18 (.pointer (some ⟨g, k * 5, none⟩)) [21, 20, 19] rfl (by kernel_rfl) (fun _ _ _ h => h) hA rfl (fun w5 q1 => ?_) ?_
   ·go_simp
   simp only [Act.put, List.setIfInBounds_toArray, List.set]
   refine wpG_tq 19 (.pointer (some ⟨g, k * 5, none⟩)) [21, 20] rfl (by kernel_rfl) (fun _ _ _ h => h) hA rfl (fun w5 q1 => ?_) ?_
   ·go_simp
   simp only [Act.put, List.setIfInBounds_toArray, List.set]
   refine wpG_tq 20 (.pointer (some ⟨g, k * 5 + 3, none⟩)) [21] rfl (by kernel_rfl) (fun _ _ _ h => h) hA rfl (fun w5 q1 => ?_) ?_
   ·go_simp
   simp only [Act.put, List.setIfInBounds_toArray, List.set]
   refine wpG_tq 21 (.slice oa x.old.length oc) [] rfl (by kernel_rfl) (fun _ _ _ h => h) hA rfl (fun w5 q1 => ?_) ?_
   ·obtain ⟨c0, c1, c2⟩ := q1
    go_simp
   simp only [Act.put, List.setIfInBounds_toArray, List.set]
   refine wpG_takeP (i := 22) (v := .int .i64 x.old.length) rfl (by kernel_rfl) (fun _ _ _ h => h) hA (.inl ⟨rfl, fun w5 q1 => ?_⟩) ?_
   ·go_simp
   simp only [Act.put, List.setIfInBounds_toArray, List.set]
   refine wpG_takeP (i := 23) (v := .int .i64 m1) rfl (by kernel_rfl) (fun _ _ _ h => h) hA (.inl ⟨rfl, fun w5 q1 => ?_⟩) ?_
   ·go_simp
   simp only [Act.put, List.setIfInBounds_toArray, List.set]
   refine wpG_takeP (i := 24) (v := .slice ua m1 uc) rfl (by kernel_rfl) (fun _ _ _ h => h) hA (.inl ⟨rfl, fun w5 q1 => ?_⟩) ?_
   ·go_simp
   simp only [Act.put, List.setIfInBounds_toArray, List.set]
   refine wpG_tq 25 (.pointer (some ⟨g, k * 5, none⟩)) [28, 27, 26] rfl (by kernel_rfl) (fun _ _ _ h => h) hA rfl (fun w5 q1 => ?_) ?_
   ·go_simp
   simp only [Act.put, List.setIfInBounds_toArray, List.set]
   refine wpG_tq 26 (.pointer (some ⟨g, k * 5, none⟩)) [28, 27] rfl (by kernel_rfl) (fun _ _ _ h => h) hA rfl (fun w5 q1 => ?_) ?_
   ·go_simp
   simp only [Act.put, List.setIfInBounds_toArray, List.set]
   refine wpG_tq 27 (.pointer (some ⟨g, k * 5 + 4, none⟩)) [28] rfl (by kernel_rfl) (fun _ _ _ h => h) hA rfl (fun w5 q1 => ?_) ?_
   ·go_simp
   simp only [Act.put, List.setIfInBounds_toArray, List.set]
   refine wpG_tq 28 (.slice na x.new.length nc) [] rfl (by kernel_rfl) (fun _ _ _ h => h) hA rfl (fun w5 q1 => ?_) ?_
   ·obtain ⟨c0, c1, c2⟩ := q1
    go_simp
   simp only [Act.put, List.setIfInBounds_toArray, List.set]
   refine wpG_tq 29 (.pointer (some ⟨g, k * 5, none⟩)) [32, 31, 30] rfl (by kernel_rfl) (fun _ _ _ h => h) hA rfl (fun w5 q1 => ?_) ?_
   ·go_simp
   simp only [Act.put, List.setIfInBounds_toArray, List.set]
   refine wpG_tq 30 (.pointer (some ⟨g, k * 5, none⟩)) [32, 31] rfl (by kernel_rfl) (fun _ _ _ h => h) hA rfl (fun w5 q1 => ?_) ?_
   ·go_simp
   simp only [Act.put, List.setIfInBounds_toArray, List.set]
   refine wpG_tq 31 (.pointer (some ⟨g, k * 5 + 4, none⟩)) [32] rfl (by kernel_rfl) (fun _ _ _ h => h) hA rfl (fun w5 q1 => ?_) ?_
   ·go_simp
   simp only [Act.put, List.setIfInBounds_toArray, List.set]
   refine wpG_tq 32 (.slice na x.new.length nc) [] rfl (by kernel_rfl) (fun _ _ _ h => h) hA rfl (fun w5 q1 => ?_) ?_
   ·obtain ⟨c0, c1, c2⟩ := q1
    go_simp
   simp only [Act.put, List.setIfInBounds_toArray, List.set]
   refine wpG_takeP (i := 33) (v := .int .i64 x.new.length) rfl (by kernel_rfl) (fun _ _ _ h => h) hA (.inl ⟨rfl, fun w5 q1 => ?_⟩) ?_
   ·go_simp
   simp only [Act.put, List.setIfInBounds_toArray, List.set]
   refine wpG_takeP (i := 34) (v := .int .i64 m2) rfl (by kernel_rfl) (fun _ _ _ h => h) hA (.inl ⟨rfl, fun w5 q1 => ?_⟩) ?_
   ·go_simp
   simp only [Act.put, List.setIfInBounds_toArray, List.set]
   refine wpG_takeP (i := 35) (v := .slice va m2 vc) rfl (by kernel_rfl) (fun _ _ _ h => h) hA (.inl ⟨rfl, fun w5 q1 => ?_⟩) ?_
   ·go_simp
   simp only [Act.put, List.setIfInBounds_toArray, List.set]
   refine wpG_tq 36 (.pointer (some ⟨g, k * 5, none⟩)) [37] rfl (by kernel_rfl) (fun _ _ _ h => h) hA rfl (fun w5 q1 => ?_) ?_
   ·go_simp
   simp only [Act.put, List.setIfInBounds_toArray, List.set]
   refine wpG_tq 37 (.pointer (some ⟨g, k * 5, none⟩)) [] rfl (by kernel_rfl) (fun _ _ _ h => h) hA rfl (fun w5 q1 => ?_) ?_
   ·go_simp
   simp only [Act.put, List.setIfInBounds_toArray, List.set]
   refine wpG_tail_lit (k := 38) rfl rfl (by kernel_rfl) ?_
   simp only [List.drop]
   have f0 := HFR.out (k * 5); have f3 := HFR.out (k * 5 + 3); have f4 := HFR.out (k * 5 + 4)
   obtain ⟨c0, c3, c4⟩ := hA
   go_upto_region 9 with fail
   obtain ⟨x', hx'⟩ : ∃ x', x' = clipV x := ⟨_, rfl⟩
   have hnm : x'.name = x.name.extract 0 m0 := by rw [hx', HM0'.out]; rfl
   have hold : x'.old = x.old.take m1 := by
    rw [hx', HM1'.out]
    simp only [clipV]
    rw [Nat.min_comm]
    rcases Nat.le_total 3001 x.old.length with h | h
    ·rw [Nat.min_eq_left h]
    ·rw [Nat.min_eq_right h, List.take_of_length_le h, List.take_of_length_le (Nat.le_refl _)]
   have hnew : x'.new = x.new.take m2 := by
    rw [hx', HM2'.out]
    simp only [clipV]
    rw [Nat.min_comm]
    rcases Nat.le_total 3001 x.new.length with h | h
    ·rw [Nat.min_eq_left h]
    ·rw [Nat.min_eq_right h, List.take_of_length_le h, List.take_of_length_le (Nat.le_refl _)]
   have hxf : x'.fine := by
    obtain ⟨p1, p2, p3, p4, p5⟩ := HFX.out
    refine ⟨?_, by rw [hold, List.length_take]; omega, by rw [hnew, List.length_take]; omega, by rw [hold]; exact fun z hz => p4 z (List.mem_of_mem_take hz), by rw [hnew]; exact fun z hz => p5 z (List.mem_of_mem_take hz)⟩
    rw [hnm, ByteArray.size_extract]
    omega
   have hp := SetRow.put (x' := x') (v := .slice ua m1 uc) (u := .slice va m2 vc) HROWL.out HRCD.out HX.out (by rw [hx']; rfl) (by rw [hx']; rfl) (by rw [hold]; exact HU1.out) (by rw [hnew]; exact HU2.out) hxf
   rw [hnm, hx'] at hp
   obtain ⟨w9, hw9⟩ : ∃ w9, w9 = ((wd.setCell ⟨g, k * 5, none⟩ (.string (x.name.extract 0 m0))).setCell ⟨g, k * 5 + 3, none⟩ (.slice ua m1 uc)).setCell ⟨g, k * 5 + 4, none⟩ (.slice va m2 vc) := ⟨_, rfl⟩
   rw [← hw9] at hp ⊢
   obtain ⟨hp1, hp2⟩ := hp
   have hgb : base ≤ g := by
    obtain ⟨_, _, q, _⟩ := HROWL.out
    exact (q.lt g rfl).1
   have hlen2 : (lk.set k (clipV x)).length = lk.length := List.length_set
   have hgw : w.heap.size + 3 < g := by have := HBS.out; omega
   have hup := HUD.out
   have hd9 : BrAt w base B.epoch B.large opc #[.int .u64 e0, .slice pa pn pc] C (some ⟨g, 0, none⟩) lc (lk.set k (clipV x)) w9 := by
    have kk : ∀ (b : Nat) o, b ≠ g → wr.heap[b]? = some o → w9.heap[b]? = some o := fun b o hb h => by
     have h1 := (hup.block _ (lt_of_heap h) (fun e => e)).trans h
     exact (hp2.block _ (lt_of_heap h1) hb).trans h1
    refine ⟨by rw [hlen2]; exact kk _ _ (by omega) HD.out.out, kk _ _ (by omega) HD.out.res, kk _ _ (by omega) HD.out.op, by rw [hlen2]; exact hp1, HRCD.out.kept hp2 (fun j hj e => HROWL.out.apart HRCD.out j hj (by rw [e]; rfl)), (HD.out.upd.trans hup).step hp2 (fun j hj e => by omega), kk _ _ (by omega) HD.out.reg, HD.out.low⟩
   have HD9 := Lib.hid hd9
   have c5 : w9.cell? ⟨w.heap.size, 5, none⟩ = some (.slice ra rn rc) := by
    have := hd9.op
    rw [HOPC.out] at this
    rw [cell_of_heap this]
    rfl
   have y2 := (cells3_of hd9.out).2.2
   rw [hlen2, hlen] at y2
   have hk0 : ¬ ((k : Int) < 0) := by omega
   have hcv2 : IntKind.i64.wrap ((k : Int) + 1) = (k : Int) + 1 := by rw [IntKind.wrap_i64]; omega
   have HLK := Lib.hid hlen
   clear hw9 hp1 hp2 hgb hlen2 hgw hup hd9 hold hnew hxf hnm hx' c0 c3 c4 f0 f3 f4 HD HRCD HROWL hlen
   have fin : RowKit.Hid (rightV l R k x = clipV x → BrAt w base B.epoch B.large opc #[.int .u64 e0, .slice pa pn pc] C (some ⟨g, 0, none⟩) lc (M.take (k + 1) ++ l0.drop (k + 1)) w9) := Lib.hid (fun e => by
    rw [← HSET.out, e]
    exact HD9.out)
   by_cases hkr : k < rn
   ·obtain ⟨b, hb⟩ : ∃ b, R[k]? = some b := ⟨_, List.getElem?_eq_getElem (by have := HRN.out; omega)⟩
    obtain ⟨kb, ko, rfl, hkb, hcb⟩ := HRB.out k b hb
    have cb := cell_keptF HD9.out.upd (show ¬ (fun _ => False) kb from fun e => e) hcb
    have hkri : (k : Int) < rn := by omega
    have HBK := Lib.hid hb
    clear hcb hb hkb
    cases b with
    |false =>
     have hno : rightV l R k x = clipV x := if_neg (by rw [HBK.out]; simp)
     have HNO := Lib.hid (fin.out hno)
     clear hno
     go_wp2
     go_roundg (n4 - (k + 1))
     case measure => omega
     case rel => exact ⟨k + 1, _, C, by omega, rfl, congrArg _ (by omega), HNO.out⟩
    |true =>
     go_upto_region 10 with fail
     have hrv : rightV l R k x = ⟨(clipV x).name, (l.get (clipV x).name).isSome, x.is, (l.get (clipV x).name).getD [], (clipV x).new⟩ := if_pos HBK.out
     have hkl2 : k < (lk.set k (clipV x)).length := by rw [List.length_set]; have := HLK.out; omega
     have hgetlk : (lk.set k (clipV x))[k]? = some (clipV x) := by rw [List.getElem?_set_self (by rw [List.length_set] at hkl2; exact hkl2)]
     obtain ⟨_, _, _, gb, gq, eg, _, oa, oc, na, nc, q0, _⟩ := HD9.out.row.setsAt k (clipV x) hgetlk
     injection eg with eg
     injection eg with eg1 eg2
     subst eg1 eg2
     rw [Nat.zero_add] at q0
     have q9 : w9.cell? ⟨w.heap.size + 1, 1, none⟩ = some (.slice pa pn pc) := by rw [cell_of_heap HD9.out.reg]; rfl
     have HRV := Lib.hid hrv; have HGL := Lib.hid hgetlk
     have hud2 : Upd (fun _ => False) w9 w9.drew := (Upd.refl _ w9).drew
     have HUD2 := Lib.hid hud2
     have HDD : RowKit.Hid (BrAt w base B.epoch B.large opc #[.int .u64 e0, .slice pa pn pc] C (some ⟨g, 0, none⟩) lc (lk.set k (clipV x)) w9.drew) := Lib.hid (HD9.out.kept0 hud2)
     have HVD : RowKit.Hid (Calls Tryz.prog 32 #[.slice pa pn pc, .string (clipV x).name] w9.drew _) := Lib.hid (by rw [HPN.out]; exact get_val (s := (clipV x).name) w9.drew (HV.out.kept0 (HD9.out.upd.trans hud2)) (by have := HF.out.len; omega))
     have HFR2 : RowKit.Hid (∀ j, w9.drew.frozen? ⟨g, j, none⟩ = false) := Lib.hid (fun j => by
      obtain ⟨_, _, q, _⟩ := HDD.out.row
      exact World.ownsRow.frozenAt q j)
     have hA : w9.drew.cell? ⟨w.heap.size + 1, 1, none⟩ = some (.slice pa pn pc) ∧ w9.drew.cell? ⟨g, k * 5, none⟩ = some (.string (clipV x).name) := ⟨by simpa using q9, by simpa using q0⟩
     obtain ⟨nm, hnm⟩ : ∃ nm, nm = (clipV x).name := ⟨_, rfl⟩
     clear hrv hgetlk q0 q9 hud2 hkl2 fin
     refine wp_region_G 10 (fun W => W.cell? ⟨w.heap.size + 1, 1, none⟩ = some (.slice pa pn pc) ∧ W.cell? ⟨g, k * 5, none⟩ = some (.string (clipV x).name)) [false, false, false, false, false, false, false, false, false, false, false, false] rfl (by kernel_rfl) ?_
     generalize w9.drew = wd2 at hA HDD HUD2 HVD HFR2 ⊢
     refine wpG_tq 0 (.pointer (some ⟨w.heap.size + 1, 1, none⟩)) [] rfl (by kernel_rfl) (fun _ _ _ h => h) hA rfl (fun w5 q1 => ?_) ?_
     ·go_simp
     simp only [Act.put, List.setIfInBounds_toArray, List.set]
     refine wpG_tq 1 (.slice pa pn pc) [] rfl (by kernel_rfl) (fun _ _ _ h => h) hA rfl (fun w5 q1 => ?_) ?_
     ·obtain ⟨c0, c1⟩ := q1
      go_simp
     simp only [Act.put, List.setIfInBounds_toArray, List.set]
     refine wpG_tq 2 (.pointer (some ⟨g, k * 5, none⟩)) [] rfl (by kernel_rfl) (fun _ _ _ h => h) hA rfl (fun w5 q1 => ?_) ?_
     ·go_simp
     simp only [Act.put, List.setIfInBounds_toArray, List.set]
     refine wpG_tq 3 (.pointer (some ⟨g, k * 5, none⟩)) [] rfl (by kernel_rfl) (fun _ _ _ h => h) hA rfl (fun w5 q1 => ?_) ?_
     ·go_simp
     simp only [Act.put, List.setIfInBounds_toArray, List.set]
     refine wpG_tq 4 (.pointer (some ⟨g, k * 5, none⟩)) [] rfl (by kernel_rfl) (fun _ _ _ h => h) hA rfl (fun w5 q1 => ?_) ?_
     ·go_simp
     simp only [Act.put, List.setIfInBounds_toArray, List.set]
     refine wpG_tq 5 (.string (clipV x).name) [] rfl (by kernel_rfl) (fun _ _ _ h => h) hA rfl (fun w5 q1 => ?_) ?_
     ·obtain ⟨c0, c1⟩ := q1
      go_simp
     simp only [Act.put, List.setIfInBounds_toArray, List.set]
     refine wpG_doIf (i := 6) rfl (by kernel_rfl) rfl (fun K hK => ?_)
     have HKK := Lib.hid hK
     clear hK
     go_step
     refine (HVD.out).mono ?_
     rintro e w10 ⟨v, rfl, g1, g2⟩
     obtain ⟨ua, um, uc, rfl⟩ := g1.slice'

     have hA2 : w10.cell? ⟨w.heap.size + 1, 1, none⟩ = some (.slice pa pn pc) ∧ w10.cell? ⟨g, k * 5, none⟩ = some (.string (clipV x).name) := ⟨cell_keptF g2 (fun e => e) hA.1, cell_keptF g2 (fun e => e) hA.2⟩
     have HG1 := Lib.hid g1; have HG2 := Lib.hid g2
     clear g1 g2
     simp only []
     refine HKK.out _ _ hA2 ?_
     clear HKK
     simp only [Act.put, List.setIfInBounds_toArray, List.set]
     refine wpG_tq 7 (.tuple #[.slice ua um uc, .bool (l.get (clipV x).name).isSome]) [] rfl (by kernel_rfl) (fun _ _ _ h => h) hA2 rfl (fun w5 q1 => ?_) ?_
     ·go_simp
     simp only [Act.put, List.setIfInBounds_toArray, List.set]
     refine wpG_tq 8 (.slice ua um uc) [] rfl (by kernel_rfl) (fun _ _ _ h => h) hA2 rfl (fun w5 q1 => ?_) ?_
     ·go_simp
     simp only [Act.put, List.setIfInBounds_toArray, List.set]
     refine wpG_takeP (i := 9) (v := .bool (l.get (clipV x).name).isSome) rfl (by kernel_rfl) (fun _ _ _ h => h) hA2 (.inl ⟨rfl, fun w5 q1 => ?_⟩) ?_
     ·go_simp
     simp only [Act.put, List.setIfInBounds_toArray, List.set]
     refine wpG_tail_lit (k := 10) rfl rfl (by kernel_rfl) ?_
     simp only [List.drop]
     go_upto_region 11 with fail
     obtain ⟨od, hod⟩ : ∃ od, od = (l.get (clipV x).name).getD [] := ⟨_, rfl⟩
     obtain ⟨bo, hbo⟩ : ∃ bo, bo = (l.get (clipV x).name).isSome := ⟨_, rfl⟩
     have hodf : od.length ≤ 3000 ∧ Bytes od := by
      rw [hod]
      cases e : l.get (clipV x).name with
      |none => exact ⟨by simp, fun y hy => by simp at hy⟩
      |some v =>
       have := HF.out.each _ ((KV.get_some HF.out.rising).1 e)
       exact ⟨this.2.2.1, this.2.2.2⟩
     rw [← hod] at HG1 HRV
     rw [← hbo] at HRV ⊢
     have HODF := Lib.hid hodf
     clear hod hbo hodf hA hA2 hnm
     iterate 16 go_step
     refine wpList_appB (bs := []) (cs := od) rfl (.tmp 99) (.tmp 100) rfl rfl (own_nil w10 (Nat.le_refl _)) rfl (HG1.out.kept ((Upd.refl (fun _ => False) w10).alloc _) (fun _ _ e => e)).bytesIn (by have := HODF.out; simp; omega) (by simp) ?_
     intro v4 w11 k1 k2
     rw [List.nil_append] at k1
     have hu4 : Upd (fun _ => False) w10 w11 := ((Upd.refl (fun _ => False) w10).alloc _).step k2 (fun j hj e => by
      have e' := Option.some.inj e
      simp only at e'
      omega)
     obtain ⟨p1, p2, p3⟩ := k1.bytesAt
     obtain ⟨oa2, oc2, rfl, _⟩ := p1.slice
     have HP1 := Lib.hid p1; have HP2 := Lib.hid p2; have HP3 := Lib.hid p3
     have hd11 := HDD.out.kept0 (HG2.out.trans hu4)
     obtain ⟨_, _, _, gb, gq, eg, _, oa3, oc3, na3, nc3, q0, q1, q2, q3, q4, _⟩ := hd11.row.setsAt k (clipV x) HGL.out
     injection eg with eg
     injection eg with eg1 eg2
     subst eg1 eg2
     rw [Nat.zero_add] at q1 q3
     obtain ⟨_, _, qo, _⟩ := hd11.row
     have f1 := World.ownsRow.frozenAt qo (k * 5 + 1)
     have f3 := World.ownsRow.frozenAt qo (k * 5 + 3)
     have hgb := (qo.lt g rfl).1
     have hz10 : base ≤ w10.heap.size := by
      obtain ⟨_, _, qo9, _⟩ := HDD.out.row
      have h1 := qo9.lt g rfl
      have h2 := HG2.out.size
      omega
     have hfin : BrAt w base B.epoch B.large opc #[.int .u64 e0, .slice pa pn pc] (fun j => C j ∨ (Value.slice oa2 od.length oc2).ownBlock = some j) (some ⟨g, 0, none⟩) lc (M.take (k + 1) ++ l0.drop (k + 1)) ((w11.setCell ⟨g, k * 5 + 1, none⟩ (.bool bo)).setCell ⟨g, k * 5 + 3, none⟩ (.slice oa2 od.length oc2)) := by
      have hrc : RowC w11 (fun j => C j ∨ (Value.slice oa2 od.length oc2).ownBlock = some j) := fun j hj => by
       rcases hj with hj | hj
       ·exact hd11.rows j hj
       ·exact HP2.out j hj
      have hxf : (clipV x).fine := by
       obtain ⟨_, _, _, _, q⟩ := hd11.row
       exact q _ (List.mem_of_getElem? HGL.out)
      have hfx : (⟨(clipV x).name, bo, x.is, od, (clipV x).new⟩ : SetV).fine := ⟨hxf.1, by have := HODF.out.1; show od.length ≤ _; omega, hxf.2.2.1, HODF.out.2, hxf.2.2.2.2⟩
      obtain ⟨r1, r2⟩ := SetRow.put2 (x' := ⟨(clipV x).name, bo, x.is, od, (clipV x).new⟩) (v := .slice oa2 od.length oc2) (hd11.row.more (C' := fun j => C j ∨ (Value.slice oa2 od.length oc2).ownBlock = some j) (fun _ e => .inl e)) hrc HGL.out rfl rfl rfl (HP1.out.mono (fun _ e => .inr e)) hfx
      rw [List.set_set] at r1
      rw [HRV.out] at HSET
      rw [HSET.out] at r1
      have hln : (lk.set k (clipV x)).length = (M.take (k + 1) ++ l0.drop (k + 1)).length := by rw [← HSET.out, List.length_set, List.length_set]
      have hBS := HBS.out
      have kk : ∀ (b : Nat) o, b ≠ g → w11.heap[b]? = some o → ((w11.setCell ⟨g, k * 5 + 1, none⟩ (.bool bo)).setCell ⟨g, k * 5 + 3, none⟩ (.slice oa2 od.length oc2)).heap[b]? = some o := fun b o hb h => (r2.block _ (lt_of_heap h) hb).trans h
      refine ⟨by rw [← hln]; exact kk _ _ (by omega) hd11.out, kk _ _ (by omega) hd11.res, kk _ _ (by omega) hd11.op, by rw [← hln]; exact r1, hrc.kept r2 (fun j hj e => (hd11.row.more (C' := fun j => C j ∨ (Value.slice oa2 od.length oc2).ownBlock = some j) (fun _ e => .inl e)).apart hrc j hj (by rw [e]; rfl)), hd11.upd.step r2 (fun j hj e => by omega), kk _ _ (by omega) hd11.reg, fun j hj => ?_⟩
      rcases hj with hj | hj
      ·exact hd11.low j hj
      ·have := HP3.out j hj
       omega
     have HFIN := Lib.hid hfin
     clear hfin k1 k2 p1 p2 p3 hd11 hu4 qo hgb hz10 HDD HG1 HG2 q0 q2 q4
     go_wp2
     go_roundg (n4 - (k + 1))
     case measure => omega
     case rel => exact ⟨k + 1, _, _, by omega, rfl, congrArg _ (by omega), HFIN.out⟩
   ·have hkri : ¬ (k : Int) < rn := by omega
    have hno : rightV l R k x = clipV x := if_neg (by rw [List.getElem?_eq_none (by have := HRN.out; omega)]; simp)
    have HNO := Lib.hid (fin.out hno)
    clear hno
    go_wp2
    go_roundg (n4 - (k + 1))
    case measure => omega
    case rel => exact ⟨k + 1, _, C, by omega, rfl, congrArg _ (by omega), HNO.out⟩
  ·obtain rfl : k = n4 := by omega
   have hd := HD.out
   have e1 : M.take k ++ l0.drop k = M := by rw [HN4.out, List.drop_length, List.append_nil, ← hMl, List.take_length]
   rw [e1] at hd
   have hll : M.length = k := by rw [hMl, ← HN4.out]
   obtain ⟨h1, h2, h3, h4, h5, h6, h7, h8⟩ := hd
   have HC5 := Lib.hid h8
   rw [hll] at h1 h4
   obtain ⟨y0, y1, y2⟩ := cells3_of h1
   have HRES := Lib.hid h2; have HU := Lib.hid h6; have HROW := Lib.hid h4; have HRC := Lib.hid h5; have HLL := Lib.hid hll
   clear h1 h2 h3 h4 h5 h6 h7 h8 HD e1 hMl hll hlen
   go_upto_region 13 with fail
   iterate 4 go_step
   refine wpList_store_mid rfl 56 (.tmp 4) (.tmp 107) rfl (w.heap.size + 2) 0 #[.int .u64 B.epoch, .bool B.large, .slice la k lc] rfl rfl (by have q := there_block HRES.out; exact q) size56 (by simp [Value.oneCell']) ?_
   have hb2 := heap_setCells_whole (vs := [.int .u64 B.epoch, .bool B.large, .slice la k lc]) HRES.out rfl
   have hu2 := Upd.setCells (F := fun k => k = w.heap.size + 2) (b := w.heap.size + 2) rfl [.int .u64 B.epoch, .bool B.large, .slice la k lc] 0 (Upd.refl _ wr)
   have hl3 := run_loadVar_mid (P := Tryz.prog) (wr.setCells (w.heap.size + 2) 0 [.int .u64 B.epoch, .bool B.large, .slice la k lc]) (w.heap.size + 2) 0 56 [.int .u64 B.epoch, .bool B.large, .slice la k lc] _ (rangeAt_block hb2) Tryz.underlying56 rfl size56
   have HL3 := Lib.hid hl3; have HU2 := Lib.hid hu2
   clear hb2 hu2 hl3
   go_wp2
   refine bodyPost_ret (results_cell1 Tryz.results19 rfl HL3.out) rfl ?_
   have hrow := HROW.out.kept HU2.out (fun j hj e => by
    obtain ⟨L, _, q, _⟩ := HROW.out
    have := (q.lt j hj).1
    have := HBS.out
    omega) (fun j hj e => by have := HC5.out j hj; have := HBS.out; omega)
   have hcr := HRC.out.kept HU2.out (fun j hj e => by have := HC5.out j hj; have := HBS.out; omega)
   have hcl : (batchR l R B).sets = M := by rw [HMM2.out, HL0.out]; rfl
   refine ⟨la, lc, ?_, ⟨C, ?_, hcr, fun j hj => by have := HC5.out j hj; have := HBS.out; omega⟩, ?_, HU.out.step HU2.out (fun j hj e => by omega)⟩
   ·unfold batchV
    rw [hcl, HLL.out]
    rfl
   ·rw [hcl, HLL.out]
    exact hrow.low (by have := HBS.out; omega)
   ·rw [hcl, HLL.out]
    have := HCAP.out
    omega
end Go.Proofs.YtbimkhdiplnbfaaGreat
end

section
namespace Go.Proofs.YtbimkhdiplnbfaaGreat
set_option maxRecDepth 100000
open Go.RowKit Go.Shelf

theorem str_eq {x y : List Int} (hx : Bytes x) (hy : Bytes y) : ((strOfNums x).toList == (strOfNums y).toList) = decide (x = y) := by
 rw [toList_eq]
 by_cases e : x = y
 ·rw [e]; simp
 ·rw [decide_eq_false e, decide_eq_false]
  intro h
  exact e (by rw [← numsOf_strOf hx, h, numsOf_strOf hy])

set_option maxHeartbeats 8000000 in
theorem same_reg {C D : Nat → Prop} {a b : Option Addr} {c d : Nat} {e1 e2 : Int} {l m : KV} (w : World) (h1 : ValsAt w C a l) (h2 : ValsAt w D b m) (hl : l.length ≤ 1000) (hb1 : ∀ p ∈ l, Bytes p.2) (hb2 : ∀ p ∈ m, Bytes p.2) :
  Calls Tryz.prog 33 #[.agg #[.int .u64 e1, .slice a l.length c], .agg #[.int .u64 e2, .slice b m.length d]] w fun e w' => e = .returned (.bool (decide (e1 = e2 ∧ l = m))) ∧ Upd (fun _ => False) w w' := by
 obtain ⟨w1, hw1⟩ : ∃ w1, w1 = (w.alloc (.cells #[.int .u64 e1, .slice a l.length c] 62)).alloc (.cells #[.int .u64 e2, .slice b m.length d] 62) := ⟨_, rfl⟩
 have hu1 : Upd (fun _ => False) w w1 := by rw [hw1]; exact ((Upd.refl _ w).alloc _).alloc _
 have hx1 : w1.heap[w.heap.size]? = some (.cells #[.int .u64 e1, .slice a l.length c] 62 (0, 0)) := by rw [hw1, alloc_lt (by simp)]; exact alloc_at rfl
 have hx2 : w1.heap[w.heap.size + 1]? = some (.cells #[.int .u64 e2, .slice b m.length d] 62 (0, 0)) := by rw [hw1]; exact alloc_at (by simp)
 have HV1 := Lib.hid (h1.kept0 hu1); have HV2 := Lib.hid (h2.kept0 hu1); have HB1 := Lib.hid hb1; have HB2 := Lib.hid hb2; have HW1 := Lib.hid hw1; have HU1 := Lib.hid hu1
 obtain ⟨x0, x1⟩ := cells2_of hx1
 obtain ⟨y0, y1⟩ := cells2_of hx2
 clear h1 h2 hb1 hb2 hw1 hu1
 obtain ⟨ans, hans⟩ : ∃ r, r = decide (e1 = e2 ∧ l = m) := ⟨_, rfl⟩
 rw [← hans]
 have hno : ¬ (e1 = e2 ∧ l = m) → ans = false := fun h => by rw [hans]; exact decide_eq_false h
 have hyes : (e1 = e2 ∧ l = m) → ans = true := fun h => by rw [hans]; exact decide_eq_true h
 have HNO := Lib.hid hno; have HYES := Lib.hid hyes
 clear hans hno hyes
 go_enter Tryz.func33, Tryz.ntmps33
 go_upto_region 1 with fail
 rw [← HW1.out]
 obtain ⟨tb, htb⟩ : ∃ tb, tb = w.heap.size + 1 := ⟨_, rfl⟩
 obtain ⟨sb, hsb⟩ : ∃ sb, sb = w.heap.size := ⟨_, rfl⟩
 have HX1 := Lib.hid hx1; have HX2 := Lib.hid (show w1.heap[tb]? = some (.cells #[.int .u64 e2, .slice b m.length d] 62 (0, 0)) by rw [htb]; exact hx2)
 rw [← hsb] at HX1
 clear hx1 hx2
 rw [← htb] at y0 y1
 rw [← hsb] at x0 x1
 rw [← htb, ← hsb]
 clear hsb htb
 by_cases he : e1 = e2
 ·subst he
  by_cases hlen : l.length = m.length
  ·have hlI : (l.length : Int) = m.length := by rw [hlen]
   have HLEN := Lib.hid hlen
   rw [← hlen] at y1 hlI
   obtain ⟨nl, hnl⟩ : ∃ nl, nl = l.length := ⟨_, rfl⟩
   have HNL := Lib.hid hnl
   rw [← hlen]
   rw [← hnl] at x1 y1 hl ⊢
   rw [← hnl] at HX1
   rw [← hlen, ← hnl] at HX2
   clear hlI hlen hnl
   go_upto_block 0 with fail
   go_upto_region 4 with fail
   clear x0 x1 y0 y1
   go_loopg [23] nl (fun gk i wr => ∃ k : Nat, k ≤ nl ∧ gk = nl - k ∧ i = .int .i64 k ∧ (∀ i, i < k → l[i]? = m[i]?) ∧ Upd (fun _ => False) w1 wr)
   case atStart => exact ⟨0, Nat.zero_le _, rfl, rfl, fun i hi => by omega, Upd.refl _ _⟩
   case round =>
    obtain ⟨k, hk, rfl, rfl, hn, hu⟩ := hrel
    have HN := Lib.hid hn; have HU := Lib.hid hu
    obtain ⟨x0, x1⟩ := cells2_of ((hu.block _ (lt_of_heap HX1.out) (fun e => e)).trans HX1.out)
    obtain ⟨y0, y1⟩ := cells2_of ((hu.block _ (lt_of_heap HX2.out) (fun e => e)).trans HX2.out)
    have hv1 := HV1.out.kept0 hu; have hv2 := HV2.out.kept0 hu
    clear hn hu
    by_cases hkn : k < nl
    ·have hkni : (k : Int) < nl := by omega
     have hk1 : k < l.length := by have := HNL.out; omega
     have hk2 : k < m.length := by have := HNL.out; have := HLEN.out; omega
     obtain ⟨p, hp⟩ : ∃ p, l[k]? = some p := ⟨_, List.getElem?_eq_getElem hk1⟩
     obtain ⟨q, hq⟩ : ∃ q, m[k]? = some q := ⟨_, List.getElem?_eq_getElem hk2⟩
     obtain ⟨g, v, rfl, u0, u1, hb⟩ := hv1 k p hp
     obtain ⟨f, u, rfl, z0, z1, hc⟩ := hv2 k q hq
     have hcv := fun n : Nat => conv_str (hb.kept ((Upd.refl (fun _ => False) wr).drewN n) (fun _ _ e => e)).bytesIn
     have hcu := fun n : Nat => conv_str (hc.kept ((Upd.refl (fun _ => False) wr).drewN n) (fun _ _ e => e)).bytesIn
     have hse := str_eq (HB1.out p (List.mem_of_getElem? hp)) (HB2.out q (List.mem_of_getElem? hq))
     obtain ⟨va, vc, rfl, _⟩ := hb.slice
     obtain ⟨ua, uc, rfl, _⟩ := hc.slice
     have HP := Lib.hid hp; have HQ := Lib.hid hq
     clear hb hc hp hq hk1 hk2 hv1 hv2
     have hcv2 : IntKind.i64.wrap ((k : Int) + 1) = (k : Int) + 1 := by rw [IntKind.wrap_i64]; omega
     go_upto_region 6 with fail
     by_cases n1 : p.1 = q.1
     ·have e1 : (p.1.toList == q.1.toList) = true := by rw [toList_eq]; exact decide_eq_true n1
      by_cases n2 : p.2 = q.2
      ·have e2 : ((strOfNums p.2).toList == (strOfNums q.2).toList) = true := by rw [hse]; exact decide_eq_true n2
       have HE := Lib.hid (show p = q from Prod.ext n1 n2)
       clear n1 n2 hse
       go_quiet (fail)
       go_wp2
       go_roundg (nl - (k + 1))
       case measure => omega
       case rel => exact ⟨k + 1, by omega, rfl, congrArg _ (by omega), fun i hi => by
        by_cases e : i = k
        ·subst e
         rw [HP.out, HQ.out, HE.out]
        ·exact HN.out i (by omega), HU.out.drewN _⟩
      ·have e2 : ((strOfNums p.2).toList == (strOfNums q.2).toList) = false := by rw [hse]; exact decide_eq_false n2
       have HE := Lib.hid (show p ≠ q from fun e => n2 (by rw [e]))
       clear n1 n2 hse
       go_quiet (fail)
       go_wp2
       go_ret
       exact ⟨by rw [HNO.out fun e => HE.out (by
        have h1 := HP.out
        rw [e.2, HQ.out] at h1
        injection h1 with h1
        exact h1.symm)]; rfl, HU1.out.trans (HU.out.drewN _)⟩
     ·have e1 : (p.1.toList == q.1.toList) = false := by rw [toList_eq]; exact decide_eq_false n1
      have HE := Lib.hid (show p ≠ q from fun e => n1 (by rw [e]))
      clear n1 hse
      go_quiet (fail)
      go_wp2
      go_ret
      exact ⟨by rw [HNO.out fun e => HE.out (by
       have h1 := HP.out
       rw [e.2, HQ.out] at h1
       injection h1 with h1
       exact h1.symm)]; rfl, HU1.out.trans (HU.out.drewN _)⟩
    ·obtain rfl : k = nl := by omega
     have heq : l = m := List.ext_getElem? fun i => by
      by_cases hi : i < k
      ·exact HN.out i hi
      ·rw [List.getElem?_eq_none (by have := HNL.out; omega), List.getElem?_eq_none (by have := HNL.out; have := HLEN.out; omega)]
     have HEQ := Lib.hid heq
     clear heq
     go_wp2
     go_ret
     exact ⟨by rw [HYES.out ⟨by trivial, HEQ.out⟩]; rfl, HU1.out.trans HU.out⟩
  ·have hnI : ((l.length : Int) == (m.length : Int)) = false := by
    rw [beq_eq_false_iff_ne]
    omega
   have hlI : ¬ (l.length : Int) = m.length := by omega
   have HLN := Lib.hid hlen
   clear hlen
   go_wp2
   go_ret
   exact ⟨by rw [HNO.out fun e => HLN.out (by rw [e.2])]; rfl, HU1.out⟩
 ·have HEN := Lib.hid he
  have heb : (e1 == e2) = false := by simpa using he
  go_wp2
  go_ret
  exact ⟨by rw [HNO.out fun e => HEN.out e.1]; rfl, HU1.out⟩
end Go.Proofs.YtbimkhdiplnbfaaGreat
end

