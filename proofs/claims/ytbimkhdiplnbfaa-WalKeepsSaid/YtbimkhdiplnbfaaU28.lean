/- Walks: WalHarmless. -/
import Derived.Test.YtbimkhdiplnbfaaU21
import Derived.Test.YtbimkhdiplnbfaaU26
import Derived.Test.YtbimkhdiplnbfaaU27
import Derived.ArgAppend

section
namespace Go.Proofs.Ytbimkhdiplnbfaa
open Go.RowKit Go.Shelf

theorem elem49 : Try.prog.underlying 49 = some (.slice (Try.prog.elem 49)) := by kernel_rfl

theorem bools_head {w : World} {ka : Option Addr} {kn kc m : Nat} {B : Nat → Bool} (hb : KeepIn w ka kn kc B) (hm : m ≤ kn) (hsp : ∀ a, ka = some a → 0 < kc → a.spot = none ∧ a.block < w.heap.size) :
    ∃ kb cb, (∀ W, (Instr.slice 49 (.slice ka kn kc) none (some (.int .i64 (m : Int))) none).run Try.prog W = .ok (.slice kb m cb) W) ∧ ∀ W', Upd (fun _ => False) w W' → BoolsAt W' kb ((List.range m).map B) := by
  have hz : ∀ W : World, (sizeOf (Try.prog.elem 49)).run Try.prog W = .ok 1 W := fun W => by kernel_rfl
  have hnc : kn ≤ kc := by
    rcases hb with ⟨_, e1, e2⟩ | ⟨a, _, e, _⟩ <;> omega
  refine ⟨if kc = 0 then ka else ka.map (·.add (0 * 1)), kc - 0, fun W => ?_, fun W' hu i b hi => ?_⟩
  · rw [run_slice_h W 49 ka kn kc elem49 .i64 m (by omega) (by omega), hz]
    rfl
  · have hi2 : i < m := by
      have := (List.getElem?_eq_some_iff.1 hi).1
      simpa using this
    have hbi : b = B i := by
      simp [List.getElem?_map, hi2] at hi
      exact hi.symm
    rcases hb with ⟨_, e1, e2⟩ | ⟨a, e0, e1, e2, e3⟩
    · omega
    · obtain ⟨ab, ao, asp⟩ := a
      obtain ⟨hs1, hs2⟩ := hsp _ e0 (by omega)
      simp only at hs1 hs2
      subst hs1
      have hc := cell_keptF hu (fun e => e) (e3 i (by omega))
      have e : (⟨ab, ao, none⟩ : Addr).add i = ⟨ab, ao + i, none⟩ := Addr.add_mid ..
      rw [e] at hc
      refine ⟨ab, ao, ?_, Nat.lt_of_lt_of_le hs2 hu.size, by rw [hbi]; exact hc⟩
      rw [e0]
      split
      · rfl
      · simp [Addr.add]

/-- Where WalHarmless stands. -/
def HrAt (w : World) (q p bc i : Nat) (W : World) : Prop := ∃ (X : Lg) (D : Dk) (G F : Nat → Prop) (tv : Value) (vs : List Value) (txs : List (List Int)),
  WalS W q p X D G F (20000 + 2000 * i) ∧ (∀ k, G k → w.heap.size ≤ k) ∧ (∀ k, F k → w.heap.size ≤ k) ∧ X.h.area = 16 ∧ X.h.number + X.parts.length ≤ 2 + i ∧ X.h.turn = 1 ∧
  X.parts = [] :: txs ∧ W.heap[bc]? = some (.cells #[.slice none 0 0, tv] 30 (0, 0)) ∧ ¬ G bc ∧ ¬ F bc ∧ W.ownsRow w.heap.size 28 1 tv txs.length vs ∧ (∀ (j : Nat) u b, vs[j]? = some u → txs[j]? = some b → BytesIn w u b) ∧
  (∀ k, tv.ownBlock = some k → ¬ G k ∧ ¬ F k ∧ k ≠ bc) ∧ Upd (fun _ => False) w W

theorem HrAt.same {w W W' : World} {q p bc i : Nat} (h : HrAt w q p bc i W) (hu : Upd (fun _ => False) W W') : HrAt w q p bc i W' := by
  obtain ⟨X, D, G, F, tv, vs, txs, h1, h2, h3, h4, h5, h6, h7, h8, h9, h10, h11, h12, h13, h14⟩ := h
  exact ⟨X, D, G, F, tv, vs, txs, h1.kept hu (fun _ _ e => e) (fun _ _ e => e), h2, h3, h4, h5, h6, h7, (hu.block _ (lt_of_heap h8) (fun e => e)).trans h8, h9, h10, ownsRow_any h11 hu (fun _ _ e => e), h12, h13, h14.trans hu⟩

theorem HrAt.more {w W : World} {q p bc i : Nat} (h : HrAt w q p bc i W) : HrAt w q p bc (i + 1) W := by
  obtain ⟨X, D, G, F, tv, vs, txs, ⟨h1, h1b, h1c⟩, h2, h3, h4, h5, h6, h7⟩ := h
  exact ⟨X, D, G, F, tv, vs, txs, ⟨⟨h1.wal, h1.ok, h1.unbroken, h1.good, Dk.Ok.mono h1.dok (by omega), h1.fits⟩, h1b, h1c⟩, h2, h3, h4, by omega, h6, h7⟩

end Go.Proofs.Ytbimkhdiplnbfaa
end

section
namespace Go.Proofs.Ytbimkhdiplnbfaa
open Go.RowKit Go.Shelf

/-- A deed as it came in. -/
structure DeedR where
  k : Int
  n : Int
  ba : Option Addr
  bn : Nat
  bc : Nat
  ka : Option Addr
  kn : Nat
  kc : Nat

def cellsD (x : DeedR) : List Value := [.int .i64 x.k, .int .i64 x.n, .slice x.ba x.bn x.bc, .slice x.ka x.kn x.kc]
def deedV (x : DeedR) : Value := .agg #[.int .i64 x.k, .int .i64 x.n, .slice x.ba x.bn x.bc, .slice x.ka x.kn x.kc]
def DeedR.kd (x : DeedR) : Int := (IntKind.u64.wrap x.k).tmod 12

theorem DeedR.kd_range (x : DeedR) : 0 ≤ x.kd ∧ x.kd < 12 := by
  unfold DeedR.kd
  have h : 0 ≤ IntKind.u64.wrap x.k := by rw [IntKind.wrap_u64]; omega
  rw [Int.tmod_eq_emod_of_nonneg h]
  omega

/-- What a deed has in memory. -/
structure DeedIn (w : World) (x : DeedR) (bs : List Int) (B : Nat → Bool) : Prop where
  bytes : BytesIn w (.slice x.ba x.bn x.bc) bs
  len : bs.length = x.bn
  byte : Bytes bs
  keep : KeepIn w x.ka x.kn x.kc B
  spot : ∀ a, x.ka = some a → 0 < x.kc → a.spot = none ∧ a.block < w.heap.size
  bmax : x.bn ≤ 9223372036854775807
  kmax : x.kn ≤ 9223372036854775807
  n64 : -9223372036854775808 ≤ x.n ∧ x.n ≤ 9223372036854775807

theorem DeedIn.kept {w w' : World} {x : DeedR} {bs : List Int} {B : Nat → Bool} (h : DeedIn w x bs B) (hu : Upd (fun _ => False) w w') : DeedIn w' x bs B :=
  ⟨h.bytes.kept hu, h.len, h.byte, h.keep.kept hu, fun a e hc => ⟨(h.spot a e hc).1, Nat.lt_of_lt_of_le (h.spot a e hc).2 hu.size⟩, h.bmax, h.kmax, h.n64⟩

set_option maxHeartbeats 400000 in
theorem kindD_run (x : DeedR) (w : World) :
    Calls Try.prog 61 #[deedV x] w fun e w' => e = .returned (.int .u64 x.kd) ∧ Upd (fun _ => False) w w' := by
  unfold deedV
  go_enter Try.func61, Try.ntmps61
  go_wp2
  go_ret
  exact ⟨rfl, (Upd.refl _ w).alloc _⟩

set_option maxRecDepth 8000 in
set_option maxHeartbeats 400000 in
theorem clone119_any {v : Value} {bs : List Int} (w : World) (hl : bs.length ≤ 1099511627776) (hv : BytesIn w v bs) :
    Calls Try.prog 119 #[v] w fun e w' => ∃ u, e = .returned u ∧ OwnB w' w.heap.size u bs ∧ Upd (fun _ => False) w w' := by
  rcases hv with ⟨rfl, rfl⟩ | ⟨a, c, rfl, h1, h2, h3⟩
  · have q22 : (binOp .eql 28 (.slice none 0 0) (.slice none 0 0)).run Try.prog w = .ok (.bool true) w := by kernel_rfl
    go_enter Try.func119, Try.ntmps119
    go_wp2
    go_ret
    exact ⟨.slice none 0 0, rfl, World.ownsRow_nil _ _ _ _, Upd.refl _ _⟩
  · have HC := Lib.hid h3
    clear h3
    have q22 : (binOp .eql 28 (.slice (some a) bs.length c) (.slice none 0 0)).run Try.prog w = .ok (.bool false) w := Lib.run_eql_slice_nil w _ _ _ _ _ _ _ Try.underlying28
    go_enter Try.func119, Try.ntmps119
    go_upto_region 3 with fail
    clear q22
    iterate 7 go_step
    obtain ⟨i0, hi0, hz0, hz1, hz2⟩ := info_parts Try.info5p
    have hown0 : (w.alloc (.cells #[] 5)).ownsRow w.heap.size 5 1 (.slice (some ⟨w.heap.size, 0, none⟩) 0 0) 0 [] :=
      ⟨by simp, .inr ⟨w.heap.size, 0, #[], rfl, Nat.le_refl _, alloc_at rfl, Nat.le_refl _, Nat.zero_le _, rfl, rfl⟩⟩
    refine wpList_append_own _ rfl (.tmp 5) (.tmp 6) 28 rfl w.heap.size 5 i0 (.int .u8 0) 1 1 Try.underlying28 hi0 hz0 hz1 hz2 rfl (by omega) _ 0 [] rfl hown0 a bs.length c (bcells bs) rfl (by simp [bcells]) (fun j u hj => cell_keptF (G := fun _ => False) ((Upd.refl _ w).alloc _) (fun e => e) (HC.out j u hj)) (bcells_one bs) (by unfold maxLen; omega) (by omega) (by simp) ?_
    intro v' w1 hown hgrow _
    have HO := Lib.hid hown
    have hu : Upd (fun _ => False) w w1 := ((Upd.refl _ w).alloc _).step (Upd.of_grown (F := fun k => k = w.heap.size) hgrow (fun k hk => (Option.some.inj hk).symm)) (fun k hk e => by omega)
    have HU := Lib.hid hu
    clear hown hgrow hi0 hz0 hz1 hz2 hown0 hu
    go_wp2
    go_ret
    refine ⟨_, rfl, ?_, HU.out⟩
    have := HO.out
    simpa using this

set_option maxRecDepth 8000 in
set_option maxHeartbeats 1000000 in
theorem bytesD_any {x : DeedR} {bs : List Int} {B : Nat → Bool} (w : World) (h : DeedIn w x bs B) :
    Calls Try.prog 104 #[deedV x] w fun e w' => ∃ u, e = .returned u ∧ OwnB w' w.heap.size u (bs.take 500) ∧ Upd (fun _ => False) w w' := by
  obtain ⟨m, hm⟩ : ∃ m : Nat, m = min x.bn 500 := ⟨_, rfl⟩
  have hlen := h.len
  have htk : bs.take 500 = bs.take m := by
    rw [hm]
    by_cases hx : x.bn ≤ 500
    · rw [List.take_of_length_le (by omega), List.take_of_length_le (by omega)]
    · rw [show min x.bn 500 = 500 by omega]
  obtain ⟨sb, cb, hs, hb⟩ := bytes_head (m := m) h.bytes (by omega)
  have hmax := h.bmax
  have hmm : (min (x.bn : Int) 500) = (m : Int) := by omega
  have hu1 : Upd (fun _ => False) w (w.alloc (.cells #[.int .i64 x.k, .int .i64 x.n, .slice x.ba x.bn x.bc, .slice x.ka x.kn x.kc] 101)) := (Upd.refl _ w).alloc _
  have hcl := clone119_any (w.alloc (.cells #[.int .i64 x.k, .int .i64 x.n, .slice x.ba x.bn x.bc, .slice x.ka x.kn x.kc] 101)) (by simp; omega) (hb.kept hu1)
  rw [htk]
  have HCL := Lib.hid hcl; have HU1 := Lib.hid hu1; have HM := Lib.hid hmm
  have HS := Lib.hid hs
  unfold deedV
  clear h hb hu1 hcl htk hlen hm hmm hs
  go_enter Try.func104, Try.ntmps104
  go_upto_region 1 with fail
  iterate 19 go_step
  rw [HM.out]
  have hs := HS.out
  go_wp2_with (go_at_call 119; fail)
  refine HCL.out.mono ?_
  rintro e w' ⟨u, rfl, hou, hu⟩
  have HO := Lib.hid hou; have HU := Lib.hid (HU1.out.trans hu)
  clear hou hu HCL hs
  simp only []
  go_wp2
  go_ret
  exact ⟨u, rfl, HO.out.mono (by simp), HU.out⟩

set_option maxHeartbeats 1000000 in
theorem keepD_any {x : DeedR} {bs : List Int} {B : Nat → Bool} (w : World) (h : DeedIn w x bs B) :
    Calls Try.prog 63 #[deedV x] w fun e w' => (∃ ka' kc', e = .returned (.slice ka' (min x.kn 60) kc') ∧ BoolsAt w' ka' ((List.range (min x.kn 60)).map B)) ∧ Upd (fun _ => False) w w' := by
  have hk' := h.keep.kept ((Upd.refl _ w).alloc (.cells #[.int .i64 x.k, .int .i64 x.n, .slice x.ba x.bn x.bc, .slice x.ka x.kn x.kc] 101))
  have hkm := h.kmax
  unfold deedV
  clear h
  obtain ⟨xk, xn, xba, xbn, xbc, xka, xkn, xkc⟩ := x
  simp only at hk' hkm ⊢
  rcases hk' with ⟨rfl, rfl, rfl⟩ | ⟨a, rfl, hl, hm, hc⟩
  · go_enter Try.func63, Try.ntmps63
    go_wp2_with (go_at_call 49; refine (cloneBools_nil _).mono ?_; rintro e w' ⟨rfl, rfl⟩)
    go_ret
    exact ⟨⟨none, 0, rfl, fun i x hx => by simp at hx⟩, (Upd.refl _ w).alloc _⟩
  · have HCL := Lib.hid (cloneBools_run (len := min xkn 60) (cap := xkc) B _ (by omega) (fun i hi => hc i (by omega)))
    have HL := Lib.hid hl
    unfold maxLen at hm
    clear hc
    go_enter Try.func63, Try.ntmps63
    go_wp2_with fail
    have e80 : (min (xkn : Int) 60).toNat = min xkn 60 := by omega
    rw [e80]
    refine HCL.out.mono ?_
    rintro e w' ⟨⟨ka', kc', rfl, hb'⟩, hu⟩
    have HBB := Lib.hid hb'; have HU := Lib.hid hu
    clear hb' hu
    go_wp2
    go_ret
    exact ⟨⟨ka', kc', rfl, HBB.out⟩, ((Upd.refl _ w).alloc _).trans HU.out⟩

set_option maxHeartbeats 1000000 in
theorem broken_any {q p : Nat} {X : Lg} {G : Nat → Prop} (w : World) (h : Log w q p X G) :
    Calls Try.prog 28 #[.pointer (some ⟨q, 0, none⟩)] w fun e w' => e = .returned (.bool X.broken) ∧ Upd (fun _ => False) w w' := by
  obtain ⟨PV, vs, h1, _⟩ := h
  obtain ⟨c0, c1, c2, c3, c4, c5, c6, c7⟩ := cells8_of h1.main
  clear h1 c0 c1 c2 c3 c4 c5 c6
  go_enter Try.func28, Try.ntmps28
  go_wp2
  go_ret
  exact ⟨rfl, Upd.refl _ w⟩

set_option maxHeartbeats 1000000 in
theorem turn_any {q p : Nat} {X : Lg} {G : Nat → Prop} (w : World) (h : Log w q p X G) (ht : 0 ≤ X.h.turn ∧ X.h.turn < 4294967296) :
    Calls Try.prog 27 #[.pointer (some ⟨q, 0, none⟩)] w fun e w' => e = .returned (.int .u32 X.h.turn) ∧ Upd (fun _ => False) w w' := by
  obtain ⟨PV, vs, h1, _⟩ := h
  obtain ⟨c0, c1, c2, c3, c4, c5, c6, c7⟩ := cells8_of h1.main
  have hw : IntKind.u32.wrap X.h.turn = X.h.turn := by rw [IntKind.wrap_u32]; omega
  clear h1 c1 c2 c3 c4 c5 c6 c7
  go_enter Try.func27, Try.ntmps27
  go_wp2
  clear hw
  go_ret
  exact ⟨rfl, Upd.refl _ w⟩

end Go.Proofs.Ytbimkhdiplnbfaa
end

section
namespace Go.Proofs.Ytbimkhdiplnbfaa
open Go.RowKit Go.Shelf

/-- A content in memory, in blocks of its own. -/
def Con (C : Nat → Prop) (w : World) (sv tv : Value) (snap : List Int) (txs : List (List Int)) : Prop :=
  (∀ k, C k → k < w.heap.size) ∧ ∃ vs, ∀ W : World, (∀ k, C k → W.heap[k]? = w.heap[k]?) → BytesIn W sv snap ∧ W.ownsRow 0 28 1 tv txs.length vs ∧ ∀ (i : Nat) u b, vs[i]? = some u → txs[i]? = some b → BytesIn W u b

theorem Con.kept {C G : Nat → Prop} {w w' : World} {sv tv : Value} {snap : List Int} {txs : List (List Int)} (h : Con C w sv tv snap txs) (hu : Upd G w w') (hg : ∀ k, C k → ¬ G k) : Con C w' sv tv snap txs := by
  obtain ⟨h1, vs, h2⟩ := h
  exact ⟨fun k hk => Nat.lt_of_lt_of_le (h1 k hk) hu.size, vs, fun W hW => h2 W (fun k hk => (hW k hk).trans (hu.block k (h1 k hk) (hg k hk)))⟩

theorem Con.mono {C C' : Nat → Prop} {w : World} {sv tv : Value} {snap : List Int} {txs : List (List Int)} (h : Con C w sv tv snap txs) (hc : ∀ k, C k → C' k) (hl : ∀ k, C' k → k < w.heap.size) : Con C' w sv tv snap txs := by
  obtain ⟨_, vs, h2⟩ := h
  exact ⟨hl, vs, fun W hW => h2 W (fun k hk => hW k (hc k hk))⟩

theorem Con.reads {C : Nat → Prop} {w : World} {sv tv : Value} {snap : List Int} {txs : List (List Int)} (h : Con C w sv tv snap txs) : BytesIn w sv snap ∧ RowsIn w tv txs := by
  obtain ⟨_, vs, h2⟩ := h
  obtain ⟨g1, g2, g3⟩ := h2 w (fun _ _ => rfl)
  exact ⟨g1, vs, g2, g3⟩

theorem cells4_of {w : World} {b : Nat} {x0 x1 x2 x3 : Value} {t : TypeId} (h : w.heap[b]? = some (.cells #[x0, x1, x2, x3] t (0, 0))) : w.cell? ⟨b, 0, none⟩ = some x0 ∧ w.cell? ⟨b, 1, none⟩ = some x1 ∧ w.cell? ⟨b, 2, none⟩ = some x2 ∧ w.cell? ⟨b, 3, none⟩ = some x3 := by
  refine ⟨?_, ?_, ?_, ?_⟩ <;> simp [World.cell?, h]

theorem wp_append_grows {P : Program} (w : World) {o : Oper} {a : Act} {K : Act → World → Prop} {Q : Exit → Act → World → Prop}
    (s x : Operand) (t : TypeId) (hop : o.op = Op.call { callee := Callee.builtin Builtin.append, args := #[s, x], argTypes := #[t, t] })
    (e : TypeId) (i : TypeInfo) (z : Value) (size bytes : Nat) (h1 : P.underlying t = some (.slice e)) (h2 : P.info? e = some i) (h3 : i.zero = some z) (h4 : i.size = size) (h5 : i.bytes = bytes) (h6 : z.cells.size = size) (h7 : 0 < size)
    (ao : Option Addr) (n cap : Nat) (olds : List Value) (hs : a.eval s = .slice ao n cap) (hnone : ao = none → n = 0 ∧ cap = 0) (hlo : olds.length = n * size) (holds : ∀ b, ao = some b → ∀ j u, olds[j]? = some u → w.cell? (b.add j) = some u)
    (ad : Addr) (m c : Nat) (news : List Value) (hx : a.eval x = .slice (some ad) m c) (hn : news.length = m * size) (hc : ∀ j u, news[j]? = some u → w.cell? (ad.add j) = some u) (h1c : ∀ u ∈ news, u.oneCell' = true)
    (hfull : cap < n + m) (b1 : n + m ≤ maxLen) (b2 : (n + m) * bytes ≤ 140737488355328)
    (hK : ∀ v' w', w'.ownsRow w.heap.size e size v' (n + m) (olds ++ news) → w.grownBy w' none → K (a.put o.dst v') w') : o.wp P a w K Q := by
  cases ao with
  | some b =>
    obtain ⟨v', w', hrun, r1, r2⟩ := run_append_arg_grows (P := P) w t o.type e i z size bytes h1 h2 h3 h4 h5 h6 h7 b n cap olds hlo (holds b rfl) ad m c news hn hc hfull b1 b2
    unfold Oper.wp
    simp [execOp, hop, resolve, invoke, builtin, hs, hx, hrun, Result.andThen]
    exact hK v' w' r1 r2
  | none =>
    obtain ⟨rfl, rfl⟩ := hnone rfl
    obtain rfl : olds = [] := List.eq_nil_of_length_eq_zero (by simpa using hlo)
    obtain ⟨v', w', hrun, r1, r2, _⟩ := run_append_own (P := P) w w.heap.size t o.type e i z size bytes h1 h2 h3 h4 h5 h6 h7 (.slice none 0 0) 0 [] (World.ownsRow_nil w _ e size) ad m c news hn hc h1c b1 b2 (Nat.le_refl _)
    unfold Oper.wp
    simp [execOp, hop, resolve, invoke, builtin, hs, hx, hrun, Result.andThen]
    exact hK v' w' r1 r2

/-- What an Append leaves, on a disk that may fail. -/
def AppOut (w w' : World) (q p : Nat) (X : Lg) (D : Dk) (G F : Nat → Prop) (K : Nat) (P2 : List (List Int)) (E : Int) : Prop :=
  ∃ (X' : Lg) (D' : Dk) (G' F' : Nat → Prop), Wal w' q p X' D' G' F' ∧ D'.Ok (K + 2000) ∧ (∀ k, G' k → G k ∨ w.heap.size ≤ k) ∧ (∀ k, F' k → F k ∨ w.heap.size ≤ k) ∧ Upd (fun k => G k ∨ F k) w w' ∧
    (((E = 3 ∨ E = 6) ∧ X' = X ∧ D' = D) ∨ (E = 0 ∧ LiveP X' D' ∧ X'.parts = P2 ∧ X'.h.turn ≤ X.h.turn + 1 ∧ X'.h.number + X'.parts.length ≤ X.h.number + X.parts.length + 1) ∨
     ((E = 2 ∨ E = 8 ∨ E = 9) ∧ X'.broken = true ∧ Shaky D' X.parts P2 (X.h.turn + 1) (X.h.number + X.parts.length + 1)))

theorem refuses_cases {X : Lg} (h : X.broken = false) {n : Nat} {u : Int} : (X.refuses n u ≠ 0 → X.refuses n u = 3 ∨ X.refuses n u = 6) ∧ (X.refuses n u = 0 → u + secsN n ≤ X.h.area ∧ n ≤ 40000 ∧ X.h.number + X.parts.length ≤ 1073741824) := by
  unfold Lg.refuses
  rw [h, if_neg (by simp)]
  split
  · omega
  · split <;> omega

theorem appOut {w0 w w' : World} {q p : Nat} {X : Lg} {D : Dk} {G F : Nat → Prop} {K : Nat} {b : List Int} {e : Ending} (hP : LiveP X D) (hW : Wal w0 q p X D G F) (hD : D.Ok K) (hb : Bytes b) (hl : b.length ≤ 40000) (hn : X.h.number + X.parts.length ≤ 1073741824) (hu0 : Upd (fun _ => False) w0 w)
    (h : (X.refuses b.length X.used ≠ 0 ∧ e = .returned (.int .i64 (X.refuses b.length X.used)) ∧ Upd (fun _ => False) w w') ∨
      (X.refuses b.length X.used = 0 ∧ e = .returned (.int .i64 (D.laysE (raw (partSc X.h (X.h.number + X.parts.length) (X.h.place + X.used) false b hb)))) ∧
        ∃ G' F', Wal w' q p (X.after b (D.laysE (raw (partSc X.h (X.h.number + X.parts.length) (X.h.place + X.used) false b hb)))) (D.lays (raw (partSc X.h (X.h.number + X.parts.length) (X.h.place + X.used) false b hb))) G' F' ∧
          (∀ k, G' k → G k ∨ w.heap.size ≤ k) ∧ (∀ k, F' k → F k ∨ w.heap.size ≤ k) ∧ Upd (fun k => G k ∨ F k) w w')) : ∃ E, e = .returned (.int .i64 E) ∧ AppOut w w' q p X D G F K (X.parts ++ [b]) E := by
  have hrc := refuses_cases hP.unbroken (n := b.length) (u := X.used)
  rcases h with ⟨h1, h2, h3⟩ | ⟨h1, h2, G', F', h3, h4, h5, h6⟩
  · have hu := hu0.trans h3
    exact ⟨_, h2, X, D, G, F, ⟨hW.1.kept hu (fun _ _ e => e), hW.2.1.kept hu (fun _ _ e => e), hW.2.2⟩, Dk.Ok.mono hD (by omega), fun _ hk => .inl hk, fun _ hk => .inl hk, h3.mono (fun _ _ e => e.elim), .inl ⟨hrc.1 h1, rfl, rfl⟩⟩
  · obtain ⟨g1, _, _⟩ := hrc.2 h1
    have hsb := secsN_bound hl
    have hdk := Dk.lays_ok (partSc X.h (X.h.number + X.parts.length) (X.h.place + X.used) false b hb) hD
    rw [partSc_length] at hdk
    rw [show raw (partSc X.h (X.h.number + X.parts.length) (X.h.place + X.used) false b hb) = X.apS b hb from rfl] at h2 h3 hdk
    refine ⟨_, h2, X.after b (D.laysE (X.apS b hb)), D.lays (X.apS b hb), G', F', h3, Dk.Ok.mono hdk (by omega), h4, h5, h6, .inr ?_⟩
    rcases laysE_cases (X.apS b hb) D with q | q
    · left
      rw [q, Lg.after, if_pos rfl]
      exact ⟨rfl, hP.add hb hl g1 hn q, rfl, by show X.h.turn ≤ X.h.turn + 1; omega, by show X.h.number + ((X.parts ++ [b]).length : Int) ≤ _; simp; omega⟩
    · right
      refine ⟨q, ?_, hP.add_shaky hb hl g1 hn (by omega) (by omega)⟩
      rw [Lg.after, if_neg (by omega)]
      rfl

/-- What a deed leaves: the content as it would be, the log, its disk. -/
def DeedOut (w w' : World) (q p : Nat) (X : Lg) (D : Dk) (G F C : Nat → Prop) (K : Nat) (r : Value) : Prop :=
  ∃ (sv tv : Value) (snap : List Int) (txs : List (List Int)) (C' : Nat → Prop) (E : Int) (X' : Lg) (D' : Dk) (G' F' : Nat → Prop),
    r = .tuple #[.agg #[sv, tv], .int .i64 E] ∧ Con C' w' sv tv snap txs ∧ (∀ b ∈ snap :: txs, Bytes b ∧ b.length ≤ 40000) ∧ txs.length ≤ 1000 ∧
    Wal w' q p X' D' G' F' ∧ D'.Ok (K + 2000) ∧ (∀ k, C k → C' k) ∧ (∀ k, C' k → C k ∨ w.heap.size ≤ k) ∧ (∀ k, C' k → ¬ G' k ∧ ¬ F' k) ∧ (∀ k, G' k → G k ∨ w.heap.size ≤ k) ∧ (∀ k, F' k → F k ∨ w.heap.size ≤ k) ∧ Upd (fun k => G k ∨ F k) w w' ∧
    (((E = 3 ∨ E = 6) ∧ X' = X ∧ D' = D) ∨ (E = 0 ∧ LiveP X' D' ∧ X'.parts = snap :: txs ∧ X'.h.turn ≤ X.h.turn + 1 ∧ X'.h.number + X'.parts.length ≤ X.h.number + X.parts.length + 1) ∨
     ((E = 2 ∨ E = 8 ∨ E = 9) ∧ X'.broken = true ∧ Shaky D' X.parts (snap :: txs) (X.h.turn + 1) (X.h.number + X.parts.length + 1)))

theorem elem22 : Try.prog.underlying 22 = some (.slice (Try.prog.elem 22)) := by kernel_rfl

/-- A row with no room behind it. -/
theorem full_slice (ta : Option Addr) (n tc : Nat) (hn : n ≤ tc) (_h63 : tc ≤ 9223372036854775807) : ∀ W, (Instr.slice 22 (.slice ta n tc) none (some (.int .i64 (n : Int))) (some (.int .i64 (n : Int)))).run Try.prog W = .ok (.slice (if n = 0 then ta else ta.map (·.add (0 * 1))) n n) W := by
  have hz : ∀ W : World, (sizeOf (Try.prog.elem 22)).run Try.prog W = .ok 1 W := fun W => by kernel_rfl
  intro W
  rw [run_slice_hm W 22 ta n tc elem22 .i64 .i64 n n (by omega) (by omega) (by omega), hz]
  rfl

set_option maxRecDepth 100000 in
set_option maxHeartbeats 8000000 in
theorem with_app {q p : Nat} {X : Lg} {D : Dk} {G F C : Nat → Prop} {K0 : Nat} {sv tv : Value} {snap : List Int} {txs : List (List Int)} {x : DeedR} {bs : List Int} {B : Nat → Bool} (w : World) (hW : Wal w q p X D G F) (hP : LiveP X D) (hD : D.Ok K0) (hK : K0 ≤ 1099511600000) (hC : Con C w sv tv snap txs) (hCG : ∀ k, C k → ¬ G k ∧ ¬ F k)
    (hX : DeedIn w x bs B) (hk5 : x.kd < 5) (hpa : X.parts = snap :: txs) (hn : X.h.number + X.parts.length ≤ 1073741824) :
    Calls Try.prog 62 #[.agg #[sv, tv], .pointer (some ⟨q, 0, none⟩), deedV x] w fun e w' => ∃ r, e = .returned r ∧ DeedOut w w' q p X D G F C K0 r := by
  obtain ⟨hC1, vs, hC2⟩ := hC
  obtain ⟨hs1, hs2, hs3⟩ := hC2 w (fun _ _ => rfl)
  obtain ⟨sa, sc, rfl⟩ := hs1.slice'
  obtain ⟨ta, tc, rfl⟩ := rowV hs2
  obtain ⟨b, hbs⟩ : ∃ b, b = bs.take 500 := ⟨_, rfl⟩
  have hbb : Bytes b := fun y hy => hX.byte y (List.mem_of_mem_take (by rw [← hbs]; exact hy))
  have hb5 : b.length ≤ 500 := by rw [hbs]; simp; omega
  have hvl : vs.length = txs.length := by have := hs2.1; omega
  have hpl : X.parts.length ≤ 16 := by
    have h1 := hP.law.sum; have h2 := len_le_used X.parts; have h3 := hP.law.fits; have h4 := hP.area
    omega
  have htl : txs.length ≤ 15 := by rw [hpa] at hpl; simp at hpl; omega
  have hntc : txs.length ≤ tc ∧ tc ≤ 9223372036854775807 ∧ (ta = none → txs.length = 0) := by
    rcases hs2.2 with ⟨e, e2⟩ | ⟨g, cap, cur, e, _, _, h4, h5, _⟩
    · injection e with e1 e2 e3; exact ⟨by omega, by omega, fun _ => by omega⟩
    · injection e with e1 e2 e3
      unfold maxLen at h5
      exact ⟨by omega, by omega, fun e => by rw [e] at e1; cases e1⟩
  have hsl := full_slice ta txs.length tc hntc.1 hntc.2.1
  obtain ⟨ao, hao⟩ : ∃ ao, ao = (if txs.length = 0 then ta else ta.map (·.add (0 * 1))) := ⟨_, rfl⟩
  rw [← hao] at hsl
  have han : ao = none → txs.length = 0 ∧ txs.length = 0 := fun e => by
    rw [hao] at e
    by_cases h0 : txs.length = 0
    · exact ⟨h0, h0⟩
    · rw [if_neg h0] at e
      have : ta = none := by cases ta with
        | none => rfl
        | some a => simp at e
      exact absurd (hntc.2.2 this) h0
  have hac : ∀ a, ao = some a → ∀ j u, vs[j]? = some u → w.cell? (a.add j) = some u := fun a e j u hj => by
    have hjl := (List.getElem?_eq_some_iff.1 hj).1
    rw [hao, if_neg (by omega)] at e
    rcases hs2.2 with ⟨e1, e2⟩ | ⟨g, cap, cur, e1, _⟩
    · omega
    · injection e1 with e1 _ _
      subst e1
      have ha : a = ⟨g, 0, none⟩ := by simpa [Addr.add] using e.symm
      subst ha
      have := hs2.cells (g := g) rfl j u hj
      exact this
  have hgl := hW.1.lt; have hfl := hW.2.1.lt
  have HNF : RowKit.Hid (∀ k, w.heap.size ≤ k → ¬ (G k ∨ F k)) := Lib.hid (fun k hk e => e.elim (fun e => by have := hgl k e; omega) (fun e => by have := hfl k e; omega))
  obtain ⟨sn, hsn⟩ : ∃ sn, sn = snap.length := ⟨_, rfl⟩
  rw [← hsn]
  have HW := Lib.hid hW; have HP := Lib.hid hP; have HDOK := Lib.hid hD; have HC1 := Lib.hid hC1; have HC2 := Lib.hid hC2; have HCG := Lib.hid hCG; have HX := Lib.hid hX; have HPA := Lib.hid hpa; have HNU := Lib.hid hn; have HBS := Lib.hid hbs.symm; have HBB := Lib.hid hbb; have HSL := Lib.hid hsl; have HAN := Lib.hid han; have HAC := Lib.hid hac; have HPL := Lib.hid hpl; have HSN := Lib.hid hsn
  have HVL : RowKit.Hid (vs.length = txs.length * 1) := Lib.hid (by omega)
  rw [← hsn] at hC2
  have HC2 := Lib.hid hC2
  have hbyt := hP.ok.bytes
  rw [hpa] at hbyt
  have HBY := Lib.hid hbyt
  unfold deedV
  clear hW hP hD hC1 hC2 hCG hX hpa hn hbs hbb hsl han hac hao hpl hvl hntc hs1 hs2 hs3 hgl hfl hsn hbyt
  go_enter Try.func62, Try.ntmps62
  go_upto_region 1 with fail
  obtain ⟨w1, hw1⟩ : ∃ w1, w1 = ((w.alloc (.cells #[.slice sa sn sc, .slice ta txs.length tc] 30)).alloc (.cells #[.int .i64 x.k, .int .i64 x.n, .slice x.ba x.bn x.bc, .slice x.ka x.kn x.kc] 101)).alloc (.cells #[.slice none 0 0, .slice none 0 0] 30) := ⟨_, rfl⟩
  have hu1 : Upd (fun _ => False) w w1 := by rw [hw1]; exact (((Upd.refl _ w).alloc _).alloc _).alloc _
  have hb3 : w1.heap[w.heap.size]? = some (.cells #[.slice sa sn sc, .slice ta txs.length tc] 30 (0, 0)) := by rw [hw1]; exact (alloc_lt (by simp; omega)).trans ((alloc_lt (by simp)).trans (alloc_at rfl))
  have hb5 : w1.heap[w.heap.size + 1]? = some (.cells #[.int .i64 x.k, .int .i64 x.n, .slice x.ba x.bn x.bc, .slice x.ka x.kn x.kc] 101 (0, 0)) := by rw [hw1]; exact (alloc_lt (by simp)).trans (alloc_at (by simp))
  have hb6 : w1.heap[w.heap.size + 2]? = some (.cells #[.slice none 0 0, .slice none 0 0] 30 (0, 0)) := by rw [hw1]; exact alloc_at (by simp)
  have HZ2 : RowKit.Hid (w.heap.size + 2 < w1.heap.size) := Lib.hid (lt_of_heap hb6)
  have HU1 := Lib.hid hu1; have HB3 := Lib.hid hb3; have HB5 := Lib.hid hb5; have HB6 := Lib.hid hb6
  rw [← hw1]
  obtain ⟨y0, y1, y2, y3⟩ := cells4_of hb5
  clear hw1 hu1 hb3 hb5 hb6
  go_wp2_with (go_at_call 104; fail)
  refine (bytesD_any w1 (HX.out.kept HU1.out)).mono ?_
  rintro e w2 ⟨u, rfl, hou, hu2⟩
  rw [HBS.out] at hou
  obtain ⟨ua, uc, rfl⟩ := rowV hou
  have HO2 := Lib.hid hou
  have HU2 := Lib.hid (HU1.out.trans hu2)
  have hb5 := (hu2.block _ (lt_of_heap HB5.out) (fun e => e)).trans HB5.out
  have HB5 := Lib.hid hb5
  have HB3 := Lib.hid ((hu2.block _ (lt_of_heap HB3.out) (fun e => e)).trans HB3.out)
  have HB6 := Lib.hid ((hu2.block _ (lt_of_heap HB6.out) (fun e => e)).trans HB6.out)
  have HZ1 := Lib.hid HU1.out.size
  clear y0 y1 y2 y3 hou hu2
  obtain ⟨y0, y1, y2, y3⟩ := cells4_of hb5
  clear hb5 HU1
  simp only []
  go_wp2_with (go_at_call 61; fail)
  refine (kindD_run x w2).mono ?_
  rintro e w3 ⟨rfl, hu3⟩
  have HU3 := Lib.hid (HU2.out.trans hu3)
  have HB5 := Lib.hid ((hu3.block _ (lt_of_heap HB5.out) (fun e => e)).trans HB5.out)
  have HB3 := Lib.hid ((hu3.block _ (lt_of_heap HB3.out) (fun e => e)).trans HB3.out)
  have HB6 := Lib.hid ((hu3.block _ (lt_of_heap HB6.out) (fun e => e)).trans HB6.out)
  have HO3 : RowKit.Hid (OwnB w3 w1.heap.size (.slice ua b.length uc) b) := Lib.hid (ownsRow_any HO2.out hu3 (fun _ _ e => e))
  clear hu3 HU2 HO2 y0 y1 y2 y3
  simp only []
  go_upto_region 3 with fail
  have hA : Upd (fun k => G k ∨ F k) w3 w3.drew := (Upd.refl _ w3).drew
  refine wp_region_G 19 (fun W => Upd (fun k => G k ∨ F k) w3 W) [false, false, false, false, false, false, false, false, false, false, false, false, false, false, false, false, false, false, false, false, false] rfl (by kernel_rfl) ?_
  refine wpG_takeT (i := 0) (v := .pointer (some ⟨w.heap.size, 0, none⟩)) rfl (fun L hc h => (hc.waits (n := 19) (i := 14) (by kernel_rfl) (hc.waits (n := 14) (i := 1) (by kernel_rfl) (hc.waits (n := 1) (i := 0) (by kernel_rfl) h)))) (by kernel_rfl) (fun _ _ _ h => h) hA (.inl ⟨rfl, fun w5 q1 => ?_⟩) ?_
  · go_simp
  simp only [Act.put, List.setIfInBounds_toArray, List.set]
  refine wpG_takeT (i := 1) (v := .slice sa sn sc) rfl (fun L hc h => (hc.waits (n := 19) (i := 14) (by kernel_rfl) (hc.waits (n := 14) (i := 1) (by kernel_rfl) h))) (by kernel_rfl) (fun _ _ _ h => h) hA (.inl ⟨rfl, fun w5 q1 => ?_⟩) ?_
  · have cc := (cells2_of ((q1.block _ (lt_of_heap HB3.out) (HNF.out _ (by omega))).trans HB3.out)).1
    go_simp
  simp only [Act.put, List.setIfInBounds_toArray, List.set]
  refine wpG_takeT (i := 2) (v := .pointer (some ⟨w.heap.size, 1, none⟩)) rfl (fun L hc h => (hc.waits (n := 19) (i := 14) (by kernel_rfl) (hc.waits (n := 14) (i := 13) (by kernel_rfl) (hc.waits (n := 13) (i := 10) (by kernel_rfl) (hc.waits (n := 10) (i := 3) (by kernel_rfl) (hc.waits (n := 3) (i := 2) (by kernel_rfl) h)))))) (by kernel_rfl) (fun _ _ _ h => h) hA (.inl ⟨rfl, fun w5 q1 => ?_⟩) ?_
  · go_simp
  simp only [Act.put, List.setIfInBounds_toArray, List.set]
  refine wpG_takeT (i := 3) (v := .slice ta txs.length tc) rfl (fun L hc h => (hc.waits (n := 19) (i := 14) (by kernel_rfl) (hc.waits (n := 14) (i := 13) (by kernel_rfl) (hc.waits (n := 13) (i := 10) (by kernel_rfl) (hc.waits (n := 10) (i := 3) (by kernel_rfl) h))))) (by kernel_rfl) (fun _ _ _ h => h) hA (.inl ⟨rfl, fun w5 q1 => ?_⟩) ?_
  · have cc := (cells2_of ((q1.block _ (lt_of_heap HB3.out) (HNF.out _ (by omega))).trans HB3.out)).2
    go_simp
  simp only [Act.put, List.setIfInBounds_toArray, List.set]
  refine wpG_takeT (i := 4) (v := .pointer (some ⟨w.heap.size, 1, none⟩)) rfl (fun L hc h => (hc.waits (n := 19) (i := 14) (by kernel_rfl) (hc.waits (n := 14) (i := 13) (by kernel_rfl) (hc.waits (n := 13) (i := 10) (by kernel_rfl) (hc.waits (n := 10) (i := 6) (by kernel_rfl) (hc.waits (n := 6) (i := 5) (by kernel_rfl) (hc.waits (n := 5) (i := 4) (by kernel_rfl) h))))))) (by kernel_rfl) (fun _ _ _ h => h) hA (.inl ⟨rfl, fun w5 q1 => ?_⟩) ?_
  · go_simp
  simp only [Act.put, List.setIfInBounds_toArray, List.set]
  refine wpG_takeT (i := 5) (v := .slice ta txs.length tc) rfl (fun L hc h => (hc.waits (n := 19) (i := 14) (by kernel_rfl) (hc.waits (n := 14) (i := 13) (by kernel_rfl) (hc.waits (n := 13) (i := 10) (by kernel_rfl) (hc.waits (n := 10) (i := 6) (by kernel_rfl) (hc.waits (n := 6) (i := 5) (by kernel_rfl) h)))))) (by kernel_rfl) (fun _ _ _ h => h) hA (.inl ⟨rfl, fun w5 q1 => ?_⟩) ?_
  · have cc := (cells2_of ((q1.block _ (lt_of_heap HB3.out) (HNF.out _ (by omega))).trans HB3.out)).2
    go_simp
  simp only [Act.put, List.setIfInBounds_toArray, List.set]
  refine wpG_takeT (i := 6) (v := .int .i64 txs.length) rfl (fun L hc h => (hc.waits (n := 19) (i := 14) (by kernel_rfl) (hc.waits (n := 14) (i := 13) (by kernel_rfl) (hc.waits (n := 13) (i := 10) (by kernel_rfl) (hc.waits (n := 10) (i := 6) (by kernel_rfl) h))))) (by kernel_rfl) (fun _ _ _ h => h) hA (.inl ⟨rfl, fun w5 q1 => ?_⟩) ?_
  · go_simp
  simp only [Act.put, List.setIfInBounds_toArray, List.set]
  refine wpG_takeT (i := 7) (v := .pointer (some ⟨w.heap.size, 1, none⟩)) rfl (fun L hc h => (hc.waits (n := 19) (i := 14) (by kernel_rfl) (hc.waits (n := 14) (i := 13) (by kernel_rfl) (hc.waits (n := 13) (i := 10) (by kernel_rfl) (hc.waits (n := 10) (i := 9) (by kernel_rfl) (hc.waits (n := 9) (i := 8) (by kernel_rfl) (hc.waits (n := 8) (i := 7) (by kernel_rfl) h))))))) (by kernel_rfl) (fun _ _ _ h => h) hA (.inl ⟨rfl, fun w5 q1 => ?_⟩) ?_
  · go_simp
  simp only [Act.put, List.setIfInBounds_toArray, List.set]
  refine wpG_takeT (i := 8) (v := .slice ta txs.length tc) rfl (fun L hc h => (hc.waits (n := 19) (i := 14) (by kernel_rfl) (hc.waits (n := 14) (i := 13) (by kernel_rfl) (hc.waits (n := 13) (i := 10) (by kernel_rfl) (hc.waits (n := 10) (i := 9) (by kernel_rfl) (hc.waits (n := 9) (i := 8) (by kernel_rfl) h)))))) (by kernel_rfl) (fun _ _ _ h => h) hA (.inl ⟨rfl, fun w5 q1 => ?_⟩) ?_
  · have cc := (cells2_of ((q1.block _ (lt_of_heap HB3.out) (HNF.out _ (by omega))).trans HB3.out)).2
    go_simp
  simp only [Act.put, List.setIfInBounds_toArray, List.set]
  refine wpG_takeT (i := 9) (v := .int .i64 txs.length) rfl (fun L hc h => (hc.waits (n := 19) (i := 14) (by kernel_rfl) (hc.waits (n := 14) (i := 13) (by kernel_rfl) (hc.waits (n := 13) (i := 10) (by kernel_rfl) (hc.waits (n := 10) (i := 9) (by kernel_rfl) h))))) (by kernel_rfl) (fun _ _ _ h => h) hA (.inl ⟨rfl, fun w5 q1 => ?_⟩) ?_
  · go_simp
  simp only [Act.put, List.setIfInBounds_toArray, List.set]
  have hsl := HSL.out
  refine wpG_takeT (i := 10) (v := .slice ao txs.length txs.length) rfl (fun L hc h => (hc.waits (n := 19) (i := 14) (by kernel_rfl) (hc.waits (n := 14) (i := 13) (by kernel_rfl) (hc.waits (n := 13) (i := 10) (by kernel_rfl) h)))) (by kernel_rfl) (fun _ _ _ h => h) hA (.inl ⟨rfl, fun w5 q1 => ?_⟩) ?_
  · go_simp
  simp only [Act.put, List.setIfInBounds_toArray, List.set]
  clear hsl
  refine wpG_takeT (i := 11) (v := .slice ua b.length uc) rfl (fun L hc h => (hc.waits (n := 19) (i := 14) (by kernel_rfl) (hc.waits (n := 14) (i := 13) (by kernel_rfl) (hc.waits (n := 13) (i := 12) (by kernel_rfl) (hc.waits (n := 12) (i := 11) (by kernel_rfl) h))))) (by kernel_rfl) (fun _ _ _ h => h) hA (.inl ⟨rfl, fun w5 q1 => ?_⟩) ?_
  · go_simp
  simp only [Act.put, List.setIfInBounds_toArray, List.set]
  refine wpG_takeT (i := 15) (v := .pointer (some ⟨q, 0, none⟩)) rfl (fun L hc h => (hc.waits (n := 19) (i := 18) (by kernel_rfl) (hc.waits (n := 18) (i := 15) (by kernel_rfl) h))) (by kernel_rfl) (fun _ _ _ h => h) hA (.inl ⟨rfl, fun w5 q1 => ?_⟩) ?_
  · go_simp
  simp only [Act.put, List.setIfInBounds_toArray, List.set]
  refine wpG_takeT (i := 16) (v := .agg #[.int .i64 x.k, .int .i64 x.n, .slice x.ba x.bn x.bc, .slice x.ka x.kn x.kc]) rfl (fun L hc h => (hc.waits (n := 19) (i := 18) (by kernel_rfl) (hc.waits (n := 18) (i := 17) (by kernel_rfl) (hc.waits (n := 17) (i := 16) (by kernel_rfl) h)))) (by kernel_rfl) (fun _ _ _ h => h) hA (.inl ⟨rfl, fun w5 q1 => ?_⟩) ?_
  · obtain ⟨cc0, cc1, cc2, cc3⟩ := cells4_of ((q1.block _ (lt_of_heap HB5.out) (HNF.out _ (by omega))).trans HB5.out)
    go_simp
  simp only [Act.put, List.setIfInBounds_toArray, List.set]
  refine wpG_do (i := 12) rfl (by kernel_rfl) rfl (fun K hK => ?_)
  have HKK := Lib.hid hK
  clear hK
  go_step
  have hA4 : Upd (fun k => G k ∨ F k) w3 (w3.drew.alloc (.cells #[.slice ua b.length uc] 28)) := hA.alloc _
  refine HKK.out _ _ hA4 ?_
  clear HKK hA hA4
  simp only [List.setIfInBounds_toArray, List.set]
  obtain ⟨w4, hw4⟩ : ∃ w4, w4 = w3.drew.alloc (.cells #[.slice ua b.length uc] 28) := ⟨_, rfl⟩
  have hu34 : Upd (fun _ => False) w3 w4 := by rw [hw4]; exact ((Upd.refl _ w3).drew).alloc _
  have hb4 : w4.heap[w3.heap.size]? = some (.cells #[.slice ua b.length uc] 28 (0, 0)) := by rw [hw4]; exact alloc_at rfl
  have HU34 := Lib.hid hu34; have HB4 := Lib.hid hb4
  refine (?_ : wpG _ _ _ _ _ _ _ _ _ (w3.drew.alloc (.cells #[.slice ua b.length uc] 28)))
  rw [← hw4]
  clear hu34 hb4 hw4
  refine wpG_do (i := 13) rfl (by kernel_rfl) rfl (fun K hK => ?_)
  have HKK := Lib.hid hK
  clear hK
  obtain ⟨i0, hi0, hz0, hz1, hz2⟩ := info_parts Try.info28p
  refine wp_append_grows w4 (.tmp 24) (.tmp 26) 22 rfl 28 i0 (.slice none 0 0) 1 24 Try.underlying22 hi0 hz0 hz1 hz2 rfl (by omega) ao txs.length txs.length vs rfl HAN.out HVL.out (fun a ha j u hj => cell_keptF (G := fun _ => False) (HU3.out.trans HU34.out) (fun e => e) (HAC.out a ha j u hj)) ⟨w3.heap.size, 0, none⟩ 1 1 [.slice ua b.length uc] rfl rfl (fun j v hj => by
    have hj0 : j = 0 := by
      have := (List.getElem?_eq_some_iff.1 hj).1
      simp at this; omega
    subst hj0
    simp at hj
    subst hj
    rw [Addr.add_mid]
    exact cells1_of HB4.out) (by simp [Value.oneCell']) (by omega) (by unfold maxLen; omega) (by omega) ?_
  intro v5 w5 hown5 hgrow5
  obtain ⟨g5, cap5, rfl⟩ := ownsRow_succ hown5
  have hu45 : Upd (fun _ => False) w4 w5 := Upd.of_grown hgrow5 (fun k hk => by cases hk)
  have HU35 := Lib.hid (HU34.out.trans hu45)
  have hA : Upd (fun k => G k ∨ F k) w3 w5 := HU35.out.mono (fun _ _ e => e.elim)
  have HO5 := Lib.hid hown5
  have hz45 : w3.heap.size < w4.heap.size := lt_of_heap HB4.out
  have HG5 : RowKit.Hid (w3.heap.size ≤ g5) := Lib.hid (by have := (World.ownsRow.lt hown5 g5 rfl).1; omega)
  refine HKK.out _ _ hA ?_
  clear HKK hown5 hgrow5 hu45 HB4 hi0 hz0 hz1 hz2 hz45
  simp only [Act.put, List.setIfInBounds_toArray, List.set]
  refine wpG_takeT (i := 14) (v := .agg #[.slice sa sn sc, .slice (some ⟨g5, 0, none⟩) (txs.length + 1) cap5]) rfl (fun L hc h => (hc.waits (n := 19) (i := 14) (by kernel_rfl) h)) (by kernel_rfl) (fun _ _ _ h => h) hA (.inl ⟨rfl, fun w5 q1 => ?_⟩) ?_
  · go_simp
  simp only [Act.put, List.setIfInBounds_toArray, List.set]
  clear hA
  refine wpG_do (i := 17) rfl (by kernel_rfl) rfl (fun K hK => ?_)
  have HKK := Lib.hid hK
  clear hK
  go_step
  refine (bytesD_any w5 (HX.out.kept (HU3.out.trans HU35.out))).mono ?_
  rintro e w6 ⟨u6, rfl, hou6, hu6⟩
  rw [HBS.out] at hou6
  obtain ⟨va, vc, rfl⟩ := rowV hou6
  have HU6 := Lib.hid (HU35.out.trans hu6)
  have HO6 := Lib.hid hou6
  have hA : Upd (fun k => G k ∨ F k) w3 w6 := HU6.out.mono (fun _ _ e => e.elim)
  have HZ56 : RowKit.Hid (w3.heap.size ≤ w5.heap.size ∧ w5.heap.size ≤ w6.heap.size) := Lib.hid ⟨HU35.out.size, hu6.size⟩
  have HO56 : RowKit.Hid (w6.ownsRow w4.heap.size 28 1 (.slice (some ⟨g5, 0, none⟩) (txs.length + 1) cap5) (txs.length + 1) (vs ++ [.slice ua b.length uc])) := Lib.hid (ownsRow_any HO5.out hu6 (fun _ _ e => e))
  clear hu6 hou6
  simp only []
  refine HKK.out _ _ hA ?_
  clear HKK hA HO5
  simp only [List.setIfInBounds_toArray, List.set]
  refine wpG_do (i := 18) rfl (by kernel_rfl) rfl (fun K hK => ?_)
  have HKK := Lib.hid hK
  clear hK
  go_step
  have hu06 := HU3.out.trans HU6.out
  have hs3 := HU3.out.size
  refine (append_any (b := b) w6 ⟨HW.out.1.kept hu06 (fun _ _ e => e), HW.out.2.1.kept hu06 (fun _ _ e => e), HW.out.2.2⟩ HP.out.ok (by have := HPL.out; omega) HDOK.out (by omega) HBB.out (by omega) HO6.out.bytesIn (fun _ a n c e => by
    have h1 := (World.ownsRow.lt HO6.out a.block (by rw [e]; rfl)).1
    have h2 := HZ56.out
    exact ⟨fun e => HNF.out a.block (by omega) (.inr e), fun e => HNF.out a.block (by omega) (.inl (by rw [e]; exact HW.out.1.mem))⟩)).mono ?_
  rintro e w7 hpost
  have HPO : RowKit.Hid (∃ E, e = .returned (.int .i64 E) ∧ AppOut w6 w7 q p X D G F K0 (X.parts ++ [b]) E) := Lib.hid (appOut HP.out HW.out HDOK.out HBB.out (by omega) HNU.out hu06 hpost)
  clear hpost hu06 hs3
  obtain ⟨E, rfl, hao⟩ := HPO.out
  have hA : Upd (fun k => G k ∨ F k) w3 w7 := by
    obtain ⟨_, _, _, _, _, _, _, _, hu, _⟩ := hao
    exact (HU6.out.mono (fun _ _ e => e.elim)).trans hu
  have HAO := Lib.hid hao
  clear hao HPO
  simp only []
  refine HKK.out _ _ hA ?_
  clear HKK
  simp only [List.setIfInBounds_toArray, List.set]
  refine wpG_tail_lit (k := 19) rfl rfl (by kernel_rfl) ?_
  simp only [List.drop]
  have hb6 := (hA.block _ (lt_of_heap HB6.out) (HNF.out _ (by omega))).trans HB6.out
  have hA2 := Lib.hid hA
  have H6 := Lib.hid hb6
  obtain ⟨f60, f61⟩ := cells2_of hb6
  have ff0 : w7.frozen? ⟨w.heap.size + 2, 0, none⟩ = false := frozen_of_heap hb6
  have ff1 : w7.frozen? ⟨w.heap.size + 2, 1, none⟩ = false := frozen_of_heap hb6
  clear hb6 hA
  go_wp2
  obtain ⟨w8, hw8⟩ : ∃ w8, w8 = (w7.setCell ⟨w.heap.size + 1 + 1, 0, none⟩ (.slice sa sn sc)).setCell ⟨w.heap.size + 1 + 1, 1, none⟩ (.slice (some ⟨g5, 0, none⟩) (txs.length + 1) cap5) := ⟨_, rfl⟩
  have hu78 : Upd (fun k => k = w.heap.size + 1 + 1) w7 w8 := by rw [hw8]; exact (upd_own w7 _ 0 _).trans (upd_own _ _ 1 _)
  have h68 : w8.heap[w.heap.size + 1 + 1]? = some (.cells #[.slice sa sn sc, .slice (some ⟨g5, 0, none⟩) (txs.length + 1) cap5] 30 (0, 0)) := by
    have := blk_set (i := 1) (v := .slice (some ⟨g5, 0, none⟩) (txs.length + 1) cap5) (blk_set (i := 0) (v := .slice sa sn sc) H6.out)
    rw [hw8]
    simpa using this
  rw [← hw8]
  have hl := run_loadVar_mid (P := Try.prog) w8 (w.heap.size + 1 + 1) 0 30 [.slice sa sn sc, .slice (some ⟨g5, 0, none⟩) (txs.length + 1) cap5] _ (rangeAt_block h68) Try.underlying30 rfl (by kernel_rfl)
  refine bodyPost_ret (results_cell_tmp (P := Try.prog) (show Try.f62.results = #[.cell 6 30, .tmp 7] by kernel_rfl) rfl hl) rfl ⟨_, rfl, ?_⟩
  obtain ⟨X', D', G', F', hW', hD', hG', hF', hu67, hcase⟩ := HAO.out
  have hz3 := HU3.out.size; have hz6 := HU6.out.size; have hz56 := HZ56.out; have hz7 := hu67.size; have hz8 := hu78.size
  have hz2 := HZ2.out
  have hg5 := HG5.out
  have hg56 := (World.ownsRow.lt HO56.out g5 rfl).2
  have hua : ∀ k, (Value.slice ua b.length uc).ownBlock = some k → w1.heap.size ≤ k ∧ k < w3.heap.size := fun k hk => World.ownsRow.lt HO3.out k hk
  have hC1 := HC1.out
  have hnf := HNF.out
  have h06 : ∀ k, k < w.heap.size → w6.heap[k]? = w.heap[k]? := fun k hk => (HU6.out.block k (by omega) (fun e => e)).trans (HU3.out.block k hk (fun e => e))
  have h68' : ∀ k, k < w6.heap.size → ¬ (G k ∨ F k) → k ≠ w.heap.size + 1 + 1 → w8.heap[k]? = w6.heap[k]? := fun k hk h1 h2 => (hu78.block k (by omega) h2).trans (hu67.block k hk h1)
  refine ⟨.slice sa sn sc, .slice (some ⟨g5, 0, none⟩) (txs.length + 1) cap5, snap, txs ++ [b], fun k => C k ∨ (Value.slice ua b.length uc).ownBlock = some k ∨ k = g5, E, X', D', G', F', rfl, ⟨?_, vs ++ [.slice ua b.length uc], fun W hW => ?_⟩, ?_, ?_, ?_, hD', fun k hk => .inl hk, ?_, ?_, ?_, ?_, ?_, ?_⟩
  · intro k hk
    rcases hk with hk | hk | hk
    · have := hC1 k hk; omega
    · have := hua k hk; omega
    · omega
  · obtain ⟨e1, e2, e3⟩ := HC2.out W (fun k hk => by
      have h1 := hC1 k hk; have h2 := HCG.out k hk
      exact ((hW k (.inl hk)).trans (h68' k (by omega) (fun e => e.elim h2.1 h2.2) (by omega))).trans (h06 k h1))
    have hvl := HVL.out
    refine ⟨e1, ?_, fun i u' c hi hc => ?_⟩
    · rw [List.length_append]
      refine ownsRow_base (ownsRow_heap HO56.out (fun k hk => ?_)) (Nat.zero_le _)
      have hk' : k = g5 := by simp [Value.ownBlock] at hk; exact hk.symm
      rw [hk']
      exact (hW g5 (.inr (.inr rfl))).trans (h68' g5 hg56 (hnf g5 (by omega)) (by have := lt_of_heap HB6.out; omega))
    · by_cases hit : i < txs.length
      · rw [List.getElem?_append_left (by omega)] at hi hc
        exact e3 i u' c hi hc
      · rw [List.getElem?_append_right (by omega)] at hi hc
        have hi0 : i - vs.length = 0 := by
          have := (List.getElem?_eq_some_iff.1 hi).1
          simp at this; omega
        rw [hi0] at hi
        rw [show i - txs.length = 0 by omega] at hc
        simp at hi hc
        rw [← hi, ← hc]
        refine OwnB.bytesIn (B := w1.heap.size) (ownsRow_heap HO3.out (fun k hk => ?_))
        have h1 := hua k hk
        exact ((hW k (.inr (.inl hk))).trans (h68' k (by omega) (hnf k (by omega)) (by omega))).trans (HU6.out.block k h1.2 (fun e => e))
  · intro c hc
    have hc' : c ∈ snap :: txs ∨ c = b := by
      simp at hc ⊢
      rcases hc with hc | hc | hc
      · exact .inl (.inl hc)
      · exact .inl (.inr hc)
      · exact .inr hc
    rcases hc' with hc | hc
    · exact HBY.out c hc
    · rw [hc]; exact ⟨HBB.out, by omega⟩
  · simp; omega
  · have hn8 : ∀ k, G' k ∨ F' k → k ≠ w.heap.size + 1 + 1 := fun k hk e => by
      rcases hk with hk | hk
      · rcases hG' k hk with h | h
        · exact hnf k (by omega) (.inl h)
        · have := lt_of_heap HB6.out; omega
      · rcases hF' k hk with h | h
        · exact hnf k (by omega) (.inr h)
        · have := lt_of_heap HB6.out; omega
    exact ⟨hW'.1.kept hu78 (fun k hk => hn8 k (.inl hk)), hW'.2.1.kept hu78 (fun k hk => hn8 k (.inr hk)), hW'.2.2⟩
  · intro k hk
    rcases hk with hk | hk | hk
    · exact .inl hk
    · have := hua k hk; exact .inr (by omega)
    · exact .inr (by omega)
  · intro k hk
    rcases hk with hk | hk | hk
    · have h1 := hC1 k hk; have h2 := HCG.out k hk
      exact ⟨fun e => (hG' k e).elim h2.1 (fun e => by omega), fun e => (hF' k e).elim h2.2 (fun e => by omega)⟩
    · have h1 := hua k hk
      have h2 := hnf k (by omega)
      exact ⟨fun e => (hG' k e).elim (fun e => h2 (.inl e)) (fun e => by omega), fun e => (hF' k e).elim (fun e => h2 (.inr e)) (fun e => by omega)⟩
    · have h2 := hnf k (by omega)
      exact ⟨fun e => (hG' k e).elim (fun e => h2 (.inl e)) (fun e => by omega), fun e => (hF' k e).elim (fun e => h2 (.inr e)) (fun e => by omega)⟩
  · exact fun k hk => (hG' k hk).imp id (fun e => by omega)
  · exact fun k hk => (hF' k hk).imp id (fun e => by omega)
  · exact ((((HU3.out.trans HU6.out).mono (fun _ _ e => e.elim)).trans hu67).step hu78 (fun k hk e => by omega))
  · rw [HPA.out] at hcase ⊢
    exact hcase

end Go.Proofs.Ytbimkhdiplnbfaa
end

section
namespace Go.Proofs.Ytbimkhdiplnbfaa
open Go.RowKit Go.Shelf

theorem cpOut {w0 w w' : World} {q p : Nat} {X : Lg} {D : Dk} {G F : Nat → Prop} {K : Nat} {b : List Int} {e : Ending} (hP : LiveP X D) (hW : Wal w0 q p X D G F) (hD : D.Ok K) (hb : Bytes b) (hl : b.length ≤ 40000) (ht : X.h.turn < 1073741824) (hu0 : Upd (fun _ => False) w0 w)
    (h : (X.refuses b.length 0 ≠ 0 ∧ e = .returned (.int .i64 (X.refuses b.length 0)) ∧ Upd (fun _ => False) w w') ∨
      (X.refuses b.length 0 = 0 ∧ X.h.turn = 1073741824 ∧ e = .returned (.int .i64 6) ∧ Upd (fun _ => False) w w') ∨
      (X.refuses b.length 0 = 0 ∧ X.h.turn ≠ 1073741824 ∧ e = .returned (.int .i64 (X.cpE D b hb)) ∧
        ∃ G' F', Wal w' q p (X.cp b (X.cpE D b hb)) (X.cpD D b hb) G' F' ∧
          (∀ k, G' k → G k ∨ w.heap.size ≤ k) ∧ (∀ k, F' k → F k ∨ w.heap.size ≤ k) ∧ Upd (fun k => G k ∨ F k) w w')) : ∃ E, e = .returned (.int .i64 E) ∧ AppOut w w' q p X D G F K [b] E := by
  have hrc := refuses_cases hP.unbroken (n := b.length) (u := 0)
  rcases h with ⟨h1, h2, h3⟩ | ⟨_, h1, _⟩ | ⟨h1, _, h2, G', F', h3, h4, h5, h6⟩
  · have hu := hu0.trans h3
    exact ⟨_, h2, X, D, G, F, ⟨hW.1.kept hu (fun _ _ e => e), hW.2.1.kept hu (fun _ _ e => e), hW.2.2⟩, Dk.Ok.mono hD (by omega), fun _ hk => .inl hk, fun _ hk => .inl hk, h3.mono (fun _ _ e => e.elim), .inl ⟨hrc.1 h1, rfl, rfl⟩⟩
  · omega
  · obtain ⟨g1, _, hn⟩ := hrc.2 h1
    have hsb := secsN_bound hl
    have hdk : (X.cpD D b hb).Ok (K + 2000) := by
      have d1 := Dk.lays_ok (partSc X.h X.cpH.number X.cpH.place true b hb) hD
      rw [partSc_length] at d1
      unfold Lg.cpD
      split
      · exact Dk.Ok.mono (Dk.lays_ok [headSc X.cpH] d1) (by simp; omega)
      · exact Dk.Ok.mono d1 (by omega)
    refine ⟨_, h2, X.cp b (X.cpE D b hb), X.cpD D b hb, G', F', h3, hdk, h4, h5, h6, .inr ?_⟩
    rcases cpE_cases X D b hb with q | q
    · left
      rw [q]
      refine ⟨rfl, hP.cp hb hl (by omega) hn ht q, ?_, ?_, ?_⟩
      · rw [Lg.cp, if_pos rfl]; rfl
      · rw [Lg.cp, if_pos rfl]; exact Int.le_refl _
      · rw [Lg.cp, if_pos rfl]; show X.h.number + (X.parts.length : Int) + ((1 : Nat) : Int) ≤ _; omega
    · right
      refine ⟨q, ?_, hP.cp_shaky hb hl (by omega) hn ht (by omega) (by omega)⟩
      rw [Lg.cp, if_neg (by omega)]
      rfl

set_option maxRecDepth 100000 in
set_option maxHeartbeats 8000000 in
theorem with_cp {q p : Nat} {X : Lg} {D : Dk} {G F C : Nat → Prop} {K0 : Nat} {sv tv : Value} {snap : List Int} {txs : List (List Int)} {x : DeedR} {bs : List Int} {B : Nat → Bool} (w : World) (hW : Wal w q p X D G F) (hP : LiveP X D) (hD : D.Ok K0) (hK : K0 ≤ 1099511600000) (hC : Con C w sv tv snap txs) (hCG : ∀ k, C k → ¬ G k ∧ ¬ F k)
    (hX : DeedIn w x bs B) (hk5 : 5 ≤ x.kd) (hpa : X.parts = snap :: txs) (hn : X.h.number + X.parts.length ≤ 1073741824) (htn : X.h.turn < 1073741824) :
    Calls Try.prog 62 #[.agg #[sv, tv], .pointer (some ⟨q, 0, none⟩), deedV x] w fun e w' => ∃ r, e = .returned r ∧ DeedOut w w' q p X D G F C K0 r := by
  obtain ⟨hC1, vs, hC2⟩ := hC
  obtain ⟨hs1, hs2, hs3⟩ := hC2 w (fun _ _ => rfl)
  obtain ⟨sa, sc, rfl⟩ := hs1.slice'
  obtain ⟨ta, tc, rfl⟩ := rowV hs2
  obtain ⟨b, hbs⟩ : ∃ b, b = bs.take 500 := ⟨_, rfl⟩
  have hbb : Bytes b := fun y hy => hX.byte y (List.mem_of_mem_take (by rw [← hbs]; exact hy))
  have hb5 : b.length ≤ 500 := by rw [hbs]; simp; omega
  have hgl := hW.1.lt; have hfl := hW.2.1.lt
  have HNF : RowKit.Hid (∀ k, w.heap.size ≤ k → ¬ (G k ∨ F k)) := Lib.hid (fun k hk e => e.elim (fun e => by have := hgl k e; omega) (fun e => by have := hfl k e; omega))
  obtain ⟨sn, hsn⟩ : ∃ sn, sn = snap.length := ⟨_, rfl⟩
  rw [← hsn]
  have HW := Lib.hid hW; have HP := Lib.hid hP; have HDOK := Lib.hid hD; have HC1 := Lib.hid hC1; have HC2 := Lib.hid hC2; have HCG := Lib.hid hCG; have HX := Lib.hid hX; have HPA := Lib.hid hpa; have HNU := Lib.hid hn; have HBS := Lib.hid hbs.symm; have HBB := Lib.hid hbb; have HSN := Lib.hid hsn
  have hk5b : ¬ x.kd < 5 := by omega
  have HTN := Lib.hid htn
  rw [← hsn] at hC2
  have HC2 := Lib.hid hC2
  have hbyt := hP.ok.bytes
  rw [hpa] at hbyt
  have HBY := Lib.hid hbyt
  unfold deedV
  clear hW hP hD hC1 hC2 hCG hX hpa hn hbs hbb hk5 htn hs1 hs2 hs3 hgl hfl hsn hbyt
  go_enter Try.func62, Try.ntmps62
  go_upto_region 1 with fail
  obtain ⟨w1, hw1⟩ : ∃ w1, w1 = ((w.alloc (.cells #[.slice sa sn sc, .slice ta txs.length tc] 30)).alloc (.cells #[.int .i64 x.k, .int .i64 x.n, .slice x.ba x.bn x.bc, .slice x.ka x.kn x.kc] 101)).alloc (.cells #[.slice none 0 0, .slice none 0 0] 30) := ⟨_, rfl⟩
  have hu1 : Upd (fun _ => False) w w1 := by rw [hw1]; exact (((Upd.refl _ w).alloc _).alloc _).alloc _
  have hb3 : w1.heap[w.heap.size]? = some (.cells #[.slice sa sn sc, .slice ta txs.length tc] 30 (0, 0)) := by rw [hw1]; exact (alloc_lt (by simp; omega)).trans ((alloc_lt (by simp)).trans (alloc_at rfl))
  have hb5 : w1.heap[w.heap.size + 1]? = some (.cells #[.int .i64 x.k, .int .i64 x.n, .slice x.ba x.bn x.bc, .slice x.ka x.kn x.kc] 101 (0, 0)) := by rw [hw1]; exact (alloc_lt (by simp)).trans (alloc_at (by simp))
  have hb6 : w1.heap[w.heap.size + 2]? = some (.cells #[.slice none 0 0, .slice none 0 0] 30 (0, 0)) := by rw [hw1]; exact alloc_at (by simp)
  have HZ2 : RowKit.Hid (w.heap.size + 2 < w1.heap.size) := Lib.hid (lt_of_heap hb6)
  have HU1 := Lib.hid hu1; have HB3 := Lib.hid hb3; have HB5 := Lib.hid hb5; have HB6 := Lib.hid hb6
  rw [← hw1]
  obtain ⟨y0, y1, y2, y3⟩ := cells4_of hb5
  clear hw1 hu1 hb3 hb5 hb6
  go_wp2_with (go_at_call 104; fail)
  refine (bytesD_any w1 (HX.out.kept HU1.out)).mono ?_
  rintro e w2 ⟨u, rfl, hou, hu2⟩
  rw [HBS.out] at hou
  obtain ⟨ua, uc, rfl⟩ := rowV hou
  have HO2 := Lib.hid hou
  have HU2 := Lib.hid (HU1.out.trans hu2)
  have hb5 := (hu2.block _ (lt_of_heap HB5.out) (fun e => e)).trans HB5.out
  have HB5 := Lib.hid hb5
  have HB3 := Lib.hid ((hu2.block _ (lt_of_heap HB3.out) (fun e => e)).trans HB3.out)
  have HB6 := Lib.hid ((hu2.block _ (lt_of_heap HB6.out) (fun e => e)).trans HB6.out)
  have HZ1 := Lib.hid HU1.out.size
  clear y0 y1 y2 y3 hou hu2
  obtain ⟨y0, y1, y2, y3⟩ := cells4_of hb5
  clear hb5 HU1
  simp only []
  go_wp2_with (go_at_call 61; fail)
  refine (kindD_run x w2).mono ?_
  rintro e w3 ⟨rfl, hu3⟩
  have HU3 := Lib.hid (HU2.out.trans hu3)
  have HB5 := Lib.hid ((hu3.block _ (lt_of_heap HB5.out) (fun e => e)).trans HB5.out)
  have HB3 := Lib.hid ((hu3.block _ (lt_of_heap HB3.out) (fun e => e)).trans HB3.out)
  have HB6 := Lib.hid ((hu3.block _ (lt_of_heap HB6.out) (fun e => e)).trans HB6.out)
  have HO3 : RowKit.Hid (OwnB w3 w1.heap.size (.slice ua b.length uc) b) := Lib.hid (ownsRow_any HO2.out hu3 (fun _ _ e => e))
  clear hu3 HU2 HO2 y0 y1 y2 y3
  simp only []
  obtain ⟨y0, y1, y2, y3⟩ := cells4_of HB5.out
  go_upto_region 4 with fail
  go_wp2_with (go_at_call 104; fail)
  refine (bytesD_any w3 (HX.out.kept HU3.out)).mono ?_
  rintro e w6 ⟨u6, rfl, hou6, hu6⟩
  rw [HBS.out] at hou6
  obtain ⟨va, vc, rfl⟩ := rowV hou6
  have HU6 := Lib.hid hu6
  have HO6 := Lib.hid hou6
  clear hu6 hou6 y0 y1 y2 y3
  simp only []
  go_wp2_with (go_at_call 18; fail)
  have hu06 := HU3.out.trans HU6.out
  have hs3 := HU3.out.size
  refine (cp_any (b := b) w6 ⟨HW.out.1.kept hu06 (fun _ _ e => e), HW.out.2.1.kept hu06 (fun _ _ e => e), HW.out.2.2⟩ HP.out.ok HDOK.out (by omega) HBB.out (by omega) HO6.out.bytesIn (fun _ a n c e => by
    have h1 := (World.ownsRow.lt HO6.out a.block (by rw [e]; rfl)).1
    exact ⟨fun e => HNF.out a.block (by omega) (.inr e), fun e => HNF.out a.block (by omega) (.inl (by rw [e]; exact HW.out.1.mem))⟩)).mono ?_
  rintro e w7 hpost
  have HPO : RowKit.Hid (∃ E, e = .returned (.int .i64 E) ∧ AppOut w6 w7 q p X D G F K0 [b] E) := Lib.hid (cpOut HP.out HW.out HDOK.out HBB.out (by omega) HTN.out hu06 hpost)
  clear hpost hu06 hs3
  obtain ⟨E, rfl, hao⟩ := HPO.out
  have hA : Upd (fun k => G k ∨ F k) w3 w7 := by
    obtain ⟨_, _, _, _, _, _, _, _, hu, _⟩ := hao
    exact (HU6.out.mono (fun _ _ e => e.elim)).trans hu
  have HAO := Lib.hid hao
  clear hao HPO
  simp only []
  have hb6 := (hA.block _ (lt_of_heap HB6.out) (HNF.out _ (by omega))).trans HB6.out
  have H6 := Lib.hid hb6
  obtain ⟨f60, f61⟩ := cells2_of hb6
  have ff0 : w7.frozen? ⟨w.heap.size + 2, 0, none⟩ = false := frozen_of_heap hb6
  have ff1 : w7.frozen? ⟨w.heap.size + 2, 1, none⟩ = false := frozen_of_heap hb6
  clear hb6 hA
  go_wp2
  obtain ⟨w8, hw8⟩ : ∃ w8, w8 = (w7.setCell ⟨w.heap.size + 1 + 1, 0, none⟩ (.slice ua b.length uc)).setCell ⟨w.heap.size + 1 + 1, 1, none⟩ (.slice none 0 0) := ⟨_, rfl⟩
  have hu78 : Upd (fun k => k = w.heap.size + 1 + 1) w7 w8 := by rw [hw8]; exact (upd_own w7 _ 0 _).trans (upd_own _ _ 1 _)
  have h68 : w8.heap[w.heap.size + 1 + 1]? = some (.cells #[.slice ua b.length uc, .slice none 0 0] 30 (0, 0)) := by
    have := blk_set (i := 1) (v := .slice none 0 0) (blk_set (i := 0) (v := .slice ua b.length uc) H6.out)
    rw [hw8]
    simpa using this
  rw [← hw8]
  have hl := run_loadVar_mid (P := Try.prog) w8 (w.heap.size + 1 + 1) 0 30 [.slice ua b.length uc, .slice none 0 0] _ (rangeAt_block h68) Try.underlying30 rfl (by kernel_rfl)
  refine bodyPost_ret (results_cell_tmp (P := Try.prog) (show Try.f62.results = #[.cell 6 30, .tmp 7] by kernel_rfl) rfl hl) rfl ⟨_, rfl, ?_⟩
  obtain ⟨X', D', G', F', hW', hD', hG', hF', hu67, hcase⟩ := HAO.out
  have hz3 := HU3.out.size; have hz6 := HU6.out.size; have hz7 := hu67.size; have hz8 := hu78.size
  have hz2 := HZ2.out
  have hua : ∀ k, (Value.slice ua b.length uc).ownBlock = some k → w1.heap.size ≤ k ∧ k < w3.heap.size := fun k hk => World.ownsRow.lt HO3.out k hk
  have hC1 := HC1.out
  have hnf := HNF.out
  have hb6l := lt_of_heap HB6.out
  have h06 : ∀ k, k < w.heap.size → w6.heap[k]? = w.heap[k]? := fun k hk => (HU6.out.block k (by omega) (fun e => e)).trans (HU3.out.block k hk (fun e => e))
  have h68' : ∀ k, k < w6.heap.size → ¬ (G k ∨ F k) → k ≠ w.heap.size + 1 + 1 → w8.heap[k]? = w6.heap[k]? := fun k hk h1 h2 => (hu78.block k (by omega) h2).trans (hu67.block k hk h1)
  refine ⟨.slice ua b.length uc, .slice none 0 0, b, [], fun k => C k ∨ (Value.slice ua b.length uc).ownBlock = some k, E, X', D', G', F', rfl, ⟨?_, [], fun W hW => ⟨?_, World.ownsRow_nil _ _ _ _, fun i u' c hi => by simp at hi⟩⟩, ?_, by simp, ?_, hD', fun k hk => .inl hk, ?_, ?_, ?_, ?_, ?_, ?_⟩
  · intro k hk
    rcases hk with hk | hk
    · have := hC1 k hk; omega
    · have := hua k hk; omega
  · refine OwnB.bytesIn (B := w1.heap.size) (ownsRow_heap HO3.out (fun k hk => ?_))
    have h1 := hua k hk
    exact ((hW k (.inr hk)).trans (h68' k (by omega) (hnf k (by omega)) (by omega))).trans (HU6.out.block k h1.2 (fun e => e))
  · intro c hc
    simp at hc
    rw [hc]; exact ⟨HBB.out, by omega⟩
  · have hn8 : ∀ k, G' k ∨ F' k → k ≠ w.heap.size + 1 + 1 := fun k hk e => by
      rcases hk with hk | hk
      · rcases hG' k hk with h | h
        · exact hnf k (by omega) (.inl h)
        · omega
      · rcases hF' k hk with h | h
        · exact hnf k (by omega) (.inr h)
        · omega
    exact ⟨hW'.1.kept hu78 (fun k hk => hn8 k (.inl hk)), hW'.2.1.kept hu78 (fun k hk => hn8 k (.inr hk)), hW'.2.2⟩
  · intro k hk
    rcases hk with hk | hk
    · exact .inl hk
    · have := hua k hk; exact .inr (by omega)
  · intro k hk
    rcases hk with hk | hk
    · have h1 := hC1 k hk; have h2 := HCG.out k hk
      exact ⟨fun e => (hG' k e).elim h2.1 (fun e => by omega), fun e => (hF' k e).elim h2.2 (fun e => by omega)⟩
    · have h1 := hua k hk
      have h2 := hnf k (by omega)
      exact ⟨fun e => (hG' k e).elim (fun e => h2 (.inl e)) (fun e => by omega), fun e => (hF' k e).elim (fun e => h2 (.inr e)) (fun e => by omega)⟩
  · exact fun k hk => (hG' k hk).imp id (fun e => by omega)
  · exact fun k hk => (hF' k hk).imp id (fun e => by omega)
  · exact ((((HU3.out.trans HU6.out).mono (fun _ _ e => e.elim)).trans hu67).step hu78 (fun k hk e => by omega))
  · exact hcase

end Go.Proofs.Ytbimkhdiplnbfaa
end

section
namespace Go.Proofs.Ytbimkhdiplnbfaa
open Go.RowKit Go.Shelf

/-- The deeds that came in. -/
def DRows (w : World) (sa : Option Addr) (sn : Nat) (x : Nat → DeedR) (bs : Nat → List Int) (B : Nat → Nat → Bool) : Prop :=
  ∀ i, i < sn → (∃ b o, sa = some ⟨b, o, none⟩ ∧ b < w.heap.size ∧ w.cell? ⟨b, o + i * 4, none⟩ = some (.int .i64 (x i).k) ∧ w.cell? ⟨b, o + i * 4 + 1, none⟩ = some (.int .i64 (x i).n) ∧
    w.cell? ⟨b, o + i * 4 + 2, none⟩ = some (.slice (x i).ba (x i).bn (x i).bc) ∧ w.cell? ⟨b, o + i * 4 + 3, none⟩ = some (.slice (x i).ka (x i).kn (x i).kc)) ∧ DeedIn w (x i) (bs i) (B i)

theorem DRows.kept {w w' : World} {sa : Option Addr} {sn : Nat} {x : Nat → DeedR} {bs : Nat → List Int} {B : Nat → Nat → Bool} (h : DRows w sa sn x bs B) (hu : Upd (fun _ => False) w w') : DRows w' sa sn x bs B := fun i hi => by
  obtain ⟨⟨b, o, h1, h2, h3, h4, h5, h6⟩, h7⟩ := h i hi
  exact ⟨⟨b, o, h1, Nat.lt_of_lt_of_le h2 hu.size, cell_kept hu h3, cell_kept hu h4, cell_kept hu h5, cell_kept hu h6⟩, h7.kept hu⟩

/-- Where WalKeeps stands at a deed. -/
def KpAt (w : World) (p bc i q : Nat) (W : World) : Prop := ∃ (X : Lg) (D : Dk) (G F C : Nat → Prop) (sv tv : Value) (snap : List Int) (txs : List (List Int)),
  Wal W q p X D G F ∧ LiveP X D ∧ D.Ok (20000 + 3000000 * i) ∧ (∀ k, G k ∨ F k ∨ C k → w.heap.size ≤ k) ∧ X.parts = snap :: txs ∧ X.h.turn ≤ 1 + 3 * i ∧ X.h.number + X.parts.length ≤ 2 + i ∧
  W.heap[bc]? = some (.cells #[sv, tv] 30 (0, 0)) ∧ Con C W sv tv snap txs ∧ (∀ k, C k → ¬ G k ∧ ¬ F k ∧ k ≠ bc) ∧ ¬ G bc ∧ ¬ F bc ∧ w.heap.size ≤ bc ∧ Upd (fun _ => False) w W

theorem KpAt.same {w W W' : World} {p bc i q : Nat} (h : KpAt w p bc i q W) (hu : Upd (fun _ => False) W W') : KpAt w p bc i q W' := by
  obtain ⟨X, D, G, F, C, sv, tv, snap, txs, h1, h2, h3, h4, h5, h6, h7, h8, h9, h10, h11, h12, h13, h14⟩ := h
  exact ⟨X, D, G, F, C, sv, tv, snap, txs, ⟨h1.1.kept hu (fun _ _ e => e), h1.2.1.kept hu (fun _ _ e => e), h1.2.2⟩, h2, h3, h4, h5, h6, h7, (hu.block _ (lt_of_heap h8) (fun e => e)).trans h8, h9.kept hu (fun _ _ e => e), h10, h11, h12, h13, h14.trans hu⟩

theorem KpAt.more {w W : World} {p bc i q : Nat} (h : KpAt w p bc i q W) : KpAt w p bc (i + 1) q W := by
  obtain ⟨X, D, G, F, C, sv, tv, snap, txs, h1, h2, h3, h4, h5, h6, h7, h8⟩ := h
  exact ⟨X, D, G, F, C, sv, tv, snap, txs, h1, h2, Dk.Ok.mono h3 (by omega), h4, h5, by omega, by omega, h8⟩

/-- Behind the deed: what was in bc, what would be in bn. -/
def MdAt (w : World) (p bc bn bx i q : Nat) (x : DeedR) (W : World) : Prop := ∃ (X : Lg) (D : Dk) (G F C : Nat → Prop) (sv tv sv2 tv2 : Value) (snap snap2 : List Int) (txs txs2 : List (List Int)),
  Wal W q p X D G F ∧ D.Ok (22000 + 3000000 * i) ∧ (∀ k, G k ∨ F k ∨ C k → w.heap.size ≤ k) ∧
  (W.heap[bc]? = some (.cells #[sv, tv] 30 (0, 0)) ∧ W.heap[bn]? = some (.cells #[sv2, tv2] 30 (0, 0)) ∧ W.heap[bx]? = some (.cells #[.int .i64 x.k, .int .i64 x.n, .slice x.ba x.bn x.bc, .slice x.ka x.kn x.kc] 101 (0, 0))) ∧
  (Con C W sv tv snap txs ∧ Con C W sv2 tv2 snap2 txs2) ∧ ((∀ b ∈ snap :: txs, Bytes b ∧ b.length ≤ 40000) ∧ txs.length ≤ 1000 ∧ (∀ b ∈ snap2 :: txs2, Bytes b ∧ b.length ≤ 40000) ∧ txs2.length ≤ 1000) ∧
  (∀ k, C k → ¬ G k ∧ ¬ F k ∧ k ≠ bc) ∧ (∀ k, k = bc ∨ k = bn ∨ k = bx → ¬ G k ∧ ¬ F k) ∧
  (x.kd < 9 → X.broken = false → LiveP X D ∧ X.parts = snap2 :: txs2 ∧ X.h.turn ≤ 2 + 3 * i ∧ X.h.number + X.parts.length ≤ 3 + i) ∧
  ((x.kd < 9 → X.broken = true) → Shaky D (snap :: txs) (snap2 :: txs2) (2 + 3 * i) (3 + i)) ∧ Upd (fun _ => False) w W

theorem Dk.Ok.setArm {D : Dk} {K : Nat} (h : D.Ok K) {n : Int} (hn : n ≤ 9223372036854775807) : (D.doArm n).Ok K := by
  unfold Dk.doArm
  split
  · exact h
  · exact ⟨h.len, h.blks, h.rblks, h.sorted, h.sent, h.ops, by show -1 ≤ max n (-1) ∧ max n (-1) ≤ 9223372036854775807; omega, h.fail, h.rowlen⟩

theorem Dk.Ok.setFail {D : Dk} {K : Nat} (h : D.Ok K) {n : Int} (hn : n ≤ 9223372036854775807) : (D.doFail n).Ok K := by
  unfold Dk.doFail
  split
  · exact h
  · exact ⟨h.len, h.blks, h.rblks, h.sorted, h.sent, h.ops, h.arm, by show -1 ≤ max n (-1) ∧ max n (-1) ≤ 9223372036854775807; omega, h.rowlen⟩

theorem LiveP.doArm {X : Lg} {D : Dk} (h : LiveP X D) (n : Int) : LiveP X (D.doArm n) := by
  have e : D.doArm n = { D with arm := max n (-1) } := by unfold Dk.doArm; rw [h.dead]; rfl
  rw [e]
  exact ⟨h.ok, h.unbroken, h.law, h.row, h.dead, h.len, h.area⟩

theorem LiveP.doFail {X : Lg} {D : Dk} (h : LiveP X D) (n : Int) : LiveP X (D.doFail n) := by
  have e : D.doFail n = { D with fail := max n (-1) } := by unfold Dk.doFail; rw [h.dead]; rfl
  rw [e]
  exact ⟨h.ok, h.unbroken, h.law, h.row, h.dead, h.len, h.area⟩

theorem Shaky.mono {D : Dk} {P1 P2 : List (List Int)} {T M T' M' : Int} (h : Shaky D P1 P2 T M) (hT : T ≤ T') (hM : M ≤ M') : Shaky D P1 P2 T' M' :=
  ⟨h.1, fun keep => by
    obtain ⟨Y, τ, h1, h2, h3, h4, h5, h6⟩ := h.2 keep
    exact ⟨Y, τ, h1, h2, h3, h4, by omega, by omega⟩⟩

theorem WalS.liveP {w : World} {q p : Nat} {X : Lg} {D : Dk} {G F : Nat → Prop} {K : Nat} (h : WalS w q p X D G F K) (ha : X.h.area = 16) : LiveP X D :=
  ⟨h.g.ok, h.g.unbroken, h.law, h.row, h.g.good.dead, h.g.good.len, ha⟩

/-- The disk was armed, or set to fail. -/
theorem KpAt.set {w W W' : World} {p bc i q : Nat} {X : Lg} {D : Dk} {G F C : Nat → Prop} {sv tv : Value} {snap : List Int} {txs : List (List Int)} (D' : Dk)
    (h1 : Wal W q p X D G F) (h2 : LiveP X D') (h3 : D'.Ok (20000 + 3000000 * i)) (h4 : ∀ k, G k ∨ F k ∨ C k → w.heap.size ≤ k) (h5 : X.parts = snap :: txs) (h6 : X.h.turn ≤ 1 + 3 * i) (h7 : X.h.number + X.parts.length ≤ 2 + i)
    (h8 : W.heap[bc]? = some (.cells #[sv, tv] 30 (0, 0))) (h9 : Con C W sv tv snap txs) (h10 : ∀ k, C k → ¬ G k ∧ ¬ F k ∧ k ≠ bc) (h11 : ¬ G bc) (h12 : ¬ F bc) (h13 : w.heap.size ≤ bc) (h14 : Upd (fun _ => False) w W)
    (hd : Dsk W' p D' F) (hu : Upd (fun k => k = p) W W') : KpAt w p bc (i + 1) q W' := by
  have hp := h1.2.1.mem
  exact KpAt.more ⟨X, D', G, F, C, sv, tv, snap, txs, ⟨h1.1.kept hu (fun k hk e => h1.2.2 k hk (by rw [e]; exact hp)), hd, h1.2.2⟩, h2, h3, h4, h5, h6, h7, (hu.block _ (lt_of_heap h8) (fun e => h12 (by rw [e]; exact hp))).trans h8,
    h9.kept hu (fun k hk e => (h10 k hk).2.1 (by rw [e]; exact hp)), h10, h11, h12, h13, h14.step hu (fun k hk e => by have := h4 p (.inr (.inl hp)); omega)⟩

end Go.Proofs.Ytbimkhdiplnbfaa
end

section
namespace Go.Proofs.Ytbimkhdiplnbfaa
open Go.RowKit Go.Shelf

theorem begun_kp {w w2 w3 : World} {q p bc : Nat} {D : Dk} {G F : Nat → Prop} (hw : WalS w2 q p (fmtX 16) D G F 20000) (hG : ∀ k, G k → w.heap.size ≤ k) (hF : ∀ k, F k → w.heap.size ≤ k) (hu : Upd (fun _ => False) w w2) (hbc : bc = w2.heap.size) (hw3 : w3 = w2.alloc (.cells #[.slice none 0 0, .slice none 0 0] 30)) : KpAt w p bc 0 q w3 := by
  have hu23 : Upd (fun _ => False) w2 w3 := by rw [hw3]; exact (Upd.refl _ w2).alloc _
  have hw' := hw.kept hu23 (fun _ _ e => e) (fun _ _ e => e)
  refine ⟨fmtX 16, D, G, F, fun _ => False, .slice none 0 0, .slice none 0 0, [], [], hw'.g.wal, hw'.liveP rfl, Dk.Ok.mono hw.g.dok (by omega), fun k hk => ?_, rfl, by show (1 : Int) ≤ 1 + 3 * (0 : Nat); omega, by show (1 : Int) + 1 ≤ 2 + (0 : Nat); omega, by rw [hw3, hbc]; exact alloc_at rfl, ⟨fun k hk => hk.elim, [], fun W _ => ⟨.inl ⟨rfl, rfl⟩, World.ownsRow_nil _ _ _ _, fun j u b hj => by simp at hj⟩⟩, fun k hk => hk.elim, fun e => ?_, fun e => ?_, by rw [hbc]; exact hu.size, hu.trans hu23⟩
  · rcases hk with hk | hk | hk
    · exact hG k hk
    · exact hF k hk
    · exact hk.elim
  · have := hw.g.wal.1.lt _ e; omega
  · have := hw.g.wal.2.1.lt _ e; omega

set_option maxRecDepth 100000 in
set_option maxHeartbeats 16000000 in
theorem keeps_run (sa : Option Addr) (sn sc : Nat) (x : Nat → DeedR) (bs : Nat → List Int) (B : Nat → Nat → Bool) (w : World) (hsn : sn ≤ 9223372036854775807) (hrows : DRows w sa sn x bs B) :
    Calls Try.prog 13 #[.slice sa sn sc] w fun e w' => e = .returned (.bool true) ∧ Upd (fun _ => False) w w' := by
  have HRW := Lib.hid hrows
  clear hrows
  go_enter Try.func13, Try.ntmps13
  go_wp2_with (go_at_call 14; fail)
  refine (wakes04_run w).mono ?_
  rintro e w1 ⟨rfl, hu1⟩
  have HU1 := Lib.hid hu1
  clear hu1
  simp only []
  go_wp2_with (go_at_call 15; fail)
  refine (begun_live w1).mono ?_
  rintro e w2 ⟨q0, D, G, F, rfl, hw2, hG2, hF2, hu2⟩
  obtain ⟨p, hp⟩ : ∃ p, p = w1.heap.size + 1 := ⟨_, rfl⟩
  rw [← hp] at hw2 ⊢
  have HU2 := Lib.hid (HU1.out.trans hu2)
  have HW2 := Lib.hid hw2
  have HG2 : RowKit.Hid (∀ k, G k → w.heap.size ≤ k) := Lib.hid (fun k hk => by have := hG2 k hk; have := HU1.out.size; omega)
  have HF2 : RowKit.Hid (∀ k, F k → w.heap.size ≤ k) := Lib.hid (fun k hk => by have := hF2 k hk; have := HU1.out.size; omega)
  clear hw2 hG2 hF2 hu2 HU1 hp
  simp only []
  go_upto_region 7 with fail
  obtain ⟨bc, hbc⟩ : ∃ bc, bc = w2.heap.size := ⟨_, rfl⟩
  obtain ⟨w3, hw3⟩ : ∃ w3, w3 = w2.alloc (.cells #[.slice none 0 0, .slice none 0 0] 30) := ⟨_, rfl⟩
  have HST := Lib.hid (begun_kp HW2.out HG2.out HF2.out HU2.out hbc hw3)
  rw [← hbc, ← hw3]
  clear hw3 hbc HW2 HG2 HF2 HU2
  go_wp2_with fail
  go_loopg [3, 25] sn (fun gk qv iv wr => ∃ i q : Nat, i ≤ sn ∧ i ≤ 40 ∧ gk = sn - i ∧ qv = .pointer (some ⟨q, 0, none⟩) ∧ iv = .int .i64 i ∧ KpAt w p bc i q wr)
  case atStart => exact ⟨0, q0, by omega, by omega, rfl, rfl, rfl, HST.out⟩
  case round =>
    clear HST
    obtain ⟨i, q, hi, hi40, rfl, rfl, rfl, hst⟩ := hrel
    obtain ⟨wo, rfl⟩ : ∃ wo, wo = wr := ⟨_, rfl⟩
    have hu : Upd (fun _ => False) w wo := by
      obtain ⟨_, _, _, _, _, _, _, _, _, _, _, _, _, _, _, _, _, _, _, _, _, _, h⟩ := hst
      exact h
    have HS := Lib.hid hst
    have HU := Lib.hid hu
    clear hst
    by_cases hin : i < sn
    · have hin2 : (i : Int) < sn := by omega
      obtain ⟨⟨sb, so, hsa, hsb, y0, y1, y2, y3⟩, hdeed⟩ := (HRW.out.kept hu) i hin
      subst hsa
      have HDE := Lib.hid hdeed
      clear hdeed hu
      by_cases h40 : i = 40
      · subst h40
        go_wp2
        go_ret
        exact ⟨rfl, HU.out.trans ((Upd.refl _ _).alloc _)⟩
      · have hb40 : ((i : Int) == 40) = false := by simp; omega
        have hi39 : i ≤ 39 := by omega
        have hx40 : ¬ (i : Int) = 40 := by omega
        go_upto_region 11 with fail
        obtain ⟨y, hy⟩ : ∃ y, y = x i := ⟨_, rfl⟩
        have HDEW : RowKit.Hid (DeedIn w y (bs i) (B i)) := Lib.hid (by rw [hy]; exact (HRW.out i hin).2)
        rw [← hy] at HDE ⊢
        clear y0 y1 y2 y3 hsb
        obtain ⟨wv, hwv⟩ : ∃ wv, wv = wo.alloc (.cells #[.int .i64 y.k, .int .i64 y.n, .slice y.ba y.bn y.bc, .slice y.ka y.kn y.kc] 101) := ⟨_, rfl⟩
        have huv : Upd (fun _ => False) wo wv := by rw [hwv]; exact (Upd.refl _ wo).alloc _
        have hbx : wv.heap[wo.heap.size]? = some (.cells #[.int .i64 y.k, .int .i64 y.n, .slice y.ba y.bn y.bc, .slice y.ka y.kn y.kc] 101 (0, 0)) := by rw [hwv]; exact alloc_at rfl
        rw [← hwv]
        have hzv : wv.heap.size = wo.heap.size + 1 := by rw [hwv]; simp
        obtain ⟨X, D, G, F, C, sv, tv, snap, txs, hwal, hlive, hdok, hbase, hparts, hturn, hnum, hbc, hcon, hcapart, hgb, hfb, hbw, hup⟩ := HS.out
        obtain ⟨hs1, hs2⟩ := hcon.reads
        obtain ⟨sa', sc', rfl⟩ := hs1.slice'
        obtain ⟨vs', hr1, _⟩ := hs2
        obtain ⟨ta, tc, rfl⟩ := rowV hr1
        have hbcv := (huv.block _ (lt_of_heap hbc) (fun e => e)).trans hbc
        obtain ⟨c0, c1⟩ := cells2_of hbcv
        obtain ⟨z0, z1, z2, z3⟩ := cells4_of hbx
        have HBX := Lib.hid hbx; have HUV := Lib.hid huv; have HWAL := Lib.hid hwal; have HLIVE := Lib.hid hlive; have HDOK := Lib.hid hdok; have HBASE := Lib.hid hbase; have HPA := Lib.hid hparts; have HTU := Lib.hid hturn; have HNU := Lib.hid hnum; have HBC := Lib.hid hbc; have HCON := Lib.hid hcon; have HCA := Lib.hid hcapart; have HGB := Lib.hid hgb; have HFB := Lib.hid hfb; have HBW := Lib.hid hbw; have HZV := Lib.hid hzv
        clear hbx huv hwal hlive hdok hbase hparts hturn hnum hbc hcon hcapart hgb hfb hbw hup hbcv hs1 hr1 hwv HS hy hzv
        go_upto_region 12 with fail
        obtain ⟨wn, hwn⟩ : ∃ wn, wn = wv.alloc (.cells #[.slice sa' snap.length sc', .slice ta txs.length tc] 30) := ⟨_, rfl⟩
        have hun : Upd (fun _ => False) wv wn := by rw [hwn]; exact (Upd.refl _ wv).alloc _
        have hbn : wn.heap[wv.heap.size]? = some (.cells #[.slice sa' snap.length sc', .slice ta txs.length tc] 30 (0, 0)) := by rw [hwn]; exact alloc_at rfl
        rw [← hwn]
        clear hwn c0 c1 z0 z1 z2 z3
        obtain ⟨z0, z1, z2, z3⟩ := cells4_of ((hun.block _ (lt_of_heap HBX.out) (fun e => e)).trans HBX.out)
        go_wp2_with (go_at_call 61; fail)
        clear z0 z1 z2 z3
        refine (kindD_run y wn).mono ?_
        rintro e w5 ⟨rfl, hu5⟩
        obtain ⟨bn, hbnd⟩ : ∃ bn, bn = wv.heap.size := ⟨_, rfl⟩
        obtain ⟨bx, hbxd⟩ : ∃ bx, bx = wo.heap.size := ⟨_, rfl⟩
        have HBN := Lib.hid ((hu5.block _ (lt_of_heap hbn) (fun e => e)).trans hbn)
        have hun5 := hun.trans hu5
        have HBX := Lib.hid ((hun5.block _ (lt_of_heap HBX.out) (fun e => e)).trans HBX.out)
        have HU5 := Lib.hid (HUV.out.trans hun5)
        have HBXO : RowKit.Hid (wo.heap.size ≤ bx ∧ bx < bn ∧ bn < wo.heap.size + 2) := Lib.hid (by have := HZV.out; omega)
        rw [← hbnd] at HBN
        rw [← hbxd] at HBX
        rw [← hbxd, ← hbnd]
        obtain ⟨kd, hkd⟩ : ∃ kd, kd = y.kd := ⟨_, rfl⟩
        have hkr := y.kd_range
        rw [← hkd] at hkr ⊢
        have HKD := Lib.hid hkd
        clear hun hbn hu5 hun5 hbnd hbxd HUV HZV hkd
        -- all at w5
        have hwal5 : Wal w5 q p X D G F := ⟨HWAL.out.1.kept HU5.out (fun _ _ e => e), HWAL.out.2.1.kept HU5.out (fun _ _ e => e), HWAL.out.2.2⟩
        have HCON5 := Lib.hid (HCON.out.kept HU5.out (fun _ _ e => e))
        have HBC5 := Lib.hid ((HU5.out.block _ (lt_of_heap HBC.out) (fun e => e)).trans HBC.out)
        have HUW5 := Lib.hid (HU.out.trans HU5.out)
        have HDE5 := Lib.hid (HDE.out.kept HU5.out)
        have hlt1 := HWAL.out.1.lt; have hlt2 := HWAL.out.2.1.lt; have hlt3 := HCON.out.1
        have HOLD : RowKit.Hid (∀ k, G k ∨ F k ∨ C k → k < wo.heap.size) := Lib.hid (fun k hk => by
          rcases hk with hk | hk | hk
          · exact hlt1 k hk
          · exact hlt2 k hk
          · exact hlt3 k hk)
        have HWAL5 := Lib.hid hwal5
        have HBCL : RowKit.Hid (bc < wo.heap.size) := Lib.hid (lt_of_heap HBC.out)
        clear hwal5 hlt1 hlt2 hlt3 HWAL HCON HBC HU5 HU
        simp only []
        go_upto_block 2 with fail
        by_cases h78 : kd = 7 ∨ kd = 8
        · obtain ⟨z0, z1, z2, z3⟩ := cells4_of HBX.out
          have hawk : D.awake = 0 := by unfold Dk.awake; rw [HLIVE.out.dead]; rfl
          have HAW := Lib.hid hawk
          have hmx : 0 ≤ max y.n 0 := by omega
          clear hawk z0 z2 z3
          have hn64 := HDE5.out.n64
          rcases h78 with rfl | rfl
          · go_wp2_with (go_at_call 55; fail)
            have hfin : ∀ n : Int, n ≤ 9223372036854775807 → ∀ W', Dsk W' p (D.doArm n) F → Upd (fun k => k = p) w5 W' → KpAt w p bc (i + 1) q W' := fun n hn W' hd hu =>
              KpAt.set (D.doArm n) HWAL5.out (HLIVE.out.doArm n) (HDOK.out.setArm hn) HBASE.out HPA.out HTU.out HNU.out HBC5.out HCON5.out HCA.out HGB.out HFB.out HBW.out HUW5.out hd hu
            have HFIN := Lib.hid hfin
            clear hfin z1
            refine (doArm_any _ w5 HWAL5.out.2.1).mono ?_
            rintro e w6 ⟨rfl, hd6, hu6⟩
            have HEND := Lib.hid (HFIN.out _ (by omega) w6 hd6 hu6)
            rw [HAW.out]
            clear hd6 hu6
            simp only []
            go_wp2
            go_roundg (sn - (i + 1))
            case measure => omega
            case rel => exact ⟨i + 1, q, by omega, by omega, rfl, rfl, by simp, HEND.out⟩
          · go_wp2_with (go_at_call 56; fail)
            have hfin : ∀ n : Int, n ≤ 9223372036854775807 → ∀ W', Dsk W' p (D.doFail n) F → Upd (fun k => k = p) w5 W' → KpAt w p bc (i + 1) q W' := fun n hn W' hd hu =>
              KpAt.set (D.doFail n) HWAL5.out (HLIVE.out.doFail n) (HDOK.out.setFail hn) HBASE.out HPA.out HTU.out HNU.out HBC5.out HCON5.out HCA.out HGB.out HFB.out HBW.out HUW5.out hd hu
            have HFIN := Lib.hid hfin
            clear hfin z1
            refine (doFail_any _ w5 HWAL5.out.2.1).mono ?_
            rintro e w6 ⟨rfl, hd6, hu6⟩
            have HEND := Lib.hid (HFIN.out _ (by omega) w6 hd6 hu6)
            rw [HAW.out]
            clear hd6 hu6
            simp only []
            go_wp2
            go_roundg (sn - (i + 1))
            case measure => omega
            case rel => exact ⟨i + 1, q, by omega, by omega, rfl, rfl, by simp, HEND.out⟩
        · have hk78 : kd ≤ 6 ∨ 9 ≤ kd := by omega
          clear h78
          go_cut [] from 26 to 142 (fun wr => MdAt w p bc bn bx i q y wr)
          case first =>
            rcases hk78 with hk6 | hk9
            · obtain ⟨z0, z1, z2, z3⟩ := cells4_of HBX.out
              obtain ⟨c0, c1⟩ := cells2_of HBC5.out
              have hk7 : kd < 7 := by omega
              have hwith : Calls Try.prog 62 #[.agg #[.slice sa' snap.length sc', .slice ta txs.length tc], .pointer (some ⟨q, 0, none⟩), deedV y] w5 fun e w' => ∃ r, e = .returned r ∧ DeedOut w5 w' q p X D G F C (20000 + 3000000 * i) r := by
                have hcg : ∀ k, C k → ¬ G k ∧ ¬ F k := fun k hk => ⟨(HCA.out k hk).1, (HCA.out k hk).2.1⟩
                have h1 := HNU.out; have h2 := HTU.out; have h3 := HKD.out
                by_cases hk5 : y.kd < 5
                · exact with_app w5 HWAL5.out HLIVE.out HDOK.out (by omega) HCON5.out hcg HDE5.out hk5 HPA.out (by omega)
                · exact with_cp w5 HWAL5.out HLIVE.out HDOK.out (by omega) HCON5.out hcg HDE5.out (by omega) HPA.out (by omega) (by omega)
              have HWI := Lib.hid hwith
              clear hwith
              go_wp2_with (go_at_call 62; fail)
              refine HWI.out.mono ?_
              rintro e w6 ⟨r, rfl, hdo⟩
              obtain ⟨sv2, tv2, snap2, txs2, C2, E, X2, D2, G2, F2, rfl, hcon2, hby2, htl2, hw2, hdk2, hCC, hC2, hcg2, hG2, hF2, hu6, hcase⟩ := hdo
              obtain ⟨hs1, hs2⟩ := hcon2.reads
              obtain ⟨sb2, sc2, rfl⟩ := hs1.slice'
              obtain ⟨vs2, hr2, _⟩ := hs2
              obtain ⟨tb2, tc2, rfl⟩ := rowV hr2
              have hz5 : bn < w5.heap.size := lt_of_heap HBN.out
              have hbxo := HBXO.out; have hbcl := HBCL.out; have hold := HOLD.out
              have hnb : ∀ k, k = bc ∨ k = bn ∨ k = bx → ¬ (G k ∨ F k) ∧ k < w5.heap.size := fun k hk => by
                rcases hk with hk | hk | hk
                · rw [hk]; exact ⟨fun e => e.elim HGB.out HFB.out, by omega⟩
                · exact ⟨fun e => by have := hold k (e.imp id .inl); omega, by omega⟩
                · exact ⟨fun e => by have := hold k (e.imp id .inl); omega, by omega⟩
              have hbc6 := (hu6.block bc (hnb bc (.inl rfl)).2 (hnb bc (.inl rfl)).1).trans HBC5.out
              have hbn6 := (hu6.block bn (hnb bn (.inr (.inl rfl))).2 (hnb bn (.inr (.inl rfl))).1).trans HBN.out
              have hbx6 := (hu6.block bx (hnb bx (.inr (.inr rfl))).2 (hnb bx (.inr (.inr rfl))).1).trans HBX.out
              have hzw5 := HUW5.out.size
              have HBASE2 : RowKit.Hid (∀ k, G2 k ∨ F2 k ∨ C2 k → w.heap.size ≤ k) := Lib.hid (fun k hk => by
                rcases hk with hk | hk | hk
                · exact (hG2 k hk).elim (fun e => HBASE.out k (.inl e)) (fun e => by omega)
                · exact (hF2 k hk).elim (fun e => HBASE.out k (.inr (.inl e))) (fun e => by omega)
                · exact (hC2 k hk).elim (fun e => HBASE.out k (.inr (.inr e))) (fun e => by omega))
              have HBOX2 : RowKit.Hid (∀ k, k = bc ∨ k = bn ∨ k = bx → ¬ G2 k ∧ ¬ F2 k) := Lib.hid (fun k hk => by
                have h1 := hnb k hk
                exact ⟨fun e => (hG2 k e).elim (fun e => h1.1 (.inl e)) (fun e => by omega), fun e => (hF2 k e).elim (fun e => h1.1 (.inr e)) (fun e => by omega)⟩)
              have HC2B : RowKit.Hid (∀ k, C2 k → k ≠ bc ∧ k ≠ bn ∧ k ≠ bx) := Lib.hid (fun k hk => (hC2 k hk).elim (fun e => by
                have h1 := (HCA.out k e).2.2; have h2 := hold k (.inr (.inr e)); exact ⟨h1, by omega, by omega⟩) (fun e => ⟨by omega, by omega, by omega⟩))
              have HCA6 : RowKit.Hid (Con C2 w6 (.slice sa' snap.length sc') (.slice ta txs.length tc) snap txs) := Lib.hid ((HCON5.out.kept hu6 (fun k hk e => e.elim (HCA.out k hk).1 (HCA.out k hk).2.1)).mono hCC hcon2.1)
              have HUW6 : RowKit.Hid (Upd (fun _ => False) w w6) := Lib.hid (HUW5.out.step hu6 (fun k hk e => by have := HBASE.out k (e.imp id .inl); omega))
              have hbyc := HLIVE.out.ok.bytes; have hlc := HLIVE.out.ok.len
              rw [HPA.out] at hbyc hlc
              have HBYC : RowKit.Hid ((∀ b ∈ snap :: txs, Bytes b ∧ b.length ≤ 40000) ∧ txs.length ≤ 1000) := Lib.hid ⟨hbyc, by simp at hlc; omega⟩
              have HCON2 := Lib.hid hcon2; have HBY2 := Lib.hid hby2; have HTL2 := Lib.hid htl2; have HW2 := Lib.hid hw2; have HDK2 := Lib.hid hdk2; have HCG2 := Lib.hid hcg2; have HCASE := Lib.hid hcase
              have HBC6 := Lib.hid hbc6; have HBN6 := Lib.hid hbn6; have HBX6 := Lib.hid hbx6
              obtain ⟨g0, g1⟩ := cells2_of hbn6
              have ff0 : w6.frozen? ⟨bn, 0, none⟩ = false := frozen_of_heap hbn6
              have ff1 : w6.frozen? ⟨bn, 1, none⟩ = false := frozen_of_heap hbn6
              have hbw := HBW.out
              clear hbxo hbyc hlc hcon2 hby2 htl2 hw2 hdk2 hCC hC2 hcg2 hG2 hF2 hu6 hcase hs1 hr2 hnb hbc6 hbn6 hbx6 hold z0 z1 z2 z3 c0 c1 HWI
              simp only []
              go_upto_region 15 with fail
              obtain ⟨w7, hw7⟩ : ∃ w7, w7 = (w6.setCell ⟨bn, 0, none⟩ (.slice sb2 snap2.length sc2)).setCell ⟨bn, 1, none⟩ (.slice tb2 txs2.length tc2) := ⟨_, rfl⟩
              have hu67 : Upd (fun k => k = bn) w6 w7 := by rw [hw7]; exact (upd_own w6 _ 0 _).trans (upd_own _ _ 1 _)
              have hbn7 : w7.heap[bn]? = some (.cells #[.slice sb2 snap2.length sc2, .slice tb2 txs2.length tc2] 30 (0, 0)) := by
                have := blk_set (i := 1) (v := .slice tb2 txs2.length tc2) (blk_set (i := 0) (v := .slice sb2 snap2.length sc2) HBN6.out)
                rw [hw7]
                simpa using this
              rw [← hw7]
              have HU67 := Lib.hid hu67
              have HBN7 := Lib.hid hbn7
              clear hw7 hu67 hbn7 ff0 ff1 g0 g1
              have hbxo := HBXO.out
              have hzb : bc ≠ bn ∧ bx ≠ bn := ⟨by omega, by omega⟩
              have HWBN : RowKit.Hid (w.heap.size ≤ bn) := Lib.hid (by omega)
              clear hbxo
              -- what holds behind a store into bn
              have HALL : RowKit.Hid (∀ (W : World) (sv3 tv3 : Value) (snap3 : List Int) (txs3 : List (List Int)), Upd (fun k => k = bn) w6 W → W.heap[bn]? = some (.cells #[sv3, tv3] 30 (0, 0)) → Con C2 w6 sv3 tv3 snap3 txs3 → ((∀ b ∈ snap3 :: txs3, Bytes b ∧ b.length ≤ 40000) ∧ txs3.length ≤ 1000) →
                  (X2.broken = false → LiveP X2 D2 ∧ X2.parts = snap3 :: txs3 ∧ X2.h.turn ≤ 2 + 3 * i ∧ X2.h.number + X2.parts.length ≤ 3 + i) → (X2.broken = true → Shaky D2 (snap :: txs) (snap3 :: txs3) (2 + 3 * i) (3 + i)) → MdAt w p bc bn bx i q y W) := Lib.hid (fun W sv3 tv3 snap3 txs3 hu hb hc hby h1 h2 =>
                ⟨X2, D2, G2, F2, C2, .slice sa' snap.length sc', .slice ta txs.length tc, sv3, tv3, snap, snap3, txs, txs3,
                  ⟨HW2.out.1.kept hu (fun k hk e => (HBOX2.out k (.inr (.inl e))).1 hk), HW2.out.2.1.kept hu (fun k hk e => (HBOX2.out k (.inr (.inl e))).2 hk), HW2.out.2.2⟩, Dk.Ok.mono HDK2.out (by omega), HBASE2.out,
                  ⟨(hu.block bc (lt_of_heap HBC6.out) hzb.1).trans HBC6.out, hb, (hu.block bx (lt_of_heap HBX6.out) hzb.2).trans HBX6.out⟩, ⟨HCA6.out.kept hu (fun k hk => (HC2B.out k hk).2.1), hc.kept hu (fun k hk => (HC2B.out k hk).2.1)⟩, ⟨HBYC.out.1, HBYC.out.2, hby.1, hby.2⟩,
                  fun k hk => ⟨(HCG2.out k hk).1, (HCG2.out k hk).2, (HC2B.out k hk).1⟩, HBOX2.out, fun _ h => h1 h, fun h => h2 (h (by rw [← HKD.out]; omega)), HUW6.out.step hu (fun k hk e => by have := HWBN.out; omega)⟩)
              by_cases hE : E = 6 ∨ E = 3
              · have hX2 : X2 = X ∧ D2 = D := by
                  rcases HCASE.out with ⟨_, h1, h2⟩ | ⟨h, _⟩ | ⟨h, _⟩
                  · exact ⟨h1, h2⟩
                  · omega
                  · omega
                have HX2 := Lib.hid hX2
                have hbc7 := (HU67.out.block bc (lt_of_heap HBC6.out) hzb.1).trans HBC6.out
                obtain ⟨c0, c1⟩ := cells2_of hbc7
                obtain ⟨g0, g1⟩ := cells2_of HBN7.out
                have ff0 : w7.frozen? ⟨bn, 0, none⟩ = false := frozen_of_heap HBN7.out
                have ff1 : w7.frozen? ⟨bn, 1, none⟩ = false := frozen_of_heap HBN7.out
                have HMD : RowKit.Hid (MdAt w p bc bn bx i q y ((w7.setCell ⟨bn, 0, none⟩ (.slice sa' snap.length sc')).setCell ⟨bn, 1, none⟩ (.slice ta txs.length tc))) := Lib.hid (HALL.out _ (.slice sa' snap.length sc') (.slice ta txs.length tc) snap txs (HU67.out.trans ((upd_own w7 _ 0 _).trans (upd_own _ _ 1 _))) (by
                  have := blk_set (i := 1) (v := .slice ta txs.length tc) (blk_set (i := 0) (v := .slice sa' snap.length sc') HBN7.out)
                  simpa using this) HCA6.out HBYC.out (fun _ => by
                    rw [HX2.out.1, HX2.out.2]
                    exact ⟨HLIVE.out, HPA.out, by have := HTU.out; omega, by have := HNU.out; omega⟩) (fun h => by rw [HX2.out.1, HLIVE.out.unbroken] at h; cases h))
                clear hX2 hbc7
                rcases hE with rfl | rfl
                · go_wp2
                  go_meet
                  case rel => exact HMD.out
                · go_wp2
                  go_meet
                  case rel => exact HMD.out
              · have hE6 : ¬ E = 6 := fun e => hE (.inl e)
                have hE3 : ¬ E = 3 := fun e => hE (.inr e)
                have HMD : RowKit.Hid (MdAt w p bc bn bx i q y w7) := Lib.hid (HALL.out w7 _ _ snap2 txs2 HU67.out HBN7.out HCON2.out ⟨HBY2.out, HTL2.out⟩ (fun h => by
                    rcases HCASE.out with ⟨h1, _⟩ | ⟨_, h1, h2, h3, h4⟩ | ⟨_, h1, _⟩
                    · omega
                    · exact ⟨h1, h2, by have := HTU.out; omega, by have := HNU.out; omega⟩
                    · rw [h] at h1; cases h1) (fun h => by
                    rcases HCASE.out with ⟨h1, _⟩ | ⟨_, h1, _⟩ | ⟨_, _, h1⟩
                    · omega
                    · rw [h1.unbroken] at h; cases h
                    · rw [HPA.out] at h1
                      have g1 := HTU.out; have g2 := HNU.out
                      rw [HPA.out] at g2
                      exact h1.mono (by omega) (by omega)))
                have hb6 : (E == 6) = false := by simpa using hE6
                have hb3 : (E == 3) = false := by simpa using hE3
                clear hE
                go_wp2
                go_meet
                case rel => exact HMD.out
            · have HMD : RowKit.Hid (MdAt w p bc bn bx i q y w5) := Lib.hid (by
                have hbyc := HLIVE.out.ok.bytes; have hlc := HLIVE.out.ok.len
                rw [HPA.out] at hbyc hlc
                have hlc' : txs.length ≤ 1000 := by simp at hlc; omega
                have g1 := HTU.out; have g2 := HNU.out; have h3 := HKD.out
                have hbxo := HBXO.out; have hold := HOLD.out
                refine ⟨X, D, G, F, C, .slice sa' snap.length sc', .slice ta txs.length tc, .slice sa' snap.length sc', .slice ta txs.length tc, snap, snap, txs, txs, HWAL5.out, Dk.Ok.mono HDOK.out (by omega), HBASE.out, ⟨HBC5.out, HBN.out, HBX.out⟩, ⟨HCON5.out, HCON5.out⟩, ⟨hbyc, hlc', hbyc, hlc'⟩, HCA.out, fun k hk => ?_, fun h => by omega, fun _ => ?_, HUW5.out⟩
                · rcases hk with hk | hk | hk
                  · rw [hk]; exact ⟨HGB.out, HFB.out⟩
                  · exact ⟨fun e => by have := hold k (.inl e); omega, fun e => by have := hold k (.inr (.inl e)); omega⟩
                  · exact ⟨fun e => by have := hold k (.inl e); omega, fun e => by have := hold k (.inr (.inl e)); omega⟩
                · have := HLIVE.out.shaky (P2 := snap :: txs) (T := 2 + 3 * (i : Int)) (M := 3 + (i : Int)) (by omega) (by omega)
                  rwa [HPA.out] at this)
              have e7 : ¬ kd < 7 := by omega
              have e77 : ¬ kd = 7 := by omega
              have e8 : ¬ kd = 8 := by omega
              have e9 : ¬ kd < 9 := by omega
              go_wp2
              go_meet
              case rel => exact HMD.out
          case rest =>
            obtain ⟨wm, rfl⟩ : ∃ wm, wm = wc := ⟨_, rfl⟩
            obtain ⟨X1, D1, G1, F1, C1, sv, tv, sv2, tv2, snap1, snap2, txs1, txs2, hw1, hdk1, hbase1, ⟨hbc1, hbn1, hbx1⟩, ⟨hcA, hcB⟩, ⟨hbyA, hlA, hbyB, hlB⟩, hcap1, hbox1, hgood, hbad, huw⟩ := hcut
            obtain ⟨hs1, hs2⟩ := hcA.reads
            obtain ⟨sb1, sc1, rfl⟩ := hs1.slice'
            obtain ⟨vs1, hr1, _⟩ := hs2
            obtain ⟨tb1, tc1, rfl⟩ := rowV hr1
            obtain ⟨hs3, hs4⟩ := hcB.reads
            obtain ⟨sb2, sc2, rfl⟩ := hs3.slice'
            obtain ⟨vs2, hr2, _⟩ := hs4
            obtain ⟨tb2, tc2, rfl⟩ := rowV hr2
            have HW1 := Lib.hid hw1; have HDK1 := Lib.hid hdk1; have HBA1 := Lib.hid hbase1; have HBC1 := Lib.hid hbc1; have HBN1 := Lib.hid hbn1; have HBX1 := Lib.hid hbx1; have HCA := Lib.hid hcA; have HCB := Lib.hid hcB; have HBYA := Lib.hid hbyA; have HLA := Lib.hid hlA; have HBYB := Lib.hid hbyB; have HLB := Lib.hid hlB; have HCP1 := Lib.hid hcap1; have HBO1 := Lib.hid hbox1; have HGOOD := Lib.hid hgood; have HBAD := Lib.hid hbad; have HUW := Lib.hid huw
            have HBNB : RowKit.Hid (bc ≠ bn ∧ w.heap.size ≤ bc) := Lib.hid (by have h1 := HBXO.out; have h2 := HBCL.out; have h3 := HBW.out; omega)
            obtain ⟨z0, z1, z2, z3⟩ := cells4_of hbx1
            clear hw1 hdk1 hbase1 hbc1 hbn1 hbx1 hcA hcB hbyA hlA hbyB hlB hcap1 hbox1 hgood hbad huw hs1 hs3 hr1 hr2 HBX HBN HBXO HWAL5 HCON5 HBC5 HUW5 HOLD HBCL HLIVE HDOK HBASE HPA HTU HNU HGB HFB HDE5 hk78 hkr HKD
            go_upto_region 21 with fail
            go_cut [85] from 26 to 142 (fun v wr => ∃ c : Bool, v = .bool c ∧ (c = true → y.kd < 9 ∧ X1.broken = false) ∧ (c = false → y.kd < 9 → X1.broken = true) ∧ Upd (fun _ => False) wm wr)
            case first =>
              go_wp2_with (go_at_call 61; fail)
              refine (kindD_run y wm).mono ?_
              rintro e wa ⟨rfl, hua⟩
              have HUA := Lib.hid hua
              clear hua z0 z1 z2 z3
              simp only []
              by_cases hk9 : y.kd < 9
              · go_wp2_with (go_at_call 28; fail)
                refine (broken_any wa (HW1.out.1.kept HUA.out (fun _ _ e => e))).mono ?_
                rintro e wb ⟨rfl, hub⟩
                have HUB := Lib.hid (HUA.out.trans hub)
                clear hub
                obtain ⟨br, hbr⟩ : ∃ br, br = X1.broken := ⟨_, rfl⟩
                have HBR := Lib.hid hbr
                rw [← hbr]
                clear hbr
                cases br with
                | true =>
                  simp only []
                  go_wp2
                  go_meet
                  case rel => exact ⟨false, rfl, (fun h => by cases h), fun _ _ => HBR.out.symm, HUB.out⟩
                | false =>
                  simp only []
                  go_wp2
                  go_meet
                  case rel => exact ⟨true, rfl, fun _ => ⟨hk9, HBR.out.symm⟩, (fun h => by cases h), HUB.out⟩
              · go_wp2
                go_meet
                case rel => exact ⟨false, rfl, (fun h => by cases h), fun _ h => absurd h (by omega), HUA.out⟩
            case rest =>
              obtain ⟨wq, rfl⟩ : ∃ wq, wq = wc := ⟨_, rfl⟩
              obtain ⟨c, rfl, hct, hcf, huc⟩ := hcut
              have HUC := Lib.hid huc
              clear huc z0 z1 z2 z3
              have HUWC := Lib.hid (HUW.out.trans HUC.out)
              have HBCc := Lib.hid ((HUC.out.block _ (lt_of_heap HBC1.out) (fun e => e)).trans HBC1.out)
              have HBNc := Lib.hid ((HUC.out.block _ (lt_of_heap HBN1.out) (fun e => e)).trans HBN1.out)
              have HCAc := Lib.hid (HCA.out.kept HUC.out (fun _ _ e => e))
              have HCBc := Lib.hid (HCB.out.kept HUC.out (fun _ _ e => e))
              cases c with
              | true =>
                obtain ⟨hlv, hpn, htn, hnn⟩ := HGOOD.out (hct rfl).1 (hct rfl).2
                have HLV := Lib.hid hlv; have HPN := Lib.hid hpn; have HTN := Lib.hid htn; have HNN := Lib.hid hnn
                obtain ⟨c0, c1⟩ := cells2_of HBCc.out
                obtain ⟨g0, g1⟩ := cells2_of HBNc.out
                have ff0 : wq.frozen? ⟨bc, 0, none⟩ = false := frozen_of_heap HBCc.out
                have ff1 : wq.frozen? ⟨bc, 1, none⟩ = false := frozen_of_heap HBCc.out
                clear hct hcf hlv hpn htn hnn
                go_upto_region 23 with fail
                obtain ⟨w7, hw7⟩ : ∃ w7, w7 = (wq.setCell ⟨bc, 0, none⟩ (.slice sb2 snap2.length sc2)).setCell ⟨bc, 1, none⟩ (.slice tb2 txs2.length tc2) := ⟨_, rfl⟩
                have hu67 : Upd (fun k => k = bc) wq w7 := by rw [hw7]; exact (upd_own wq _ 0 _).trans (upd_own _ _ 1 _)
                have hbn7 : w7.heap[bc]? = some (.cells #[.slice sb2 snap2.length sc2, .slice tb2 txs2.length tc2] 30 (0, 0)) := by
                  have := blk_set (i := 1) (v := .slice tb2 txs2.length tc2) (blk_set (i := 0) (v := .slice sb2 snap2.length sc2) HBCc.out)
                  rw [hw7]
                  simpa using this
                rw [← hw7]
                clear hw7 c0 c1 g0 g1 ff0 ff1
                have hkp : KpAt w p bc (i + 1) q w7 := by
                  have h1 := HTN.out; have h2 := HNN.out; have h3 := HBNB.out
                  exact ⟨X1, D1, G1, F1, C1, .slice sb2 snap2.length sc2, .slice tb2 txs2.length tc2, snap2, txs2, ⟨(HW1.out.1.kept HUC.out (fun _ _ e => e)).kept hu67 (fun k hk e => (HBO1.out k (.inl e)).1 hk), (HW1.out.2.1.kept HUC.out (fun _ _ e => e)).kept hu67 (fun k hk e => (HBO1.out k (.inl e)).2 hk), HW1.out.2.2⟩, HLV.out, Dk.Ok.mono HDK1.out (by omega), HBA1.out, HPN.out, by omega, by omega, hbn7, HCBc.out.kept hu67 (fun k hk => (HCP1.out k hk).2.2), HCP1.out, (HBO1.out bc (.inl rfl)).1, (HBO1.out bc (.inl rfl)).2, h3.2, HUWC.out.step hu67 (fun k hk e => by omega)⟩
                have HKP := Lib.hid hkp
                obtain ⟨hcon7, hrows7⟩ := (HCBc.out.kept hu67 (fun k hk => (HCP1.out k hk).2.2)).reads
                have hin := in_any (sv := .slice sb2 snap2.length sc2) (snap := snap2) (txs := txs2) w7 ((HW1.out.1.kept HUC.out (fun _ _ e => e)).kept hu67 (fun k hk e => (HBO1.out k (.inl e)).1 hk)) HLV.out.ok (by rw [HPN.out]; simp) HLV.out.area HLV.out.law.sum hcon7 (HBYB.out snap2 (by simp)).1 (HBYB.out snap2 (by simp)).2 hrows7 (fun b hb => HBYB.out b (by simp [hb])) HLB.out
                rw [show decide (X1.parts = snap2 :: txs2) = true by rw [HPN.out]; simp] at hin
                have HIN := Lib.hid hin
                obtain ⟨c0, c1⟩ := cells2_of hbn7
                clear hkp hcon7 hrows7 hin hu67 hbn7
                go_wp2_with (go_at_call 22; fail)
                refine HIN.out.mono ?_
                rintro e w8 ⟨rfl, hu8⟩
                have HEND := Lib.hid (HKP.out.same hu8)
                clear hu8 c0 c1
                simp only []
                go_wp2
                go_roundg (sn - (i + 1))
                case measure => omega
                case rel => exact ⟨i + 1, q, by omega, by omega, rfl, rfl, by simp, HEND.out⟩
              | false =>
                have HSH := Lib.hid (HBAD.out (hcf rfl))
                have HBXc := Lib.hid ((HUC.out.block _ (lt_of_heap HBX1.out) (fun e => e)).trans HBX1.out)
                obtain ⟨z0, z1, z2, z3⟩ := cells4_of HBXc.out
                clear hct hcf
                go_wp2_with (go_at_call 63; fail)
                refine (keepD_any wq (HDEW.out.kept HUWC.out)).mono ?_
                rintro e wk ⟨⟨ka', kc', rfl, hbo⟩, huk⟩
                obtain ⟨m, hm⟩ : ∃ m : Nat, m = min y.kn 60 := ⟨_, rfl⟩
                rw [← hm] at hbo ⊢
                have hml : m ≤ 60 := by omega
                have HUK := Lib.hid huk
                have hcr := crash_any wk ka' kc' ((List.range m).map (B i)) hbo (by simp; omega) (HW1.out.2.1.kept (HUC.out.trans huk) (fun _ _ e => e)) (Dk.Ok.mono HDK1.out (by omega))
                rw [show ((List.range m).map (B i)).length = m by simp] at hcr
                have HCR := Lib.hid hcr
                clear hcr hbo huk hm z0 z1 z2 z3
                simp only []
                go_wp2_with (go_at_call 40; fail)
                refine HCR.out.mono ?_
                rintro e w8 ⟨rfl, F8, hd8, hF8, hu8⟩
                obtain ⟨keep, hkeep⟩ : ∃ keep, keep = (List.range m).map (B i) := ⟨_, rfl⟩
                rw [← hkeep] at hd8
                obtain ⟨hlen, hsh⟩ := HSH.out
                obtain ⟨Y, τ, hlaw, hτ, har, hpar, hty, hny⟩ := hsh keep
                have hg3 : (D1.crash keep).Good 34 := by rw [← hlen]; exact (crash_good D1 keep).1
                have hop := open_live w8 hd8 hlaw hg3 (HDK1.out.crash keep) (by omega) (by omega) (by omega) hτ
                obtain ⟨Z, hZ⟩ : ∃ Z, Z = Y.on := ⟨_, rfl⟩
                rw [← hZ] at hop
                have HZA : RowKit.Hid (Z.h.area = 16) := Lib.hid (by rw [hZ]; exact har)
                have HZT : RowKit.Hid (Z.h.turn ≤ 3 + 3 * (i : Int)) := Lib.hid (by rw [hZ]; show Y.h.turn + 1 ≤ _; omega)
                have HZN : RowKit.Hid (Z.h.number + Z.parts.length ≤ 3 + (i : Int)) := Lib.hid (by rw [hZ]; exact hny)
                have HZP : RowKit.Hid (Z.parts = snap1 :: txs1 ∨ Z.parts = snap2 :: txs2) := Lib.hid (by rw [hZ]; exact hpar)
                have HU8 := Lib.hid ((HUK.out.mono (fun _ _ e => e.elim)).trans hu8)
                have HF8 : RowKit.Hid (∀ k, F8 k → F1 k ∨ wq.heap.size ≤ k) := Lib.hid (fun k hk => (hF8 k hk).imp id (fun e => by have := HUK.out.size; omega))
                have HOP := Lib.hid hop
                clear hd8 hF8 hu8 hkeep hlen hsh hlaw hτ har hpar hty hny hg3 hop hZ HCR HUK
                simp only []
                go_wp2_with (go_at_call 21; fail)
                refine HOP.out.mono ?_
                rintro e w9 ⟨q2, D4, G4, F4, rfl, hw9, hG9, hF9, hu9⟩
                have hz8 := HU8.out.size
                have huc9 : Upd F1 wq w9 := HU8.out.step hu9 (fun k hk e => (HF8.out k e).elim id (fun e => by omega))
                have hold : ∀ k, k < wq.heap.size → ¬ F1 k → ¬ G4 k ∧ ¬ F4 k := fun k hk h => ⟨fun e => by have := hG9 k e; omega, fun e => (hF9 k e).elim (fun e => (HF8.out k e).elim h (fun e => by omega)) (fun e => by omega)⟩
                have HUW9 : RowKit.Hid (Upd (fun _ => False) w w9) := Lib.hid (HUWC.out.step huc9 (fun k hk e => by have := HBA1.out k (.inr (.inl e)); omega))
                have HBC9 := Lib.hid ((huc9.block bc (lt_of_heap HBCc.out) (HBO1.out bc (.inl rfl)).2).trans HBCc.out)
                have HBN9 := Lib.hid ((huc9.block bn (lt_of_heap HBNc.out) (HBO1.out bn (.inr (.inl rfl))).2).trans HBNc.out)
                have HCA9 := Lib.hid (HCAc.out.kept huc9 (fun k hk => (HCP1.out k hk).2.1))
                have HCB9 := Lib.hid (HCBc.out.kept huc9 (fun k hk => (HCP1.out k hk).2.1))
                have HAP9 : RowKit.Hid (∀ k, C1 k ∨ k = bc → ¬ G4 k ∧ ¬ F4 k) := Lib.hid (fun k hk => by
                  rcases hk with hk | hk
                  · exact hold k (HCAc.out.1 k hk) (HCP1.out k hk).2.1
                  · rw [hk]; exact hold bc (lt_of_heap HBCc.out) (HBO1.out bc (.inl rfl)).2)
                have HBA9 : RowKit.Hid (∀ k, G4 k ∨ F4 k ∨ C1 k → w.heap.size ≤ k) := Lib.hid (fun k hk => by
                  have hzw := HUWC.out.size
                  rcases hk with hk | hk | hk
                  · have := hG9 k hk; omega
                  · exact (hF9 k hk).elim (fun e => (HF8.out k e).elim (fun e => HBA1.out k (.inr (.inl e))) (fun e => by omega)) (fun e => by omega)
                  · exact HBA1.out k (.inr (.inr hk)))
                have HW9 := Lib.hid hw9
                obtain ⟨b1, hb1⟩ : ∃ b1, b1 = decide (Z.parts = snap1 :: txs1) := ⟨_, rfl⟩
                obtain ⟨b2, hb2⟩ : ∃ b2, b2 = decide (Z.parts = snap2 :: txs2) := ⟨_, rfl⟩
                have HINA : RowKit.Hid (∀ W, Upd (fun _ => False) w9 W → Calls Try.prog 22 #[.agg #[.slice sb1 snap1.length sc1, .slice tb1 txs1.length tc1], .pointer (some ⟨q2, 0, none⟩)] W fun e w' => e = .returned (.bool b1) ∧ Upd (fun _ => False) W w') := Lib.hid (fun W hu => by
                  obtain ⟨k1, k2⟩ := (HCA9.out.kept hu (fun _ _ e => e)).reads
                  have := in_any (sv := .slice sb1 snap1.length sc1) (snap := snap1) (txs := txs1) W (HW9.out.g.wal.1.kept hu (fun _ _ e => e)) HW9.out.g.ok HW9.out.law.one HZA.out HW9.out.law.sum k1 (HBYA.out snap1 (by simp)).1 (HBYA.out snap1 (by simp)).2 k2 (fun b hb => HBYA.out b (by simp [hb])) HLA.out
                  rwa [← hb1] at this)
                have HINB : RowKit.Hid (∀ W, Upd (fun _ => False) w9 W → Calls Try.prog 22 #[.agg #[.slice sb2 snap2.length sc2, .slice tb2 txs2.length tc2], .pointer (some ⟨q2, 0, none⟩)] W fun e w' => e = .returned (.bool b2) ∧ Upd (fun _ => False) W w') := Lib.hid (fun W hu => by
                  obtain ⟨k1, k2⟩ := (HCB9.out.kept hu (fun _ _ e => e)).reads
                  have := in_any (sv := .slice sb2 snap2.length sc2) (snap := snap2) (txs := txs2) W (HW9.out.g.wal.1.kept hu (fun _ _ e => e)) HW9.out.g.ok HW9.out.law.one HZA.out HW9.out.law.sum k1 (HBYB.out snap2 (by simp)).1 (HBYB.out snap2 (by simp)).2 k2 (fun b hb => HBYB.out b (by simp [hb])) HLB.out
                  rwa [← hb2] at this)
                have HB12 : RowKit.Hid ((b1 = true → Z.parts = snap1 :: txs1) ∧ (b1 = false → b2 = true ∧ Z.parts = snap2 :: txs2)) := Lib.hid ⟨fun h => by rw [h] at hb1; exact of_decide_eq_true hb1.symm, fun h => by
                  rw [h] at hb1
                  have h1 := of_decide_eq_false hb1.symm
                  have h2 := HZP.out.resolve_left h1
                  exact ⟨by rw [hb2]; simpa using h2, h2⟩⟩
                clear hw9 hG9 hF9 hu9 hz8 huc9 hold hb1 hb2 HOP HU8 HF8 HCAc HCBc HBCc HBNc HUWC HUC HSH HBXc HGOOD HBAD HW1 HDK1 HBA1 HBC1 HBN1 HBX1 HCA HCB HZP
                obtain ⟨c0, c1⟩ := cells2_of HBC9.out
                simp only []
                go_upto_region 28 with fail
                go_cut [114] from 26 to 142 (fun v wr => v = .bool false ∧ Upd (fun _ => False) w9 wr)
                case first =>
                  go_wp2_with (go_at_call 22; fail)
                  refine (HINA.out w9 (Upd.refl _ _)).mono ?_
                  rintro e wa ⟨rfl, hua⟩
                  have HUA := Lib.hid hua
                  clear hua c0 c1
                  simp only []
                  cases b1 with
                  | true =>
                    go_wp2
                    go_meet
                    case rel => exact ⟨rfl, HUA.out⟩
                  | false =>
                    have hb2 := (HB12.out.2 rfl).1
                    subst hb2
                    obtain ⟨g0, g1⟩ := cells2_of ((HUA.out.block _ (lt_of_heap HBN9.out) (fun e => e)).trans HBN9.out)
                    go_wp2_with (go_at_call 22; fail)
                    refine (HINB.out wa HUA.out).mono ?_
                    rintro e wb ⟨rfl, hub⟩
                    have HUB := Lib.hid (HUA.out.trans hub)
                    clear hub g0 g1
                    simp only []
                    go_wp2
                    go_meet
                    case rel => exact ⟨rfl, HUB.out⟩
                case rest =>
                  obtain ⟨rfl, hu10⟩ := hcut
                  obtain ⟨w10, rfl⟩ : ∃ w10, w10 = wc := ⟨_, rfl⟩
                  have HU10 := Lib.hid hu10
                  clear hu10 c0 c1
                  obtain ⟨c0, c1⟩ := cells2_of ((HU10.out.block _ (lt_of_heap HBC9.out) (fun e => e)).trans HBC9.out)
                  go_wp2_with (go_at_call 22; fail)
                  refine (HINA.out w10 HU10.out).mono ?_
                  rintro e w11 ⟨rfl, hu11⟩
                  have HU11 := Lib.hid (HU10.out.trans hu11)
                  clear hu11 c0 c1 HINA HINB
                  simp only []
                  go_upto_if 118 with fail
                  go_cut [] from 26 to 142 (fun wr => ∃ (sv tv : Value) (snap : List Int) (txs : List (List Int)), wr.heap[bc]? = some (.cells #[sv, tv] 30 (0, 0)) ∧ Con C1 wr sv tv snap txs ∧ ((∀ b ∈ snap :: txs, Bytes b ∧ b.length ≤ 40000) ∧ txs.length ≤ 1000) ∧ Z.parts = snap :: txs ∧ Upd (fun k => k = bc) w9 wr)
                  case first =>
                    cases b1 with
                    | true =>
                      have HZ1 := Lib.hid (HB12.out.1 rfl)
                      go_wp2
                      go_meet
                      case rel => exact ⟨_, _, snap1, txs1, (HU11.out.block _ (lt_of_heap HBC9.out) (fun e => e)).trans HBC9.out, HCA9.out.kept HU11.out (fun _ _ e => e), ⟨HBYA.out, HLA.out⟩, HZ1.out, HU11.out.mono (fun _ _ e => e.elim)⟩
                    | false =>
                      have HZ2 := Lib.hid (HB12.out.2 rfl).2
                      have hbc11 := (HU11.out.block _ (lt_of_heap HBC9.out) (fun e => e)).trans HBC9.out
                      obtain ⟨c0, c1⟩ := cells2_of hbc11
                      obtain ⟨g0, g1⟩ := cells2_of ((HU11.out.block _ (lt_of_heap HBN9.out) (fun e => e)).trans HBN9.out)
                      have ff0 : w11.frozen? ⟨bc, 0, none⟩ = false := frozen_of_heap hbc11
                      have ff1 : w11.frozen? ⟨bc, 1, none⟩ = false := frozen_of_heap hbc11
                      have HBC11 := Lib.hid hbc11
                      clear hbc11
                      go_wp2
                      go_meet
                      case rel =>
                        have hus : Upd (fun k => k = bc) w11 ((w11.setCell ⟨bc, 0, none⟩ (.slice sb2 snap2.length sc2)).setCell ⟨bc, 1, none⟩ (.slice tb2 txs2.length tc2)) := (upd_own w11 _ 0 _).trans (upd_own _ _ 1 _)
                        refine ⟨.slice sb2 snap2.length sc2, .slice tb2 txs2.length tc2, snap2, txs2, ?_, (HCB9.out.kept HU11.out (fun _ _ e => e)).kept hus (fun k hk => (HCP1.out k hk).2.2), ⟨HBYB.out, HLB.out⟩, HZ2.out, (HU11.out.mono (fun _ _ e => e.elim)).trans hus⟩
                        have := blk_set (i := 1) (v := .slice tb2 txs2.length tc2) (blk_set (i := 0) (v := .slice sb2 snap2.length sc2) HBC11.out)
                        simpa using this
                  case rest =>
                    obtain ⟨sv, tv, snap, txs, hbc12, hc12, hby12, hpz, hu12⟩ := hcut
                    obtain ⟨w12, rfl⟩ : ∃ w12, w12 = wc := ⟨_, rfl⟩
                    obtain ⟨hs1, hs2⟩ := hc12.reads
                    obtain ⟨sb3, sc3, rfl⟩ := hs1.slice'
                    obtain ⟨vs3, hr3, _⟩ := hs2
                    obtain ⟨tb3, tc3, rfl⟩ := rowV hr3
                    have hw12 := HW9.out.kept hu12 (fun k hk e => (HAP9.out k (.inr e)).1 hk) (fun k hk e => (HAP9.out k (.inr e)).2 hk)
                    have hop := open_live w12 hw12.g.wal.2.1 hw12.law hw12.g.good hw12.g.dok (by omega) (by have := HZA.out; omega) (by have := HZT.out; omega) (by omega)
                    have HOP := Lib.hid hop; have HW12 := Lib.hid hw12; have HBC12 := Lib.hid hbc12; have HC12 := Lib.hid hc12; have HBY12 := Lib.hid hby12; have HPZ := Lib.hid hpz
                    have HUW12 : RowKit.Hid (Upd (fun _ => False) w w12) := Lib.hid (HUW9.out.step hu12 (fun k hk e => by have := HBNB.out; omega))
                    clear hop hw12 hbc12 hc12 hby12 hpz hu12 hs1 hr3
                    go_wp2_with (go_at_call 21; fail)
                    refine HOP.out.mono ?_
                    rintro e w13 ⟨q3, D5, G5, F5, rfl, hw13, hG13, hF13, hu13⟩
                    have hbc13 := (hu13.block bc (lt_of_heap HBC12.out) (HAP9.out bc (.inr rfl)).2).trans HBC12.out
                    have HC13 := Lib.hid (HC12.out.kept hu13 (fun k hk => (HAP9.out k (.inl hk)).2))
                    have HLZ := Lib.hid (HW12.out.g.wal.1.kept hu13 (fun k hk e => HW12.out.g.wal.2.2 k hk e))
                    have HUW13 : RowKit.Hid (Upd (fun _ => False) w w13) := Lib.hid (HUW12.out.step hu13 (fun k hk e => by have := HBA9.out k (.inr (.inl e)); omega))
                    have HBA13 : RowKit.Hid (∀ k, G5 k ∨ F5 k ∨ C1 k → w.heap.size ≤ k) := Lib.hid (fun k hk => by
                      have hzw := HUW12.out.size
                      rcases hk with hk | hk | hk
                      · have := hG13 k hk; omega
                      · exact (hF13 k hk).elim (fun e => HBA9.out k (.inr (.inl e))) (fun e => by omega)
                      · exact HBA9.out k (.inr (.inr hk)))
                    have HAP13 : RowKit.Hid (∀ k, C1 k ∨ k = bc → ¬ G5 k ∧ ¬ F5 k) := Lib.hid (fun k hk => by
                      have hkl : k < w12.heap.size := by
                        rcases hk with hk | hk
                        · exact HC12.out.1 k hk
                        · rw [hk]; exact lt_of_heap HBC12.out
                      exact ⟨fun e => by have := hG13 k e; omega, fun e => (hF13 k e).elim (HAP9.out k hk).2 (fun e => by omega)⟩)
                    have HW13 := Lib.hid hw13
                    have HBC13 := Lib.hid hbc13
                    have hon : Z.on.parts = snap :: txs := HPZ.out
                    obtain ⟨k1, k2⟩ := HC13.out.reads
                    have hin := in_any (sv := .slice sb3 snap.length sc3) (snap := snap) (txs := txs) w13 hw13.g.wal.1 hw13.g.ok hw13.law.one HZA.out hw13.law.sum k1 (HBY12.out.1 snap (by simp)).1 (HBY12.out.1 snap (by simp)).2 k2 (fun b hb => HBY12.out.1 b (by simp [hb])) HBY12.out.2
                    rw [show decide (Z.on.parts = snap :: txs) = true by rw [hon]; simp] at hin
                    have HIN := Lib.hid hin; have HON := Lib.hid hon
                    obtain ⟨c0, c1⟩ := cells2_of hbc13
                    clear hw13 hG13 hF13 hu13 hbc13 hin hon k1 k2 HOP
                    simp only []
                    go_wp2_with (go_at_call 22; fail)
                    refine HIN.out.mono ?_
                    rintro e w14 ⟨rfl, hu14⟩
                    have HU14 := Lib.hid hu14
                    obtain ⟨tz, htz⟩ : ∃ tz, tz = Z.h.turn := ⟨_, rfl⟩
                    have htz1 : 0 ≤ tz ∧ tz ≤ 200 := by have h1 := HZT.out; have h2 := HW12.out.law.says.turn; omega
                    have hwt : IntKind.u32.wrap (tz + 1) = tz + 1 := by rw [IntKind.wrap_u32]; omega
                    have HTZ := Lib.hid htz
                    have ht1 := turn_any w14 (HW13.out.g.wal.1.kept HU14.out (fun _ _ e => e)) (by show 0 ≤ Z.h.turn + 1 ∧ Z.h.turn + 1 < 4294967296; omega)
                    rw [show Z.on.h.turn = tz + 1 by rw [htz]; rfl] at ht1
                    have HT1 := Lib.hid ht1
                    clear hu14 c0 c1 HIN htz ht1
                    simp only []
                    go_wp2_with (go_at_call 27; fail)
                    refine HT1.out.mono ?_
                    rintro e w15 ⟨rfl, hu15⟩
                    have HU15 := Lib.hid (HU14.out.trans hu15)
                    have ht2 := turn_any w15 (HLZ.out.kept HU15.out (fun _ _ e => e)) (by rw [← HTZ.out]; omega)
                    rw [← HTZ.out] at ht2
                    have HT2 := Lib.hid ht2
                    clear hu15 ht2 HT1
                    simp only []
                    go_wp2_with (go_at_call 27; fail)
                    refine HT2.out.mono ?_
                    rintro e w16 ⟨rfl, hu16⟩
                    have hu1316 := HU15.out.trans hu16
                    have hkp : KpAt w p bc (i + 1) q3 w16 := by
                      have g1 := HZT.out; have g2 := HZN.out; have g3 := HBNB.out
                      exact ⟨Z.on, D5, G5, F5, C1, .slice sb3 snap.length sc3, .slice tb3 txs.length tc3, snap, txs, ⟨HW13.out.g.wal.1.kept hu1316 (fun _ _ e => e), HW13.out.g.wal.2.1.kept hu1316 (fun _ _ e => e), HW13.out.g.wal.2.2⟩, HW13.out.liveP HZA.out, Dk.Ok.mono HW13.out.g.dok (by omega), HBA13.out, HON.out, by show Z.h.turn + 1 ≤ _; omega, by show Z.h.number + (Z.parts.length : Int) ≤ _; omega,
                        (hu1316.block _ (lt_of_heap HBC13.out) (fun e => e)).trans HBC13.out, HC13.out.kept hu1316 (fun _ _ e => e), fun k hk => ⟨(HAP13.out k (.inl hk)).1, (HAP13.out k (.inl hk)).2, (HCP1.out k hk).2.2⟩, (HAP13.out bc (.inr rfl)).1, (HAP13.out bc (.inr rfl)).2, g3.2, HUW13.out.trans hu1316⟩
                    have HEND := Lib.hid hkp
                    clear hkp hu1316 hu16 HT2
                    simp only []
                    go_wp2
                    go_roundg (sn - (i + 1))
                    case measure => omega
                    case rel => exact ⟨i + 1, q3, by omega, by omega, rfl, rfl, by simp, HEND.out⟩
    · have hin2 : ¬ (i : Int) < sn := by omega
      go_wp2
      go_ret
      exact ⟨rfl, hu⟩

end Go.Proofs.Ytbimkhdiplnbfaa
end

