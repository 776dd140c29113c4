/- Walks: WalHarmless. -/
import Derived.Test.YtbimkhdiplnbfaaU21
import Derived.Test.YtbimkhdiplnbfaaU26
import Derived.Test.YtbimkhdiplnbfaaU27

section
namespace Go.Proofs.Ytbimkhdiplnbfaa
open Go.RowKit Go.Shelf

theorem elem49 : Try.prog.underlying 49 = some (.slice (Try.prog.elem 49)) := by kernel_rfl

theorem bools_head {w : World} {ka : Option Addr} {kn kc m : Nat} {B : Nat → Bool} (hb : KeepIn w ka kn kc B) (hm : m ≤ kn) (hsp : ∀ a, ka = some a → 0 < kc → a.spot = none ∧ a.block < w.heap.size) :
    ∃ kb cb, (∀ W, (Instr.slice 49 (.slice ka kn kc) none (some (.int .i64 (m : Int))) none).run Try.prog W = .ok (.slice kb m cb) W) ∧ ∀ W', Upd (fun _ => False) w W' → BoolsAt W' kb ((List.range m).map B) := by
  have hz : ∀ W : World, (sizeOf (Try.prog.elem 49)).run Try.prog W = .ok 1 W := fun W => by kernel_rfl
  have hnc : kn ≤ kc := by
    rcases hb with ⟨_, e1, e2⟩ | ⟨a, _, e, _⟩ <;> omega
  refine ⟨if kc = 0 then ka else ka.map (·.add (0 * 1)), kc - 0, fun W => ?_, fun W' hu i b hi => ?_⟩
  · rw [run_slice_h W 49 ka kn kc elem49 .i64 m (by omega) (by omega), hz]
    rfl
  · have hi2 : i < m := by
      have := (List.getElem?_eq_some_iff.1 hi).1
      simpa using this
    have hbi : b = B i := by
      simp [List.getElem?_map, hi2] at hi
      exact hi.symm
    rcases hb with ⟨_, e1, e2⟩ | ⟨a, e0, e1, e2, e3⟩
    · omega
    · obtain ⟨ab, ao, asp⟩ := a
      obtain ⟨hs1, hs2⟩ := hsp _ e0 (by omega)
      simp only at hs1 hs2
      subst hs1
      have hc := cell_keptF hu (fun e => e) (e3 i (by omega))
      have e : (⟨ab, ao, none⟩ : Addr).add i = ⟨ab, ao + i, none⟩ := Addr.add_mid ..
      rw [e] at hc
      refine ⟨ab, ao, ?_, Nat.lt_of_lt_of_le hs2 hu.size, by rw [hbi]; exact hc⟩
      rw [e0]
      split
      · rfl
      · simp [Addr.add]

/-- Where WalHarmless stands. -/
def HrAt (w : World) (q p bc i : Nat) (W : World) : Prop := ∃ (X : Lg) (D : Dk) (G F : Nat → Prop) (tv : Value) (vs : List Value) (txs : List (List Int)),
  WalS W q p X D G F (20000 + 2000 * i) ∧ (∀ k, G k → w.heap.size ≤ k) ∧ (∀ k, F k → w.heap.size ≤ k) ∧ X.h.area = 16 ∧ X.h.number + X.parts.length ≤ 2 + i ∧ X.h.turn = 1 ∧
  X.parts = [] :: txs ∧ W.heap[bc]? = some (.cells #[.slice none 0 0, tv] 30 (0, 0)) ∧ ¬ G bc ∧ ¬ F bc ∧ W.ownsRow w.heap.size 28 1 tv txs.length vs ∧ (∀ (j : Nat) u b, vs[j]? = some u → txs[j]? = some b → BytesIn w u b) ∧
  (∀ k, tv.ownBlock = some k → ¬ G k ∧ ¬ F k ∧ k ≠ bc) ∧ Upd (fun _ => False) w W

theorem HrAt.same {w W W' : World} {q p bc i : Nat} (h : HrAt w q p bc i W) (hu : Upd (fun _ => False) W W') : HrAt w q p bc i W' := by
  obtain ⟨X, D, G, F, tv, vs, txs, h1, h2, h3, h4, h5, h6, h7, h8, h9, h10, h11, h12, h13, h14⟩ := h
  exact ⟨X, D, G, F, tv, vs, txs, h1.kept hu (fun _ _ e => e) (fun _ _ e => e), h2, h3, h4, h5, h6, h7, (hu.block _ (lt_of_heap h8) (fun e => e)).trans h8, h9, h10, ownsRow_any h11 hu (fun _ _ e => e), h12, h13, h14.trans hu⟩

theorem HrAt.more {w W : World} {q p bc i : Nat} (h : HrAt w q p bc i W) : HrAt w q p bc (i + 1) W := by
  obtain ⟨X, D, G, F, tv, vs, txs, ⟨h1, h1b, h1c⟩, h2, h3, h4, h5, h6, h7⟩ := h
  exact ⟨X, D, G, F, tv, vs, txs, ⟨⟨h1.wal, h1.ok, h1.unbroken, h1.good, Dk.Ok.mono h1.dok (by omega), h1.fits⟩, h1b, h1c⟩, h2, h3, h4, by omega, h6, h7⟩

end Go.Proofs.Ytbimkhdiplnbfaa
end

section
namespace Go.Proofs.Ytbimkhdiplnbfaa
open Go.RowKit Go.Shelf

theorem Dk.Ok.doArm' {D : Dk} {K : Nat} (h : D.Ok K) {n : Int} (hn : -1 ≤ n ∧ n ≤ 9223372036854775807) : Dk.Ok { D with arm := n } K := ⟨h.len, h.blks, h.rblks, h.sorted, h.sent, h.ops, hn, h.fail, h.rowlen⟩

theorem WalS.up {w : World} {q p : Nat} {X : Lg} {D : Dk} {G F : Nat → Prop} {K K' : Nat} (h : WalS w q p X D G F K) (hk : K ≤ K') : WalS w q p X D G F K' :=
  ⟨⟨h.g.wal, h.g.ok, h.g.unbroken, h.g.good, Dk.Ok.mono h.g.dok hk, h.g.fits⟩, h.law, h.row⟩

/-- Behind the second Open: what the log is, and what its content reads as. -/
def HsAt (w : World) (q p bc : Nat) (W : World) : Prop := ∃ (X : Lg) (D : Dk) (G F : Nat → Prop) (tv : Value) (txs : List (List Int)),
  WalS W q p X D G F 4000000 ∧ (∀ k, F k → w.heap.size ≤ k) ∧ X.h.area = 16 ∧ X.h.turn < 1000 ∧ X.parts = [] :: txs ∧ W.heap[bc]? = some (.cells #[.slice none 0 0, tv] 30 (0, 0)) ∧ ¬ F bc ∧ (∀ W', Upd F W W' → RowsIn W' tv txs) ∧ Upd (fun _ => False) w W

set_option maxRecDepth 100000 in
set_option maxHeartbeats 8000000 in
theorem harm_run (sa : Option Addr) (sn sc : Nat) (A : Nat → Option Addr) (L C : Nat → Nat) (Z : Nat → List Int) (pa : Option Addr) (pn pc : Nat) (P : List Int) (ka : Option Addr) (kn kc : Nat) (B : Nat → Bool) (w : World) (hsn : sn ≤ 9223372036854775807) (hrows : BRows w sa sn A L C Z)
    (hpn : pn ≤ 9223372036854775807) (hP : BytesIn w (.slice pa pn pc) P) (hPb : Bytes P) (hPl : P.length = pn) (hkn : kn ≤ 9223372036854775807) (hK : KeepIn w ka kn kc B) (hsp : ∀ a, ka = some a → 0 < kc → a.spot = none ∧ a.block < w.heap.size) :
    Calls Try.prog 12 #[.slice sa sn sc, .slice pa pn pc, .slice ka kn kc] w fun e w' => e = .returned (.bool true) ∧ Upd (fun _ => False) w w' := by
  have HRW := Lib.hid hrows
  obtain ⟨m3, hm3⟩ : ∃ m3 : Nat, m3 = min pn 300 := ⟨_, rfl⟩
  obtain ⟨m2, hm2⟩ : ∃ m2 : Nat, m2 = min kn 20 := ⟨_, rfl⟩
  obtain ⟨pb, pcb, hps, hpi⟩ := bytes_head (m := m3) hP (by omega)
  obtain ⟨kb, kcb, hks, hki⟩ := bools_head (m := m2) hK (by omega) hsp
  obtain ⟨sn', hsn'⟩ : ∃ s, s = P.take m3 := ⟨_, rfl⟩
  rw [← hsn'] at hpi
  have hsnl : sn'.length = m3 := by rw [hsn']; simp; omega
  have hsnb : Bytes sn' := fun x hx => hPb x (List.mem_of_mem_take (by rw [← hsn']; exact hx))
  have hm3l : m3 ≤ 300 := by omega
  have HM3 := Lib.hid hm3; have HM2 := Lib.hid hm2; have HPS := Lib.hid hps; have HPI := Lib.hid hpi; have HKS := Lib.hid hks; have HKI := Lib.hid hki; have HSNL := Lib.hid hsnl; have HSNB := Lib.hid hsnb
  have hm2l : m2 ≤ 20 := by omega
  have hkm : (min (kn : Int) 20) = (m2 : Int) := by omega
  have hpm : (min (pn : Int) 300) = (m3 : Int) := by omega
  have HKM := Lib.hid hkm; have HPM := Lib.hid hpm
  clear hrows hm3 hm2 hps hpi hks hki hsnl hsnb hsn' hP hPb hPl hK hsp hkm hpm
  go_enter Try.func12, Try.ntmps12
  go_wp2_with (go_at_call 14; fail)
  refine (wakes04_run w).mono ?_
  rintro e w1 ⟨rfl, hu1⟩
  have HU1 := Lib.hid hu1
  clear hu1
  simp only []
  go_wp2_with (go_at_call 15; fail)
  refine (begun_live w1).mono ?_
  rintro e w2 ⟨q, D, G, F, rfl, hw2, hG2, hF2, hu2⟩
  obtain ⟨p, hp⟩ : ∃ p, p = w1.heap.size + 1 := ⟨_, rfl⟩
  rw [← hp] at hw2 ⊢
  have HU2 := Lib.hid (HU1.out.trans hu2)
  have HW2 := Lib.hid hw2
  have HG2 : RowKit.Hid (∀ k, G k → w.heap.size ≤ k) := Lib.hid (fun k hk => by have := hG2 k hk; have := HU1.out.size; omega)
  have HF2 : RowKit.Hid (∀ k, F k → w.heap.size ≤ k) := Lib.hid (fun k hk => by have := hF2 k hk; have := HU1.out.size; omega)
  clear hw2 hG2 hF2 hu2 HU1 hp
  simp only []
  go_upto_region 7 with fail
  obtain ⟨bc, hbc⟩ : ∃ bc, bc = w2.heap.size := ⟨_, rfl⟩
  obtain ⟨w3, hw3⟩ : ∃ w3, w3 = w2.alloc (.cells #[.slice none 0 0, .slice none 0 0] 30) := ⟨_, rfl⟩
  have hu23 : Upd (fun _ => False) w2 w3 := by rw [hw3]; exact (Upd.refl _ w2).alloc _
  have hst : HrAt w q p bc 0 w3 := by
    refine ⟨fmtX 16, D, G, F, .slice none 0 0, [], [], HW2.out.kept hu23 (fun _ _ e => e) (fun _ _ e => e), HG2.out, HF2.out, rfl, by show (1 : Int) + 1 ≤ 2 + 0; omega, rfl, rfl, by rw [hw3, hbc]; exact alloc_at rfl, fun e => ?_, fun e => ?_, World.ownsRow_nil _ _ _ _, fun j u b hj => by simp at hj, fun k hk => by simp [Value.ownBlock] at hk, HU2.out.trans hu23⟩
    · have := HW2.out.g.wal.1.lt _ e; omega
    · have := HW2.out.g.wal.2.1.lt _ e; omega
  have HST := Lib.hid hst
  have HBC : RowKit.Hid (w.heap.size ≤ bc) := Lib.hid (by rw [hbc]; exact HU2.out.size)
  rw [← hbc, ← hw3]
  clear hst hu23 hw3 hbc HW2 HG2 HF2 HU2
  go_upto_block 0 with fail
  go_cut [] from 11 to 50 (fun wr => HrAt w q p bc 8 wr)
  case first =>
    go_wp2_with fail
    go_loopg [27] sn (fun gk iv wr => ∃ i : Nat, i ≤ sn ∧ i ≤ 8 ∧ gk = sn - i ∧ iv = .int .i64 i ∧ HrAt w q p bc i wr)
    case atStart => exact ⟨0, by omega, by omega, rfl, rfl, HST.out⟩
    case round =>
      obtain ⟨i, hi, hi8, rfl, rfl, hst⟩ := hrel
      obtain ⟨wo, rfl⟩ : ∃ wo, wo = wr := ⟨_, rfl⟩
      have HS := Lib.hid hst
      have HS8 : RowKit.Hid (HrAt w q p bc 8 wo) := Lib.hid (by
        have hgo : ∀ n, i + n ≤ 8 → HrAt w q p bc (i + n) wo := fun n => by
          induction n with
          | zero => exact fun _ => hst
          | succ n ih => exact fun h => (ih (by omega)).more
        have := hgo (8 - i) (by omega)
        rwa [show i + (8 - i) = 8 by omega] at this)
      clear hst HST
      by_cases hin : i < sn
      · have hin2 : (i : Int) < sn := by omega
        have hu : Upd (fun _ => False) w wo := by
          obtain ⟨_, _, _, _, _, _, _, _, _, _, _, _, _, _, _, _, _, _, _, _, h⟩ := HS.out
          exact h
        obtain ⟨b0, o0, hsa, _, hcell, hZl, hZb, hZi⟩ := (HRW.out.kept hu) i hin
        have hZw : BytesIn w (.slice (A i) (L i) (C i)) (Z i) := by
          obtain ⟨_, _, _, _, _, _, _, h⟩ := HRW.out i hin
          exact h
        by_cases h60 : i = 8
        · subst h60
          subst hsa
          clear hu hZl hZb hZi hZw
          go_wp2
          go_meet
          case rel => exact HS.out
        · have hb60 : ((i : Int) == 8) = false := by simp; omega
          have hi59 : i ≤ 7 := by omega
          subst hsa
          obtain ⟨m, hm⟩ : ∃ m : Nat, m = min (L i) 90 := ⟨_, rfl⟩
          have hmL : m ≤ L i := by omega
          have hm2 : m ≤ 90 := by omega
          obtain ⟨sb, cb, hsl, hbi⟩ := bytes_head hZw hmL
          obtain ⟨bs, hbs⟩ : ∃ bs, bs = (Z i).take m := ⟨_, rfl⟩
          rw [← hbs] at hbi
          have hbl : bs.length = m := by rw [hbs]; simp; omega
          have hbb : Bytes bs := fun x hx => hZb x (List.mem_of_mem_take (by rw [← hbs]; exact hx))
          have HM := Lib.hid hm; have HBI := Lib.hid hbi; have HBB := Lib.hid hbb; have HBL := Lib.hid hbl; have HU := Lib.hid hu
          have HSL := Lib.hid hsl
          clear hm hbi hbb hbl hbs hZi hZw hZb hu hsl
          go_upto_region 11 with fail
          clear hcell
          iterate 13 go_step
          rw [show min (L i : Int) 90 = (m : Int) by rw [HM.out]; omega]
          have hsl := HSL.out
          iterate 6 go_step
          clear hsl
          obtain ⟨X, D, G, F, tv, vs, txs, hwal, hGw, hFw, har, hnx, htn, hparts, hbx, hGb, hFb, hrow, heach, htv, hup⟩ := HS.out
          have HWAL := Lib.hid hwal; have HGW := Lib.hid hGw; have HFW := Lib.hid hFw; have HAR := Lib.hid har; have HNX := Lib.hid hnx; have HTN := Lib.hid htn; have HPA := Lib.hid hparts; have HBX := Lib.hid hbx; have HGB := Lib.hid hGb; have HFB := Lib.hid hFb; have HROW := Lib.hid hrow; have HEA := Lib.hid heach; have HTV := Lib.hid htv
          clear hwal hGw hFw har hnx htn hparts hbx hGb hFb hrow heach htv hup HS
          go_wp2_with (go_at_call 19; fail)
          refine (clone_any wo (by rw [HBL.out]; omega) (HBI.out.kept HU.out)).mono ?_
          rintro e w5 ⟨u, rfl, hou, _, hu5⟩
          have HU5 := Lib.hid (HU.out.trans hu5)
          have HUO5 := Lib.hid hu5
          have HOU := Lib.hid hou
          clear hou hu5
          have hw5 := HWAL.out.kept HUO5.out (fun _ _ e => e) (fun _ _ e => e)
          have hqm := HWAL.out.g.wal.1.mem
          have hplen : (X.parts.length : Int) ≤ 1000 := by have := HWAL.out.g.ok.len; omega
          have hap := append_live (b := bs) w5 hw5 (by omega) HBB.out (by rw [HBL.out]; omega) (by have := HNX.out; omega) HOU.out.bytesIn (fun hne a n c e => by
            have hk := (World.ownsRow.lt HOU.out a.block (by rw [e]; rfl)).1
            have h1 : ∀ k, G k → k < wo.heap.size := HWAL.out.g.wal.1.lt
            have h2 : ∀ k, F k → k < wo.heap.size := HWAL.out.g.wal.2.1.lt
            exact ⟨fun e => by have := h2 _ e; omega, fun e => by have := h1 _ hqm; omega⟩) (by rw [HAR.out]; omega)
          have HAP := Lib.hid hap
          clear hap hqm hw5
          simp only []
          go_wp2_with (go_at_call 20; fail)
          refine HAP.out.mono ?_
          rintro e w6 (⟨_, rfl, hu6⟩ | ⟨hfit, rfl, D2, G2, F2, hwal6, hG2, hF2, hu6⟩)
          · have HEND := Lib.hid ((HS8.out.same HUO5.out).same hu6)
            clear hu6 HAP
            simp only []
            go_wp2
            go_meet
            case rel => exact HEND.out
          · have hk56 : ∀ k, k < w5.heap.size → ¬ G k → ¬ F k → w6.heap[k]? = w5.heap[k]? := fun k hk h1 h2 => hu6.block k hk (fun e => e.elim h1 h2)
            have hbx5 := (HUO5.out.block _ (lt_of_heap HBX.out) (fun e => e)).trans HBX.out
            have hbx6 := (hk56 bc (lt_of_heap hbx5) HGB.out HFB.out).trans hbx5
            have hrow5 := ownsRow_any HROW.out HUO5.out (fun _ _ e => e)
            have hrow6 := ownsRow_heap hrow5 (fun k hk => hk56 k (World.ownsRow.lt hrow5 k hk).2 (HTV.out k hk).1 (HTV.out k hk).2.1)
            have hbcl : bc < w5.heap.size := lt_of_heap hbx5
            have hg2b : ¬ G2 bc := fun e => (hG2 _ e).elim HGB.out (fun e => by omega)
            have hf2b : ¬ F2 bc := fun e => (hF2 _ e).elim HFB.out (fun e => by omega)
            have htv2 : ∀ k, tv.ownBlock = some k → ¬ G2 k ∧ ¬ F2 k ∧ k ≠ bc := fun k hk => by
              obtain ⟨g1, g2, g3⟩ := HTV.out k hk
              have := (World.ownsRow.lt hrow5 k hk).2
              exact ⟨fun e => (hG2 k e).elim g1 (fun e => by omega), fun e => (hF2 k e).elim g2 (fun e => by omega), g3⟩
            obtain ⟨ta, tc, htvd⟩ := rowV hrow6
            subst htvd
            have c1 := (cells2_of hbx6).2
            have htl : txs.length ≤ 999 := by
              have h1 : X.parts.length = txs.length + 1 := by rw [HPA.out]; simp
              omega
            have HWAL6 := Lib.hid hwal6; have HG2 := Lib.hid hG2; have HF2 := Lib.hid hF2; have HU6 := Lib.hid hu6; have HBX6 := Lib.hid hbx6; have HROW6 := Lib.hid hrow6; have HTV2 := Lib.hid htv2
            clear hwal6 hG2 hF2 hu6 hbx6 hbx5 hrow5 hrow6 htv2 hk56 HAP
            simp only []
            go_upto_region 13 with fail
            iterate 13 go_step
            obtain ⟨i0, hi0, hz0, hz1, hz2⟩ := info_parts Try.info28p
            refine wpList_append_own_at _ rfl (.tmp 45) (.tmp 47) 22 rfl w.heap.size 28 i0 (.slice none 0 0) 1 24 Try.underlying22 hi0 hz0 hz1 hz2 rfl (by omega) _ _ _ rfl (HROW6.out.alloc _) ⟨w6.heap.size, 0, none⟩ 1 1 [.slice sb m cb] rfl rfl (cell_one_new _ _ _) (by simp [Value.oneCell']) (by unfold maxLen; omega) (by omega) (by have := HU5.out.size; have := HU6.out.size; simp; omega) ?_
            intro v' w8 hown8 hgrow _ hat8
            obtain ⟨g8, cap8, rfl⟩ := ownsRow_succ hown8
            have hua : Upd (fun _ => False) w6 (w6.alloc (.cells #[.slice sb m cb] 28)) := (Upd.refl _ w6).alloc _
            have hu68 : Upd (fun k => (Value.slice ta txs.length tc).ownBlock = some k) w6 w8 := (hua.mono (fun _ _ e => e.elim)).trans (Upd.of_grown hgrow (fun k hk => hk))
            have hbx8 := (hu68.block bc (lt_of_heap HBX6.out) (fun e => (HTV2.out bc e).2.2 rfl)).trans HBX6.out
            have c18 := (cells2_of hbx8).2
            have f18 : w8.frozen? ⟨bc, 1, none⟩ = false := frozen_of_heap hbx8
            have hloc : (Value.slice ta txs.length tc).ownBlock = some g8 ∨ g8 = w6.heap.size + 1 := by
              rcases hat8 with e | e
              · exact .inl (show (Value.slice ta txs.length tc).ownBlock = some g8 from e.symm)
              · simp [Value.ownBlock] at e; exact .inr e
            have hg8 : ¬ G2 g8 ∧ ¬ F2 g8 ∧ g8 ≠ bc := by
              rcases hloc with e | e
              · exact HTV2.out g8 e
              · have h1 := HWAL6.out.g.wal.1.lt; have h2 := HWAL6.out.g.wal.2.1.lt; have h3 := lt_of_heap HBX6.out
                exact ⟨fun q => by have := h1 _ q; omega, fun q => by have := h2 _ q; omega, by omega⟩
            obtain ⟨w9, hw9⟩ : ∃ w9, w9 = w8.setCell ⟨bc, 1, none⟩ (.slice (some ⟨g8, 0, none⟩) (txs.length + 1) cap8) := ⟨_, rfl⟩
            have hu89 : Upd (fun k => k = bc) w8 w9 := by rw [hw9]; exact upd_own w8 bc 1 _
            have hnext : HrAt w q p bc (i + 1) w9 := by
              have hw := (HWAL6.out.kept hu68 (fun k hk e => (HTV2.out k e).1 hk) (fun k hk e => (HTV2.out k e).2.1 hk)).kept hu89 (fun k hk e => hg2b (by rw [← e]; exact hk)) (fun k hk e => hf2b (by rw [← e]; exact hk))
              have hs5 := HU5.out.size
              refine ⟨X.add bs, D2, G2, F2, .slice (some ⟨g8, 0, none⟩) (txs.length + 1) cap8, vs ++ [.slice sb m cb], txs ++ [bs], by rw [show 20000 + 2000 * (i + 1) = 20000 + 2000 * i + 2000 by omega]; exact hw, fun k hk => (HG2.out k hk).elim (HGW.out k) (fun e => by omega), fun k hk => (HF2.out k hk).elim (HFW.out k) (fun e => by omega), HAR.out, ?_, HTN.out, ?_, ?_, hg2b, hf2b, ?_, ?_, ?_, ?_⟩
              · show X.h.number + ((X.parts ++ [bs]).length : Int) ≤ 2 + ((i + 1 : Nat) : Int)
                have := HNX.out; simp; omega
              · show X.parts ++ [bs] = [] :: (txs ++ [bs])
                rw [HPA.out]; rfl
              · have h1 := blk_set (i := 1) (v := .slice (some ⟨g8, 0, none⟩) (txs.length + 1) cap8) hbx8
                rw [hw9]
                simpa using h1
              · rw [List.length_append]
                exact ownsRow_heap hown8 (fun k hk => hu89.block k (World.ownsRow.lt hown8 k hk).2 (fun e => hg8.2.2 (by simp [Value.ownBlock] at hk; omega)))
              · intro j u' b hj hb
                have hvl : vs.length = txs.length := by have := HROW.out.1; omega
                by_cases hjt : j < txs.length
                · rw [List.getElem?_append_left (by omega)] at hj hb
                  exact HEA.out j u' b hj hb
                · rw [List.getElem?_append_right (by omega)] at hj hb
                  have hj0 : j - vs.length = 0 := by
                    have := (List.getElem?_eq_some_iff.1 hj).1
                    simp at this; omega
                  rw [hj0] at hj
                  rw [show j - txs.length = 0 by omega] at hb
                  simp at hj hb
                  rw [← hj, ← hb]
                  exact HBI.out
              · intro k hk
                simp [Value.ownBlock] at hk
                rw [← hk]; exact hg8
              · refine (((HU5.out.step HU6.out (fun k hk e => ?_)).step hu68 (fun k hk e => ?_))).step hu89 (fun k hk e => by have := HBC.out; omega)
                · rcases e with e | e
                  · have := HGW.out k e; omega
                  · have := HFW.out k e; omega
                · have := (World.ownsRow.lt HROW.out k e).1
                  omega
            have HNEXT := Lib.hid hnext
            clear hnext hu89 hg8 hloc hat8 hu68 hua hown8 hgrow hbx8 hi0 hz0 hz1 hz2 c1
            go_upto_region 14 with fail
            rw [← hw9]
            clear hw9 c18 f18
            go_wp2
            go_roundg (sn - (i + 1))
            case measure => omega
            case rel => exact ⟨i + 1, by omega, by omega, rfl, congrArg _ (by omega), HNEXT.out⟩
      · obtain rfl : i = sn := by omega
        have hin2 : ¬ (i : Int) < i := by omega
        go_wp2
        go_meet
        case rel => exact HS8.out
  case rest =>
    obtain ⟨X, D, G, F, tv, vs, txs, hwal, hGw, hFw, har, hnx, htn, hparts, hbx, hGb, hFb, hrow, heach, htv, hup⟩ := hcut
    have HWAL := Lib.hid hwal; have HGW := Lib.hid hGw; have HFW := Lib.hid hFw; have HAR := Lib.hid har; have HNX := Lib.hid hnx; have HTN := Lib.hid htn; have HPA := Lib.hid hparts; have HBX := Lib.hid hbx; have HGB := Lib.hid hGb; have HFB := Lib.hid hFb; have HROW := Lib.hid hrow; have HEA := Lib.hid heach; have HTV := Lib.hid htv; have HUP := Lib.hid hup
    have HSEC := Lib.hid (secsI_nat (n := m3) (by omega))
    have hsc7 : secsN m3 ≤ 7 := by unfold secsN; omega
    clear hwal hGw hFw har hnx htn hparts hbx hGb hFb hrow heach htv hup HST HRW
    go_upto_region 15 with fail
    iterate 13 go_step
    rw [HPM.out]
    have hps := HPS.out
    iterate 6 go_step
    clear hps
    go_wp2_with (go_at_call 16; fail)
    refine (sectors_any _ _).mono ?_
    rintro e w4 ⟨rfl, rfl⟩
    rw [HSEC.out]
    simp only []
    go_wp2_with (go_at_call 55; fail)
    refine (doArm_any (secsN m3 : Int) wc HWAL.out.g.wal.2.1).mono ?_
    rintro e w5 ⟨rfl, hd5, hu5⟩
    have haw : D.awake = 0 := by unfold Dk.awake; rw [HWAL.out.g.good.dead]; rfl
    rw [haw]
    obtain ⟨D1, hD1⟩ : ∃ D1, D1 = D.doArm (secsN m3 : Int) := ⟨_, rfl⟩
    have hD1' : D1 = { D with arm := (secsN m3 : Int) } := by
      rw [hD1]; unfold Dk.doArm
      rw [if_neg (by rw [HWAL.out.g.good.dead]; simp), show max ((secsN m3 : Nat) : Int) (-1) = (secsN m3 : Int) by omega]
    rw [← hD1] at hd5
    have hpF : F p := HWAL.out.g.wal.2.1.mem
    have hw5 : Wal w5 q p X D1 G F := ⟨HWAL.out.g.wal.1.kept hu5 (fun k hk e => HWAL.out.g.wal.2.2 k hk (by rw [e]; exact hpF)), hd5, HWAL.out.g.wal.2.2⟩
    have hok1 : D1.Ok 60000 := by
      rw [hD1']
      have := HWAL.out.g.dok
      exact Dk.Ok.mono (K := 20000 + 2000 * 8) (Dk.Ok.doArm' this (by omega)) (by omega)
    have HW5 := Lib.hid hw5; have HOK1 := Lib.hid hok1; have HD1 := Lib.hid hD1'; have HU5 := Lib.hid hu5; have HPF := Lib.hid hpF
    clear hd5 hu5 haw hw5 hok1 hD1 hD1' hpF
    simp only []
    go_wp2_with (go_at_call 19; fail)
    have huw5 : Upd (fun _ => False) w w5 := HUP.out.step HU5.out (fun k hk e => by have := HFW.out k (by rw [e]; exact HPF.out); omega)
    refine (clone_any w5 (by rw [HSNL.out]; omega) (HPI.out.kept huw5)).mono ?_
    rintro e w6 ⟨u, rfl, hou, _, hu6⟩
    have HOU := Lib.hid hou; have HU6 := Lib.hid hu6; have HUW6 := Lib.hid (huw5.trans hu6)
    clear hou hu6 huw5
    have hcp := cp_any (b := sn') w6 ⟨HW5.out.1.kept HU6.out (fun _ _ e => e), HW5.out.2.1.kept HU6.out (fun _ _ e => e), HW5.out.2.2⟩ HWAL.out.g.ok HOK1.out (by omega) HSNB.out (by rw [HSNL.out]; omega) HOU.out.bytesIn (fun hne a n c e => by
      have hk := (World.ownsRow.lt HOU.out a.block (by rw [e]; rfl)).1
      exact ⟨fun e => by have := HW5.out.2.1.lt _ e; omega, fun e => by have := HW5.out.1.lt _ HW5.out.1.mem; omega⟩)
    have hrf : X.refuses sn'.length 0 = 0 := by
      have h1 := HWAL.out.law.says; have h2 := HWAL.out.g.unbroken; have h3 := HNX.out; have h4 := HAR.out; have h5 := HSNL.out
      unfold Lg.refuses
      rw [h2, if_neg (by simp), if_neg (by omega), if_neg (by rw [h5, h4]; omega)]
    have hE : D1.laysE (X.cpS sn' HSNB.out) = 9 := by
      have hb := partSc_bound (h := X.h) (number := X.cpH.number) (place := X.cpH.place) (snap := true) HSNB.out (N := 34) (by have := HAR.out; omega) HWAL.out.g.fits
      have hl : (X.cpS sn' HSNB.out).length = secsN m3 := by
        unfold Lg.cpS
        rw [partL_raw]
        simp [partL, HSNL.out]
      have hg := HWAL.out.g.good
      refine lays_armed _ _ (by rw [HD1.out]; exact hg.dead) (by rw [HD1.out]; exact hg.fail) (by rw [HD1.out, hl]) (by rw [HD1.out]; show 0 < D.arr.length; rw [hg.len]; omega) (fun x hx => by
        rw [HD1.out]
        show 0 ≤ x.1 ∧ x.1 < (D.arr.length : Int)
        rw [hg.len]; exact hb x hx)
    have hcE : X.cpE D1 sn' HSNB.out = 9 := by unfold Lg.cpE; rw [hE]; rfl
    have hcD : X.cpD D1 sn' HSNB.out = D1.lays (X.cpS sn' HSNB.out) := by unfold Lg.cpD; rw [hE]; rfl
    rw [hcE, hcD] at hcp
    have HCP := Lib.hid hcp; have HRF := Lib.hid hrf
    clear hcp hrf hE hcE hcD
    simp only []
    go_wp2_with (go_at_call 18; fail)
    refine HCP.out.mono ?_
    rintro e w7 (⟨hx, _⟩ | ⟨_, hx, _⟩ | ⟨_, _, rfl, G7, F7, hwal7, hG7, hF7, hu7⟩)
    · exact absurd HRF.out hx
    · have := HTN.out; omega
    obtain ⟨D2, hD2⟩ : ∃ D2, D2 = D1.lays (X.cpS sn' HSNB.out) := ⟨_, rfl⟩
    rw [← hD2] at hwal7
    have hok2 : D2.Ok 70000 := by
      rw [hD2]
      have := Dk.lays_ok (partSc X.h X.cpH.number X.cpH.place true sn' HSNB.out) HOK1.out
      rw [partSc_length, HSNL.out] at this
      exact Dk.Ok.mono this (by omega)
    have HWAL7 := Lib.hid hwal7; have HG7 := Lib.hid hG7; have HF7 := Lib.hid hF7; have HU7 := Lib.hid hu7; have HD2 := Lib.hid hD2; have HOK2 := Lib.hid hok2
    clear hwal7 hG7 hF7 hu7 hD2 hok2 HCP
    simp only []
    have hks := HKS.out
    have hkm := HKM.out
    have huw7 : Upd (fun _ => False) w w7 := HUW6.out.step HU7.out (fun k hk e => by
      rcases e with e | e
      · have := HGW.out k e; omega
      · have := HFW.out k e; omega)
    have hcr := crash_any w7 kb kcb ((List.range m2).map B) (HKI.out w7 huw7) (by simp; omega) HWAL7.out.2.1 (Dk.Ok.mono HOK2.out (by omega))
    rw [show ((List.range m2).map B).length = m2 by simp] at hcr
    have HCR := Lib.hid hcr; have HUW7 := Lib.hid huw7
    clear hcr huw7
    go_wp2_with (go_at_call 40; fail)
    refine HCR.out.mono ?_
    rintro e w8 ⟨rfl, F8, hd8, hF8, hu8⟩
    clear hks hkm HCR
    obtain ⟨D3, hD3⟩ : ∃ D3, D3 = D2.crash ((List.range m2).map B) := ⟨_, rfl⟩
    rw [← hD3] at hd8
    have hlen2 : D2.arr.length = 34 := by rw [HD2.out, lays_len, HD1.out]; exact HWAL.out.g.good.len
    have hg3 : D3.Good 34 := by rw [hD3, ← hlen2]; exact (crash_good D2 _).1
    have hok3 : D3.Ok 70000 := by rw [hD3]; exact HOK2.out.crash _
    have hlaw3 : LawD X X.h.turn D3.S := by
      have hfits := HWAL.out.g.fits
      have hv : D2.Vers D.S (X.cpS sn' HSNB.out) := by
        have h0 : D1.Vers D1.S (X.cpS sn' HSNB.out) := Dk.Vers.start (by rw [HD1.out]; exact HWAL.out.row) _
        have hS : D1.S = D.S := by rw [HD1.out]; rfl
        rw [hS] at h0
        rw [HD2.out]
        refine Dk.Vers.lays _ h0 (fun x hx => ⟨hx, ?_⟩)
        have hb := partSc_bound (h := X.h) (number := X.cpH.number) (place := X.cpH.place) (snap := true) HSNB.out (N := 34) (by have := HAR.out; omega) hfits
        exact (hb x hx).1
      refine HWAL.out.law.crash_snap (b := sn') (by rw [HSNL.out]; omega) (by rw [HSNL.out, HAR.out]; omega) (fun i h1 h2 => ?_)
      have := hv.crash ((List.range m2).map B) h1 (by rw [hlen2]; have := HAR.out; omega)
      rw [hD3]
      unfold Lg.cpS at this
      rwa [partL_raw] at this
    have hF8w : ∀ k, F8 k → F k ∨ w5.heap.size ≤ k := fun k hk => by
      have h5 := HU6.out.size; have h7 := HU7.out.size
      rcases hF8 k hk with e | e
      · rcases HF7.out k e with e | e
        · exact .inl e
        · exact .inr (by omega)
      · exact .inr (by omega)
    have hwc5 := HU5.out.size
    have hbxl := lt_of_heap HBX.out
    have hout : ∀ k, k < wc.heap.size → ¬ G k → ¬ F k → w8.heap[k]? = wc.heap[k]? ∧ ¬ F8 k := fun k hk h1 h2 => by
      have hkp : k ≠ p := fun e => h2 (by rw [e]; exact HPF.out)
      have e5 := HU5.out.block k hk (fun e => hkp e)
      have e6 := HU6.out.block k (by omega) (fun e => e)
      have e7 := HU7.out.block k (by have := HU6.out.size; omega) (fun e => e.elim h1 h2)
      have hF7k : ¬ F7 k := fun e => (HF7.out k e).elim h2 (fun e => by have := HU6.out.size; omega)
      have e8 := hu8.block k (by have := HU6.out.size; have := HU7.out.size; omega) (fun e => hF7k e)
      exact ⟨by rw [e8, e7, e6, e5], fun e => (hF8w k e).elim h2 (fun e => by omega)⟩
    have hbx8 : w8.heap[bc]? = some (.cells #[.slice none 0 0, tv] 30 (0, 0)) := (hout bc hbxl HGB.out HFB.out).1.trans HBX.out
    have hf8b : ¬ F8 bc := (hout bc hbxl HGB.out HFB.out).2
    have hrow8 : w8.ownsRow w.heap.size 28 1 tv txs.length vs := ownsRow_heap HROW.out (fun k hk => (hout k (World.ownsRow.lt HROW.out k hk).2 (HTV.out k hk).1 (HTV.out k hk).2.1).1)
    have htv8 : ∀ k, tv.ownBlock = some k → ¬ F8 k := fun k hk => (hout k (World.ownsRow.lt HROW.out k hk).2 (HTV.out k hk).1 (HTV.out k hk).2.1).2
    have huw8 : Upd (fun _ => False) w w8 := HUW7.out.step hu8 (fun k hk e => by
      rcases HF7.out k e with e | e
      · have := HFW.out k e; omega
      · have := HUW6.out.size; omega)
    have hF8g : ∀ k, F8 k → w.heap.size ≤ k := fun k hk => (hF8w k hk).elim (HFW.out k) (fun e => by have := HUP.out.size; omega)
    have hop := open_live w8 hd8 hlaw3 hg3 hok3 (by omega) (by have := HAR.out; omega) (by have := HTN.out; omega) (by omega)
    have HOP := Lib.hid hop; have HBX8 := Lib.hid hbx8; have HFB8 := Lib.hid hf8b; have HROW8 := Lib.hid hrow8; have HTV8 := Lib.hid htv8; have HTVB : RowKit.Hid (∀ k, tv.ownBlock = some k → k ≠ bc) := Lib.hid (fun k hk => (HTV.out k hk).2.2)
    have HUW8 := Lib.hid huw8; have HFG8 := Lib.hid hF8g
    clear hd8 hF8 hu8 hD3 hlen2 hg3 hok3 hlaw3 hF8w hwc5 hbxl hout hbx8 hf8b hrow8 htv8 huw8 hF8g hop HWAL7 HG7 HF7 HU7 HD2 HOK2 HUW7 HUW6 HU6 HOU HW5 HOK1 HD1 HU5 HPF HBX HGB HFB HROW HTV HKI HKS HKM HPI HPS HPM HRF
    simp only []
    go_wp2_with (go_at_call 21; fail)
    refine HOP.out.mono ?_
    rintro e w9 ⟨q2, D4, G4, F4, rfl, hw9, hG9, hF9, hu9⟩
    have hbx9 := (hu9.block bc (lt_of_heap HBX8.out) HFB8.out).trans HBX8.out
    have hrow9 := ownsRow_heap HROW8.out (fun k hk => hu9.block k (World.ownsRow.lt HROW8.out k hk).2 (HTV8.out k hk))
    have huw9 : Upd (fun _ => False) w w9 := HUW8.out.step hu9 (fun k hk e => by have := HFG8.out k e; omega)
    have hf9b : ¬ F4 bc := fun e => (hF9 _ e).elim HFB8.out (fun e => by have := lt_of_heap HBX8.out; omega)
    have htv9 : ∀ k, tv.ownBlock = some k → ¬ F4 k := fun k hk e => (hF9 _ e).elim (HTV8.out k hk) (fun e => by have := (World.ownsRow.lt HROW8.out k hk).2; omega)
    have HGB9 : RowKit.Hid (¬ G4 bc) := Lib.hid (fun e => by have := hG9 _ e; have := lt_of_heap HBX8.out; omega)
    have HTG9 : RowKit.Hid (∀ k, tv.ownBlock = some k → ¬ G4 k ∧ k ≠ bc) := Lib.hid (fun k hk => ⟨fun e => by have := hG9 k e; have := (World.ownsRow.lt HROW8.out k hk).2; omega, (HTVB.out k hk)⟩)
    have HGG9 : RowKit.Hid (∀ k, G4 k → w.heap.size ≤ k) := Lib.hid (fun k hk => by have := hG9 k hk; have := HUW8.out.size; omega)
    have hF9g : ∀ k, F4 k → w.heap.size ≤ k := fun k hk => (hF9 k hk).elim (HFG8.out k) (fun e => by have := HUW8.out.size; omega)
    have hbyt := hw9.g.ok.bytes
    have hlen := hw9.g.ok.len
    have hpo : X.on.parts = [] :: txs := HPA.out
    rw [hpo] at hbyt hlen
    have hrin : ∀ W', Upd F4 w9 W' → RowsIn W' tv txs := fun W' hu => ⟨vs, ownsRow_base (ownsRow_heap hrow9 (fun k hk => hu.block k (World.ownsRow.lt hrow9 k hk).2 (htv9 k hk))) (Nat.zero_le _), fun j u b hj hb => (HEA.out j u b hj hb).kept (huw9.step hu (fun k hk e => by have := hF9g k e; omega))⟩
    have hin := in_any (sv := .slice none 0 0) (snap := []) (txs := txs) w9 hw9.g.wal.1 hw9.g.ok (by rw [hpo]; simp) (by show X.h.area = 16; exact HAR.out) hw9.law.sum (.inl ⟨rfl, rfl⟩) bytes_nil (by simp) (hrin w9 (Upd.refl _ _)) (fun b hb => hbyt b (List.mem_cons_of_mem _ hb)) (by simp at hlen; omega)
    rw [show decide (X.on.parts = [] :: txs) = true by rw [hpo]; simp] at hin
    have c0 := (cells2_of hbx9).1; have c1 := (cells2_of hbx9).2
    have HIN := Lib.hid hin; have HW9 := Lib.hid hw9; have HBX9 := Lib.hid hbx9; have HROW9 := Lib.hid hrow9; have HUW9 := Lib.hid huw9; have HFB9 := Lib.hid hf9b; have HTV9 := Lib.hid htv9; have HFG9 := Lib.hid hF9g; have HPO := Lib.hid hpo; have HRIN := Lib.hid hrin
    have HTX : RowKit.Hid (txs.length ≤ 999) := Lib.hid (by simp at hlen; omega)
    clear hw9 hG9 hF9 hu9 hbx9 hrow9 huw9 hf9b htv9 hF9g hbyt hlen hpo hin hrin HOP HBX8 HFB8 HROW8 HTV8 HUW8 HFG8
    simp only []
    go_wp2_with (go_at_call 22; fail)
    refine HIN.out.mono ?_
    rintro e w10 ⟨rfl, hu10⟩
    have HU10 := Lib.hid hu10
    clear hu10 c0 c1 HIN
    simp only []
    go_wp2_with (go_at_call 17; fail)
    have HW10 := Lib.hid (HW9.out.kept HU10.out (fun _ _ e => e) (fun _ _ e => e))
    refine (left_any w10 HW10.out.g.wal.1 HW10.out.g.ok).mono ?_
    rintro e w11 ⟨rfl, hu11⟩
    have HW11 := Lib.hid (HW10.out.kept hu11 (fun _ _ e => e) (fun _ _ e => e))
    have HU911 := Lib.hid (HU10.out.trans hu11)
    have HAX : RowKit.Hid (X.on.h.area = 16) := Lib.hid HAR.out
    have hub : 0 ≤ X.on.used ∧ X.on.used ≤ 16 := by have h1 := HW10.out.g.ok.used; have h2 := HW10.out.law.fits; have h3 := HAX.out; omega
    rw [HAX.out]
    have HTO : RowKit.Hid (X.on.h.turn = 2) := Lib.hid (by show X.h.turn + 1 = 2; have := HTN.out; omega)
    have HNO : RowKit.Hid (X.on.h.number + X.on.parts.length ≤ 10) := Lib.hid (by have := HNX.out; show X.h.number + (X.parts.length : Int) ≤ 10; omega)
    obtain ⟨Y, hY⟩ : ∃ Y, Y = X.on := ⟨_, rfl⟩
    rw [← hY] at HW11 HPO HAX hub HTO HNO ⊢
    clear hu11 HW10 HU10 HW9 hY HWAL HGW HFW HAR HNX HTN HPA
    simp only []
    go_upto_if 94 with fail
    go_cut [] from 94 to 104 (fun wr => HsAt w q2 p bc wr)
    case first =>
      by_cases hlf : 16 - Y.used > 0
      · have HBX11 := Lib.hid ((HU911.out.block bc (lt_of_heap HBX9.out) (fun e => e)).trans HBX9.out)
        have HROW11 := Lib.hid (ownsRow_any HROW9.out HU911.out (fun _ _ e => e))
        have hua : Upd (fun _ => False) w11 (w11.alloc (.cells #[.int .u8 1] 5)) := (Upd.refl _ _).alloc _
        have hown : OwnB (w11.alloc (.cells #[.int .u8 1] 5)) w11.heap.size (.slice (some ⟨w11.heap.size, 0, none⟩) 1 1) [1] := ⟨rfl, .inr ⟨w11.heap.size, 1, #[.int .u8 1], rfl, Nat.le_refl _, alloc_at rfl, Nat.le_refl _, by unfold maxLen; omega, rfl, rfl⟩⟩
        have hap := append_live (b := [1]) (w11.alloc (.cells #[.int .u8 1] 5)) (HW11.out.kept hua (fun _ _ e => e) (fun _ _ e => e)) (by omega) (fun x hx => by simp at hx; omega) (by simp) (by have := HNO.out; omega) hown.bytesIn (fun _ a n c e => by
          injection e with e _ _
          injection e with e
          rw [← e]
          have h1 := HW11.out.g.wal.1.lt; have h2 := HW11.out.g.wal.2.1.lt
          exact ⟨fun e => by have := h2 _ e; simp at this, fun e => by have := h1 _ HW11.out.g.wal.1.mem; simp at e; omega⟩) (by rw [HAX.out]; omega)
        have HAP := Lib.hid hap
        clear hap hown hua
        go_wp2_with (go_at_call 20; fail)
        refine HAP.out.mono ?_
        rintro e w12 (⟨hx, _⟩ | ⟨_, rfl, D6, G6, F6, hw12, hG12, hF12, hu12⟩)
        · have h1 := HAX.out
          simp [secsN] at hx
          omega
        · have hua : Upd (fun _ => False) w11 (w11.alloc (.cells #[.int .u8 1] 5)) := (Upd.refl _ _).alloc _
          have hu1112 : Upd (fun k => G4 k ∨ F4 k) w11 w12 := (hua.mono (fun _ _ e => e.elim)).trans hu12
          have hbx12 := (hu1112.block bc (lt_of_heap HBX11.out) (fun e => e.elim HGB9.out HFB9.out)).trans HBX11.out
          have hrow12 := ownsRow_heap HROW11.out (fun k hk => hu1112.block k (World.ownsRow.lt HROW11.out k hk).2 (fun e => e.elim (HTG9.out k hk).1 (HTV9.out k hk)))
          have hsA : w11.heap.size < (w11.alloc (.cells #[.int .u8 1] 5)).heap.size := by simp
          have hf6b : ¬ F6 bc := fun e => (hF12 _ e).elim HFB9.out (fun e => by have := lt_of_heap HBX11.out; omega)
          have htv6 : ∀ k, tv.ownBlock = some k → ¬ F6 k ∧ ¬ G6 k := fun k hk => by
            have h1 := (World.ownsRow.lt HROW11.out k hk).2
            exact ⟨fun e => (hF12 _ e).elim (HTV9.out k hk) (fun e => by omega), fun e => (hG12 _ e).elim (HTG9.out k hk).1 (fun e => by omega)⟩
          have hg6b : ¬ G6 bc := fun e => (hG12 _ e).elim HGB9.out (fun e => by have := lt_of_heap HBX11.out; omega)
          have huw12 : Upd (fun _ => False) w w12 := (HUW9.out.trans HU911.out).step hu1112 (fun k hk e => e.elim (fun e => by have := HGG9.out k e; omega) (fun e => by have := HFG9.out k e; omega))
          have hF6g : ∀ k, F6 k → w.heap.size ≤ k := fun k hk => (hF12 k hk).elim (HFG9.out k) (fun e => by have := (HUW9.out.trans HU911.out).size; omega)
          obtain ⟨ta, tc, htvd⟩ := rowV hrow12
          subst htvd
          have c1 := (cells2_of hbx12).2
          have hwlt := hw12.g.wal.1.lt; have hflt := hw12.g.wal.2.1.lt
          have HW12 := Lib.hid hw12; have HBX12 := Lib.hid hbx12; have HROW12 := Lib.hid hrow12; have HF6B := Lib.hid hf6b; have HTV6 := Lib.hid htv6; have HG6B := Lib.hid hg6b; have HUW12 := Lib.hid huw12; have HF6G := Lib.hid hF6g; have HWLT := Lib.hid hwlt; have HFLT := Lib.hid hflt
          have htl := HTX.out
          clear hw12 hG12 hF12 hu12 hua hu1112 hbx12 hrow12 hsA hf6b htv6 hg6b huw12 hF6g hwlt hflt HAP HBX11 HROW11
          simp only []
          go_upto_region 24 with fail
          iterate 13 go_step
          obtain ⟨wB, hwB⟩ : ∃ wB, wB = (w12.alloc (.cells #[.int .u8 1] 5)).alloc (.cells #[.slice (some ⟨w12.heap.size, 0, none⟩) 1 1] 28) := ⟨_, rfl⟩
          have hsB : wB.heap.size = w12.heap.size + 2 := by rw [hwB]; simp
          have huB : Upd (fun _ => False) w12 wB := by rw [hwB]; exact ((Upd.refl _ _).alloc _).alloc _
          have h1B : wB.heap[w12.heap.size]? = some (.cells #[.int .u8 1] 5 (0, 0)) := by rw [hwB]; exact (alloc_lt (by simp)).trans (alloc_at rfl)
          have h2B : wB.heap[w12.heap.size + 1]? = some (.cells #[.slice (some ⟨w12.heap.size, 0, none⟩) 1 1] 28 (0, 0)) := by rw [hwB]; exact alloc_at (by simp)
          have hrowB := ownsRow_any HROW12.out huB (fun _ _ e => e)
          have hnew : ∀ j v, [Value.slice (some ⟨w12.heap.size, 0, none⟩) 1 1][j]? = some v → wB.cell? ((⟨w12.heap.size + 1, 0, none⟩ : Addr).add j) = some v := by
            intro j v hj
            have hj0 : j = 0 := by
              have := (List.getElem?_eq_some_iff.1 hj).1
              simp at this; omega
            subst hj0
            simp at hj
            subst hj
            rw [Addr.add_mid]
            exact cells1_of h2B
          refine (?_ : wpList _ _ _ _ _ ((w12.alloc (.cells #[.int .u8 1] 5)).alloc (.cells #[.slice (some ⟨w12.heap.size, 0, none⟩) 1 1] 28)))
          rw [← hwB]
          obtain ⟨i0, hi0, hz0, hz1, hz2⟩ := info_parts Try.info28p
          refine wpList_append_own_at _ rfl (.tmp 100) (.tmp 102) 22 rfl w.heap.size 28 i0 (.slice none 0 0) 1 24 Try.underlying22 hi0 hz0 hz1 hz2 rfl (by omega) _ _ _ rfl hrowB ⟨w12.heap.size + 1, 0, none⟩ 1 1 [.slice (some ⟨w12.heap.size, 0, none⟩) 1 1] rfl rfl hnew (by simp [Value.oneCell']) (by unfold maxLen; omega) (by omega) (by have := HUW12.out.size; omega) ?_
          intro v' w13 hown13 hgrow _ hat13
          obtain ⟨g13, cap13, rfl⟩ := ownsRow_succ hown13
          have huB13 : Upd (fun k => (Value.slice ta txs.length tc).ownBlock = some k) wB w13 := Upd.of_grown hgrow (fun k hk => hk)
          have hu1213 : Upd (fun k => (Value.slice ta txs.length tc).ownBlock = some k) w12 w13 := (huB.mono (fun _ _ e => e.elim)).trans huB13
          have hbx13 := (hu1213.block bc (lt_of_heap HBX12.out) (fun e => (HTG9.out bc e).2 rfl)).trans HBX12.out
          have c13 := (cells2_of hbx13).2
          have f13 : w13.frozen? ⟨bc, 1, none⟩ = false := frozen_of_heap hbx13
          have hloc : (Value.slice ta txs.length tc).ownBlock = some g13 ∨ g13 = w12.heap.size + 2 := by
            rcases hat13 with e | e
            · exact .inl (show (Value.slice ta txs.length tc).ownBlock = some g13 from e.symm)
            · simp [Value.ownBlock] at e; exact .inr (by omega)
          have hg13 : ¬ F6 g13 ∧ g13 ≠ bc := by
            rcases hloc with e | e
            · exact ⟨(HTV6.out g13 e).1, (HTG9.out g13 e).2⟩
            · have h3 := lt_of_heap HBX12.out
              exact ⟨fun q => by have := HFLT.out _ q; omega, by omega⟩
          have hone13 : w13.heap[w12.heap.size]? = some (.cells #[.int .u8 1] 5 (0, 0)) := (huB13.block _ (lt_of_heap h1B) (fun e => by have := (World.ownsRow.lt HROW12.out _ e).2; omega)).trans h1B
          obtain ⟨w14, hw14⟩ : ∃ w14, w14 = w13.setCell ⟨bc, 1, none⟩ (.slice (some ⟨g13, 0, none⟩) (txs.length + 1) cap13) := ⟨_, rfl⟩
          have hu1314 : Upd (fun k => k = bc) w13 w14 := by rw [hw14]; exact upd_own w13 bc 1 _
          have huw14 : Upd (fun _ => False) w w14 := ((HUW12.out.step hu1213 (fun k hk e => by have := (World.ownsRow.lt HROW12.out k e).1; omega))).step hu1314 (fun k hk e => by have := HBC.out; omega)
          have hend : HsAt w q2 p bc w14 := by
            have hw := (HW12.out.kept hu1213 (fun k hk e => (HTV6.out k e).2 hk) (fun k hk e => (HTV6.out k e).1 hk)).kept hu1314 (fun k hk e => HG6B.out (by rw [← e]; exact hk)) (fun k hk e => HF6B.out (by rw [← e]; exact hk))
            have hrow14 : w14.ownsRow w.heap.size 28 1 (.slice (some ⟨g13, 0, none⟩) (txs.length + 1) cap13) (txs.length + 1) (vs ++ [.slice (some ⟨w12.heap.size, 0, none⟩) 1 1]) :=
              ownsRow_heap hown13 (fun k hk => hu1314.block k (World.ownsRow.lt hown13 k hk).2 (fun e => hg13.2 (by simp [Value.ownBlock] at hk; omega)))
            have hone14 : w14.heap[w12.heap.size]? = some (.cells #[.int .u8 1] 5 (0, 0)) := (hu1314.block _ (lt_of_heap hone13) (fun e => by have := lt_of_heap HBX12.out; omega)).trans hone13
            refine ⟨Y.add [1], D6, G6, F6, .slice (some ⟨g13, 0, none⟩) (txs.length + 1) cap13, txs ++ [[1]], hw.up (by omega), HF6G.out, HAX.out, by have h1 := HTO.out; show Y.h.turn < 1000; omega, ?_, ?_, HF6B.out, fun W' hu => ?_, huw14⟩
            · show Y.parts ++ [[1]] = [] :: (txs ++ [[1]])
              rw [HPO.out]; rfl
            · have h1 := blk_set (i := 1) (v := .slice (some ⟨g13, 0, none⟩) (txs.length + 1) cap13) hbx13
              rw [hw14]
              simpa using h1
            · refine ⟨vs ++ [.slice (some ⟨w12.heap.size, 0, none⟩) 1 1], ?_, ?_⟩
              · rw [List.length_append]
                exact ownsRow_base (ownsRow_heap hrow14 (fun k hk => hu.block k (World.ownsRow.lt hrow14 k hk).2 (by simp [Value.ownBlock] at hk; rw [← hk]; exact hg13.1))) (Nat.zero_le _)
              · intro j u' b hj hb
                have hvl : vs.length = txs.length := by have := HROW12.out.1; omega
                by_cases hjt : j < txs.length
                · rw [List.getElem?_append_left (by omega)] at hj hb
                  exact (HEA.out j u' b hj hb).kept (huw14.step hu (fun k hk e => by have := HF6G.out k e; omega))
                · rw [List.getElem?_append_right (by omega)] at hj hb
                  have hj0 : j - vs.length = 0 := by
                    have := (List.getElem?_eq_some_iff.1 hj).1
                    simp at this; omega
                  rw [hj0] at hj
                  rw [show j - txs.length = 0 by omega] at hb
                  simp at hj hb
                  rw [← hj, ← hb]
                  have h15 := (hu.block _ (lt_of_heap hone14) (fun e => by have := HFLT.out _ e; omega)).trans hone14
                  exact (show OwnB W' 0 (.slice (some ⟨w12.heap.size, 0, none⟩) 1 1) [1] from ⟨rfl, .inr ⟨w12.heap.size, 1, #[.int .u8 1], rfl, Nat.zero_le _, h15, Nat.le_refl _, by unfold maxLen; omega, rfl, rfl⟩⟩).bytesIn
          have HEND := Lib.hid hend
          clear hend huw14 hu1314 hone13 hg13 hloc hat13 hu1213 huB13 hown13 hgrow hi0 hz0 hz1 hz2 hnew hrowB h2B h1B huB hwB hbx13 c1
          go_upto_region 24 with fail
          go_wp2
          rw [← hw14]
          go_meet
          case rel => exact HEND.out
      · have HEND : RowKit.Hid (HsAt w q2 p bc w11) := Lib.hid ⟨Y, D4, G4, F4, tv, txs, HW11.out.up (by omega), HFG9.out, HAX.out, by have := HTO.out; omega, HPO.out, (HU911.out.block bc (lt_of_heap HBX9.out) (fun e => e)).trans HBX9.out, HFB9.out, fun W' hu => HRIN.out W' ((HU911.out.mono (fun _ _ e => e.elim)).trans hu), HUW9.out.trans HU911.out⟩
        go_wp2
        go_meet
        case rel => exact HEND.out
    case rest =>
      obtain ⟨X2, D5, G5, F5, tv5, txs5, hw, hF5, har, htu, hpo, hbx, hfb, hrin, huw⟩ := hcut
      have hop := open_live wc hw.g.wal.2.1 hw.law hw.g.good hw.g.dok (by omega) (by omega) (by omega) (by omega)
      have hbyt := hw.g.ok.bytes
      have hlen := hw.g.ok.len
      rw [hpo] at hbyt hlen
      have HOP := Lib.hid hop; have HW := Lib.hid hw; have HF5 := Lib.hid hF5; have HAR2 := Lib.hid har; have HPO2 := Lib.hid hpo; have HBX2 := Lib.hid hbx; have HFB2 := Lib.hid hfb; have HRI2 := Lib.hid hrin; have HUW2 := Lib.hid huw; have HBYT := Lib.hid hbyt
      have HL5 : RowKit.Hid (txs5.length ≤ 1000) := Lib.hid (by simp at hlen; omega)
      clear hw hF5 har htu hpo hbx hfb hrin huw hop hbyt hlen
      go_wp2_with (go_at_call 21; fail)
      refine HOP.out.mono ?_
      rintro e w21 ⟨q3, D7, G7, F7, rfl, hw7, hG7, hF7, hu7⟩
      have hbx7 := (hu7.block bc (lt_of_heap HBX2.out) HFB2.out).trans HBX2.out
      have c0 := (cells2_of hbx7).1; have c1 := (cells2_of hbx7).2
      have hpo7 : X2.on.parts = [] :: txs5 := HPO2.out
      have hin := in_any (sv := .slice none 0 0) (snap := []) (txs := txs5) w21 hw7.g.wal.1 hw7.g.ok (by rw [hpo7]; simp) HAR2.out hw7.law.sum (.inl ⟨rfl, rfl⟩) bytes_nil (by simp) (HRI2.out w21 hu7) (fun b hb => HBYT.out b (List.mem_cons_of_mem _ hb)) HL5.out
      rw [show decide (X2.on.parts = [] :: txs5) = true by rw [hpo7]; simp] at hin
      have HIN := Lib.hid hin
      have HU21 : RowKit.Hid (Upd (fun _ => False) w w21) := Lib.hid (HUW2.out.step hu7 (fun k hk e => by have := HF5.out k e; omega))
      clear hw7 hG7 hF7 hu7 hbx7 hpo7 hin HOP
      simp only []
      go_wp2_with (go_at_call 22; fail)
      refine HIN.out.mono ?_
      rintro e w22 ⟨rfl, hu22⟩
      have HU22 := Lib.hid (HU21.out.trans hu22)
      clear hu22 c0 c1
      simp only []
      go_wp2
      go_ret
      exact ⟨rfl, HU22.out⟩

end Go.Proofs.Ytbimkhdiplnbfaa
end

