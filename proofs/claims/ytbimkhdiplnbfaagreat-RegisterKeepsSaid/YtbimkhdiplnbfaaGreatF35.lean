/- Walks: the law's copy of a batch. -/
import Derived.Test.YtbimkhdiplnbfaaGreatF3
import Derived.Test.YtbimkhdiplnbfaaGreatF20
import Derived.Test.YtbimkhdiplnbfaaGreatF24
import Derived.Maps.AppendAt
set_option linter.unusedVariables false
set_option linter.unusedSimpArgs false

section
namespace Go.Proofs.YtbimkhdiplnbfaaGreat
set_option maxRecDepth 100000
open Go.RowKit Go.Shelf

theorem wp_appB2 {o : Oper} {a : Act} {K : Act → World → Prop} {Q : Exit → Act → World → Prop} {w : World} (s x : Operand) (ho : o.op = .call { callee := .builtin .append, args := #[s, x], argTypes := #[39, 39] })
  {base : Nat} {v vx : Value} {bs cs : List Int} (hs : a.eval s = v) (hown : OwnB w base v bs) (hx : a.eval x = vx) (hxx : BytesIn w vx cs) (hm : bs.length + cs.length ≤ 140737488351232) (hbase : base ≤ w.heap.size)
  (h : ∀ v' w', OwnB w' base v' (bs ++ cs) → Upd (fun k => v.ownBlock = some k) w w' → (v'.ownBlock = v.ownBlock ∨ v'.ownBlock = some w.heap.size) → K (a.put o.dst v') w') : o.wp Tryz.prog a w K Q := by
 have hrun : ∃ v' w', (Builtin.append_ #[39, 39] o.type #[v, vx]).run Tryz.prog w = .ok v' w' ∧ OwnB w' base v' (bs ++ cs) ∧ Upd (fun k => v.ownBlock = some k) w w' ∧ (v'.ownBlock = v.ownBlock ∨ v'.ownBlock = some w.heap.size) := by
  obtain ⟨i, hi, hz, hsz, hb⟩ := info_parts Tryz.info5p
  rcases hxx with ⟨rfl, rfl⟩ | ⟨ad, c, rfl, h1, h2, h3⟩
  ·have hr := run_append_owned_none (P := Tryz.prog) (w := w) base 39 o.type 5 i 1 Tryz.underlying39 hi v bs.length (bcells bs) hown
   exact ⟨_, _, hr, by simpa using hown, Upd.refl _ _, .inl rfl⟩
  ·obtain ⟨v', w', hr, g1, g2, _, g3⟩ := run_append_own_at (P := Tryz.prog) w base 39 o.type 5 i (.int .u8 0) 1 1 Tryz.underlying39 hi hz hsz hb rfl (by omega) v bs.length (bcells bs) hown ad cs.length c (bcells cs) (by simp [bcells]) h3 (bcells_one cs) (by unfold maxLen; omega) (by omega) hbase
   refine ⟨v', w', hr, ?_, Upd.of_grown g2 (fun k hk => hk), g3⟩
   unfold OwnB
   rw [bcells_append, List.length_append]
   exact g1
 obtain ⟨v', w', hr, g1, g2, g3⟩ := hrun
 exact Lib.wp_append_run w s x 39 39 ho v vx hs hx v' w' hr (h v' w' g1 g2 g3)

theorem own_nil {B : Nat} (W : World) (hb : B ≤ W.heap.size) : OwnB (W.alloc (.cells #[] 5)) B (.slice (some ⟨W.heap.size, 0, none⟩) 0 0) [] :=
 ⟨rfl, .inr ⟨W.heap.size, 0, _, rfl, hb, alloc_at rfl, Nat.le_refl _, by unfold maxLen; omega, rfl, rfl⟩⟩

theorem SetRow.low {w : World} {B B' : Nat} {C : Nat → Prop} {sv : Value} {l : List SetV} (h : SetRow w B C sv l) (hb : B' ≤ B) : SetRow w B' C sv l := by
 obtain ⟨L, h0, ⟨h1, h2⟩, h3, h4⟩ := h
 refine ⟨L, h0, ⟨h1, ?_⟩, h3, h4⟩
 rcases h2 with h2 | ⟨g, cap, cur, e, hg, r⟩
 ·exact .inl h2
 ·exact .inr ⟨g, cap, cur, e, Nat.le_trans hb hg, r⟩

structure CpAt (w : World) (ev : Int) (fl : Bool) (l : List SetV) (W : World) : Prop where
 out : ∃ (C : Nat → Prop) (a : Option Addr) (c : Nat), W.heap[w.heap.size + 2]? = some (.cells #[.int .u64 ev, .bool fl, .slice a l.length c] 56 (0, 0)) ∧ SetRow W (w.heap.size + 2 + 1) C (.slice a l.length c) l ∧ RowC W C ∧ ∀ k, C k → w.heap.size + 2 < k
 res : W.heap[w.heap.size + 1]? = some (.cells #[.int .u64 0, .bool false, .slice none 0 0] 56 (0, 0))
 upd : Upd (fun _ => False) w W

def CopyAns (w : World) (B : BatchV) (e : Ending) (w' : World) : Prop :=
 ∃ a c, e = .returned (batchV B a c) ∧ (∃ C, SetRow w' w.heap.size C (.slice a B.sets.length c) B.sets ∧ RowC w' C ∧ ∀ k, C k → w.heap.size ≤ k) ∧ B.sets.length ≤ c ∧ Upd (fun _ => False) w w'

set_option maxHeartbeats 8000000 in
theorem copied_any {c : Nat} {a : Option Addr} {B : BatchV} (w : World) (hs : SetsIn w a B.sets) (hb : ∀ x ∈ B.sets, Bytes x.old ∧ Bytes x.new) (hl : B.sets.length ≤ 1000000) :
  Calls Tryz.prog 20 #[batchV B a c] w (CopyAns w B) := by
 obtain ⟨w1, hw1⟩ : ∃ w1, w1 = (w.alloc (.cells #[.int .u64 B.epoch, .bool B.large, .slice a B.sets.length c] 56)).alloc (.cells #[.int .u64 0, .bool false, .slice none 0 0] 56) := ⟨_, rfl⟩
 have hx1 : w1.heap[w.heap.size]? = some (.cells #[.int .u64 B.epoch, .bool B.large, .slice a B.sets.length c] 56 (0, 0)) := by rw [hw1, alloc_lt (by simp)]; exact alloc_at rfl
 have hr1 : w1.heap[w.heap.size + 1]? = some (.cells #[.int .u64 0, .bool false, .slice none 0 0] 56 (0, 0)) := by rw [hw1]; exact alloc_at (by simp)
 have hz1 : w1.heap.size = w.heap.size + 2 := by rw [hw1]; simp
 have hu1 : Upd (fun _ => False) w w1 := by rw [hw1]; exact ((Upd.refl _ w).alloc _).alloc _
 obtain ⟨z0, z1, z2⟩ := cells3_of hx1
 have HW1 := Lib.hid hw1; have HS := Lib.hid hs; have HBB := Lib.hid hb; have HX1 := Lib.hid hx1; have HR1 := Lib.hid hr1; have HZ1 := Lib.hid hz1; have HU1 := Lib.hid hu1
 clear hw1 hs hb hx1 hr1 hz1 hu1
 unfold batchV
 go_enter Tryz.func20, Tryz.ntmps20
 go_upto_region 1 with fail
 rw [← HW1.out]
 go_upto_region 2 with fail
 rw [HZ1.out]
 obtain ⟨w2, hw2⟩ : ∃ w2, w2 = w1.alloc (.cells #[.int .u64 B.epoch, .bool B.large, .slice none 0 0] 56) := ⟨_, rfl⟩
 rw [← hw2]
 have hu2 : Upd (fun _ => False) w1 w2 := by rw [hw2]; exact (Upd.refl _ w1).alloc _
 have ho2 : w2.heap[w.heap.size + 2]? = some (.cells #[.int .u64 B.epoch, .bool B.large, .slice none 0 0] 56 (0, 0)) := by rw [hw2]; exact alloc_at HZ1.out.symm
 have hx2 := (hu2.block _ (lt_of_heap HX1.out) (fun e => e)).trans HX1.out
 obtain ⟨z0, z1, z2⟩ := cells3_of hx2
 have hd : CpAt w B.epoch B.large [] w2 := ⟨⟨fun _ => False, none, 0, ho2, SetRow.nil _ _ _, fun k hk => hk.elim, fun k hk => hk.elim⟩, (hu2.block _ (lt_of_heap HR1.out) (fun e => e)).trans HR1.out, HU1.out.trans hu2⟩
 have HD := Lib.hid hd
 clear hw2 hu2 ho2 hx2 hd HW1 HX1 HR1 HZ1 HU1
 go_upto_block 0 with fail
 go_upto_region 3 with fail
 go_loopg [14] B.sets.length (fun gk i wr => ∃ k : Nat, k ≤ B.sets.length ∧ gk = B.sets.length - k ∧ i = .int .i64 k ∧ CpAt w B.epoch B.large (B.sets.take k) wr)
 case atStart => exact ⟨0, Nat.zero_le _, rfl, rfl, HD.out⟩
 case round =>
  obtain ⟨k, hk, rfl, rfl, hd⟩ := hrel
  have HD := Lib.hid hd
  clear hd
  by_cases hkn : k < B.sets.length
  ·have hkni : (k : Int) < B.sets.length := by omega
   obtain ⟨x, hx⟩ : ∃ x, B.sets[k]? = some x := ⟨_, List.getElem?_eq_getElem hkn⟩
   obtain ⟨g1, g2, g3, b, o, ea, oa, oc, na, nc, h0, h1, h2, h3, h4, h5, h6, _⟩ := HS.out k x hx
   subst ea
   have kc : ∀ {o : Nat} {v : Value}, w.cell? ⟨b, o, none⟩ = some v → wr.cell? ⟨b, o, none⟩ = some v := fun h => cell_keptF HD.out.upd (fun e => e) h
   have q0 := kc h0; have q1 := kc h1; have q2 := kc h2; have q3 := kc h3; have q4 := kc h4
   have hxx : B.sets[k] = x := by rw [List.getElem?_eq_getElem hkn] at hx; injection hx
   have hnext : B.sets.take (k + 1) = B.sets.take k ++ [x] := by rw [List.take_succ_eq_append_getElem hkn, hxx]
   have hxf : x.fine := by
    have := HBB.out x (List.mem_of_getElem? hx)
    exact ⟨g1, g2, g3, this.1, this.2⟩
   have hll : (B.sets.take k).length = k := by simp; omega
   have HNEXT := Lib.hid hnext; have HXF := Lib.hid hxf; have HLL := Lib.hid hll
   have H5 := Lib.hid (h5.kept HD.out.upd); have H6 := Lib.hid (h6.kept HD.out.upd)
   clear h0 h1 h2 h3 h4 h5 h6 kc hx hxx hnext hxf hll
   go_upto_region 5 with fail
   obtain ⟨b5, hb5⟩ : ∃ b5, b5 = wr.heap.size := ⟨_, rfl⟩
   obtain ⟨w3, hw3⟩ : ∃ w3, w3 = wr.alloc (.cells #[.string x.name, .bool x.was, .bool x.is, .slice oa x.old.length oc, .slice na x.new.length nc] 73) := ⟨_, rfl⟩
   rw [← hw3, ← hb5]
   have hu3 : Upd (fun _ => False) wr w3 := by rw [hw3]; exact (Upd.refl _ wr).alloc _
   have hx3 : w3.heap[b5]? = some (.cells #[.string x.name, .bool x.was, .bool x.is, .slice oa x.old.length oc, .slice na x.new.length nc] 73 (0, 0)) := by rw [hw3]; exact alloc_at hb5
   have hA : w3.drew.heap[b5]? = some (.cells #[.string x.name, .bool x.was, .bool x.is, .slice oa x.old.length oc, .slice na x.new.length nc] 73 (0, 0)) := hx3
   have HU := Lib.hid (hu3.drew); have HB5 := Lib.hid hb5
   clear hw3 hu3 hx3 q0 q1 q2 q3 q4 hb5
   go_cut [14] from 18 to 28 (fun i wx => i = .int .i64 k ∧ ∃ p1a p1m p1c p2a p2m p2c, wx.heap[b5]? = some (.cells #[.string x.name, .bool x.was, .bool x.is, .slice p1a p1m p1c, .slice p2a p2m p2c] 73 (0, 0)) ∧ OwnB wx wr.heap.size (.slice p1a p1m p1c) ([] ++ x.old) ∧ OwnB wx wr.heap.size (.slice p2a p2m p2c) ([] ++ x.new) ∧ Upd (fun _ => False) wr wx)
   case first =>
    refine wp_region_G 9 (fun W => W.heap[b5]? = some (.cells #[.string x.name, .bool x.was, .bool x.is, .slice oa x.old.length oc, .slice na x.new.length nc] 73 (0, 0))) [false, false, false, false, false, false, false, false, false, false, false, false] rfl (by kernel_rfl) ?_
    generalize w3.drew = wd at hA HU ⊢
    refine wpG_tq 1 (.pointer (some ⟨b5, 3, none⟩)) [] rfl (by kernel_rfl) (fun _ _ _ h => h) hA rfl (fun w5 q1 => ?_) ?_
    ·go_simp
    simp only [Act.put, List.setIfInBounds_toArray, List.set]
    refine wpG_tq 2 (.slice oa x.old.length oc) [] rfl (by kernel_rfl) (fun _ _ _ h => h) hA rfl (fun w5 q1 => ?_) ?_
    ·obtain ⟨x0, x1, x2, x3, x4⟩ := cells5_of q1
     go_simp
    simp only [Act.put, List.setIfInBounds_toArray, List.set]
    refine wpG_tq 5 (.pointer (some ⟨b5, 4, none⟩)) [] rfl (by kernel_rfl) (fun _ _ _ h => h) hA rfl (fun w5 q1 => ?_) ?_
    ·go_simp
    simp only [Act.put, List.setIfInBounds_toArray, List.set]
    refine wpG_tq 6 (.slice na x.new.length nc) [] rfl (by kernel_rfl) (fun _ _ _ h => h) hA rfl (fun w5 q1 => ?_) ?_
    ·obtain ⟨x0, x1, x2, x3, x4⟩ := cells5_of q1
     go_simp
    simp only [Act.put, List.setIfInBounds_toArray, List.set]
    refine wpG_do2 (i := 0) (j := 4) rfl rfl (by kernel_rfl) rfl rfl (fun K hK => ?_) (fun K hK => ?_)
    ·have HKK := Lib.hid hK
     clear hK
     go_step
     have ua : Upd (fun _ => False) wd (wd.alloc (.cells #[] 5)) := (Upd.refl _ _).alloc _
     have HO1 := Lib.hid (own_nil wd HU.out.size)
     have hA := (ua.block _ (lt_of_heap hA) (fun e => e)).trans hA
     have HU := Lib.hid (HU.out.trans ua)
     refine HKK.out _ _ hA ?_
     clear HKK ua
     simp only [Act.put, List.setIfInBounds_toArray, List.set]
     generalize wd.alloc (.cells #[] 5) = wd1 at HO1 hA HU ⊢
     refine wpG_do2 (i := 3) (j := 4) rfl rfl (by kernel_rfl) rfl rfl (fun K hK => ?_) (fun K hK => ?_)
     ·have HKK := Lib.hid hK
      clear hK
      refine wp_appB2 (.tmp 18) (.tmp 20) rfl rfl HO1.out rfl (H5.out.kept HU.out) (by simp only [List.length_nil]; omega) HU.out.size ?_
      intro v1 wd1a g1 g2 g3
      obtain ⟨p1a, p1m, p1c, rfl⟩ := g1.bytesAt.1.slice'
      have hA := (g2.block _ (lt_of_heap hA) (fun e => own_apart HO1.out hA (by decide) _ e rfl)).trans hA
      have HU := Lib.hid (HU.out.step g2 (fun j hj e => by have := (HO1.out.lt j e).1; omega))
      have HO1 := Lib.hid g1
      refine HKK.out _ _ hA ?_
      clear HKK g1 g2 g3
      simp only [Act.put, List.setIfInBounds_toArray, List.set]
      refine wpG_tq 8 (.pointer (some ⟨b5, 3, none⟩)) [] rfl (by kernel_rfl) (fun _ _ _ h => h) hA rfl (fun w5 q1 => ?_) ?_
      ·go_simp
      simp only [Act.put, List.setIfInBounds_toArray, List.set]
      refine wpG_do (i := 4) rfl (by kernel_rfl) rfl (fun K hK => ?_)
      have HKK := Lib.hid hK
      clear hK
      go_step
      have ua : Upd (fun _ => False) wd1a (wd1a.alloc (.cells #[] 5)) := (Upd.refl _ _).alloc _
      have HO2 := Lib.hid (own_nil wd1a HU.out.size)
      have hA := (ua.block _ (lt_of_heap hA) (fun e => e)).trans hA
      have HNE : RowKit.Hid (∀ k, (Value.slice p1a p1m p1c).ownBlock = some k → ¬ (Value.slice (some ⟨wd1a.heap.size, 0, none⟩) 0 0).ownBlock = some k) := Lib.hid (fun k h1 h2 => by have := (HO1.out.lt k h1).2; simp [Value.ownBlock] at h2; omega)
      have HO1 := Lib.hid (OwnB.keptF HO1.out ua (fun _ _ e => e))
      have HU := Lib.hid (HU.out.trans ua)
      refine HKK.out _ _ hA ?_
      clear HKK ua
      simp only [Act.put, List.setIfInBounds_toArray, List.set]
      generalize wd1a.alloc (.cells #[] 5) = wd1a2 at HO2 hA HU HO1 ⊢
      refine wpG_do (i := 7) rfl (by kernel_rfl) rfl (fun K hK => ?_)
      have HKK := Lib.hid hK
      clear hK
      refine wp_appB2 (.tmp 22) (.tmp 24) rfl rfl HO2.out rfl (H6.out.kept HU.out) (by simp only [List.length_nil]; omega) HU.out.size ?_
      intro v2 wd1a2a g1 g2 g3
      obtain ⟨p2a, p2m, p2c, rfl⟩ := g1.bytesAt.1.slice'
      have hA := (g2.block _ (lt_of_heap hA) (fun e => own_apart HO2.out hA (by decide) _ e rfl)).trans hA
      have HNE2 : RowKit.Hid (∀ k, (Value.slice p1a p1m p1c).ownBlock = some k → ¬ (Value.slice p2a p2m p2c).ownBlock = some k) := Lib.hid (fun k h1 h2 => by
       rcases g3 with g3 | g3
       ·exact HNE.out k h1 (g3 ▸ h2)
       ·have := (HO1.out.lt k h1).2; rw [g3] at h2; injection h2; omega)
      have HO1 := Lib.hid (OwnB.keptF HO1.out g2 (fun k hk e => HNE.out k hk e))
      have HNE := HNE2
      clear HNE2
      have HU := Lib.hid (HU.out.step g2 (fun j hj e => by have := (HO2.out.lt j e).1; omega))
      have HO2 := Lib.hid g1
      refine HKK.out _ _ hA ?_
      clear HKK g1 g2 g3
      simp only [Act.put, List.setIfInBounds_toArray, List.set]
      refine wpG_tail_lit (k := 9) rfl rfl (by kernel_rfl) ?_
      simp only [List.drop]
      obtain ⟨x0, x1, x2, x3, x4⟩ := cells5_of hA
      have f3 : wd1a2a.frozen? ⟨b5, 3, none⟩ = false := frozen_of_heap hA
      have f4 : wd1a2a.frozen? ⟨b5, 4, none⟩ = false := frozen_of_heap hA
      have HX := Lib.hid hA
      clear hA
      go_wp2
      go_meet
      case rel =>
       obtain ⟨w9, hw9⟩ : ∃ w9, w9 = (wd1a2a.setCell ⟨b5, 3, none⟩ (.slice p1a p1m p1c)).setCell ⟨b5, 4, none⟩ (.slice p2a p2m p2c) := ⟨_, rfl⟩
       rw [← hw9]
       have hu9 : Upd (fun k => k = b5) wd1a2a w9 := by rw [hw9]; exact (upd_own wd1a2a b5 3 _).trans (upd_own _ b5 4 _)
       have hx9 : w9.heap[b5]? = some (.cells #[.string x.name, .bool x.was, .bool x.is, .slice p1a p1m p1c, .slice p2a p2m p2c] 73 (0, 0)) := by
        rw [hw9]
        have := blk_set (i := 4) (v := .slice p2a p2m p2c) (blk_set (i := 3) (v := .slice p1a p1m p1c) HX.out)
        simpa using this
       exact ⟨rfl, p1a, p1m, p1c, p2a, p2m, p2c, hx9, OwnB.keptF HO1.out hu9 (fun k hk => own_apart HO1.out HX.out (by decide) k hk), OwnB.keptF HO2.out hu9 (fun k hk => own_apart HO2.out HX.out (by decide) k hk), HU.out.step hu9 (fun k hk e => by have := HB5.out; omega)⟩
     ·have HKK := Lib.hid hK
      clear hK
      go_step
      have ua : Upd (fun _ => False) wd1 (wd1.alloc (.cells #[] 5)) := (Upd.refl _ _).alloc _
      have HO2 := Lib.hid (own_nil wd1 HU.out.size)
      have hA := (ua.block _ (lt_of_heap hA) (fun e => e)).trans hA
      have HNE : RowKit.Hid (∀ k, (Value.slice (some ⟨wd.heap.size, 0, none⟩) 0 0).ownBlock = some k → ¬ (Value.slice (some ⟨wd1.heap.size, 0, none⟩) 0 0).ownBlock = some k) := Lib.hid (fun k h1 h2 => by have := (HO1.out.lt k h1).2; simp [Value.ownBlock] at h2; omega)
      have HO1 := Lib.hid (OwnB.keptF HO1.out ua (fun _ _ e => e))
      have HU := Lib.hid (HU.out.trans ua)
      refine HKK.out _ _ hA ?_
      clear HKK ua
      simp only [Act.put, List.setIfInBounds_toArray, List.set]
      generalize wd1.alloc (.cells #[] 5) = wd12 at HO2 hA HU HO1 ⊢
      refine wpG_do (i := 3) rfl (by kernel_rfl) rfl (fun K hK => ?_)
      have HKK := Lib.hid hK
      clear hK
      refine wp_appB2 (.tmp 18) (.tmp 20) rfl rfl HO1.out rfl (H5.out.kept HU.out) (by simp only [List.length_nil]; omega) HU.out.size ?_
      intro v1 wd12a g1 g2 g3
      obtain ⟨p1a, p1m, p1c, rfl⟩ := g1.bytesAt.1.slice'
      have hA := (g2.block _ (lt_of_heap hA) (fun e => own_apart HO1.out hA (by decide) _ e rfl)).trans hA
      have HNE2 : RowKit.Hid (∀ k, (Value.slice p1a p1m p1c).ownBlock = some k → ¬ (Value.slice (some ⟨wd1.heap.size, 0, none⟩) 0 0).ownBlock = some k) := Lib.hid (fun k h1 h2 => by
       rcases g3 with g3 | g3
       ·exact HNE.out k (g3 ▸ h1) h2
       ·have := (HO2.out.lt k h2).2; rw [g3] at h1; injection h1; omega)
      have HO2 := Lib.hid (OwnB.keptF HO2.out g2 (fun k hk e => HNE.out k e hk))
      have HNE := HNE2
      clear HNE2
      have HU := Lib.hid (HU.out.step g2 (fun j hj e => by have := (HO1.out.lt j e).1; omega))
      have HO1 := Lib.hid g1
      refine HKK.out _ _ hA ?_
      clear HKK g1 g2 g3
      simp only [Act.put, List.setIfInBounds_toArray, List.set]
      refine wpG_tq 8 (.pointer (some ⟨b5, 3, none⟩)) [] rfl (by kernel_rfl) (fun _ _ _ h => h) hA rfl (fun w5 q1 => ?_) ?_
      ·go_simp
      simp only [Act.put, List.setIfInBounds_toArray, List.set]
      refine wpG_do (i := 7) rfl (by kernel_rfl) rfl (fun K hK => ?_)
      have HKK := Lib.hid hK
      clear hK
      refine wp_appB2 (.tmp 22) (.tmp 24) rfl rfl HO2.out rfl (H6.out.kept HU.out) (by simp only [List.length_nil]; omega) HU.out.size ?_
      intro v2 wd12aa g1 g2 g3
      obtain ⟨p2a, p2m, p2c, rfl⟩ := g1.bytesAt.1.slice'
      have hA := (g2.block _ (lt_of_heap hA) (fun e => own_apart HO2.out hA (by decide) _ e rfl)).trans hA
      have HNE2 : RowKit.Hid (∀ k, (Value.slice p1a p1m p1c).ownBlock = some k → ¬ (Value.slice p2a p2m p2c).ownBlock = some k) := Lib.hid (fun k h1 h2 => by
       rcases g3 with g3 | g3
       ·exact HNE.out k h1 (g3 ▸ h2)
       ·have := (HO1.out.lt k h1).2; rw [g3] at h2; injection h2; omega)
      have HO1 := Lib.hid (OwnB.keptF HO1.out g2 (fun k hk e => HNE.out k hk e))
      have HNE := HNE2
      clear HNE2
      have HU := Lib.hid (HU.out.step g2 (fun j hj e => by have := (HO2.out.lt j e).1; omega))
      have HO2 := Lib.hid g1
      refine HKK.out _ _ hA ?_
      clear HKK g1 g2 g3
      simp only [Act.put, List.setIfInBounds_toArray, List.set]
      refine wpG_tail_lit (k := 9) rfl rfl (by kernel_rfl) ?_
      simp only [List.drop]
      obtain ⟨x0, x1, x2, x3, x4⟩ := cells5_of hA
      have f3 : wd12aa.frozen? ⟨b5, 3, none⟩ = false := frozen_of_heap hA
      have f4 : wd12aa.frozen? ⟨b5, 4, none⟩ = false := frozen_of_heap hA
      have HX := Lib.hid hA
      clear hA
      go_wp2
      go_meet
      case rel =>
       obtain ⟨w9, hw9⟩ : ∃ w9, w9 = (wd12aa.setCell ⟨b5, 3, none⟩ (.slice p1a p1m p1c)).setCell ⟨b5, 4, none⟩ (.slice p2a p2m p2c) := ⟨_, rfl⟩
       rw [← hw9]
       have hu9 : Upd (fun k => k = b5) wd12aa w9 := by rw [hw9]; exact (upd_own wd12aa b5 3 _).trans (upd_own _ b5 4 _)
       have hx9 : w9.heap[b5]? = some (.cells #[.string x.name, .bool x.was, .bool x.is, .slice p1a p1m p1c, .slice p2a p2m p2c] 73 (0, 0)) := by
        rw [hw9]
        have := blk_set (i := 4) (v := .slice p2a p2m p2c) (blk_set (i := 3) (v := .slice p1a p1m p1c) HX.out)
        simpa using this
       exact ⟨rfl, p1a, p1m, p1c, p2a, p2m, p2c, hx9, OwnB.keptF HO1.out hu9 (fun k hk => own_apart HO1.out HX.out (by decide) k hk), OwnB.keptF HO2.out hu9 (fun k hk => own_apart HO2.out HX.out (by decide) k hk), HU.out.step hu9 (fun k hk e => by have := HB5.out; omega)⟩
    ·have HKK := Lib.hid hK
     clear hK
     go_step
     have ua : Upd (fun _ => False) wd (wd.alloc (.cells #[] 5)) := (Upd.refl _ _).alloc _
     have HO2 := Lib.hid (own_nil wd HU.out.size)
     have hA := (ua.block _ (lt_of_heap hA) (fun e => e)).trans hA
     have HU := Lib.hid (HU.out.trans ua)
     refine HKK.out _ _ hA ?_
     clear HKK ua
     simp only [Act.put, List.setIfInBounds_toArray, List.set]
     generalize wd.alloc (.cells #[] 5) = wd2 at HO2 hA HU ⊢
     refine wpG_do (i := 0) rfl (by kernel_rfl) rfl (fun K hK => ?_)
     have HKK := Lib.hid hK
     clear hK
     go_step
     have ua : Upd (fun _ => False) wd2 (wd2.alloc (.cells #[] 5)) := (Upd.refl _ _).alloc _
     have HO1 := Lib.hid (own_nil wd2 HU.out.size)
     have hA := (ua.block _ (lt_of_heap hA) (fun e => e)).trans hA
     have HNE : RowKit.Hid (∀ k, (Value.slice (some ⟨wd2.heap.size, 0, none⟩) 0 0).ownBlock = some k → ¬ (Value.slice (some ⟨wd.heap.size, 0, none⟩) 0 0).ownBlock = some k) := Lib.hid (fun k h1 h2 => by have := (HO2.out.lt k h2).2; simp [Value.ownBlock] at h1; omega)
     have HO2 := Lib.hid (OwnB.keptF HO2.out ua (fun _ _ e => e))
     have HU := Lib.hid (HU.out.trans ua)
     refine HKK.out _ _ hA ?_
     clear HKK ua
     simp only [Act.put, List.setIfInBounds_toArray, List.set]
     generalize wd2.alloc (.cells #[] 5) = wd21 at HO1 hA HU HO2 ⊢
     refine wpG_do (i := 3) rfl (by kernel_rfl) rfl (fun K hK => ?_)
     have HKK := Lib.hid hK
     clear hK
     refine wp_appB2 (.tmp 18) (.tmp 20) rfl rfl HO1.out rfl (H5.out.kept HU.out) (by simp only [List.length_nil]; omega) HU.out.size ?_
     intro v1 wd21a g1 g2 g3
     obtain ⟨p1a, p1m, p1c, rfl⟩ := g1.bytesAt.1.slice'
     have hA := (g2.block _ (lt_of_heap hA) (fun e => own_apart HO1.out hA (by decide) _ e rfl)).trans hA
     have HNE2 : RowKit.Hid (∀ k, (Value.slice p1a p1m p1c).ownBlock = some k → ¬ (Value.slice (some ⟨wd.heap.size, 0, none⟩) 0 0).ownBlock = some k) := Lib.hid (fun k h1 h2 => by
      rcases g3 with g3 | g3
      ·exact HNE.out k (g3 ▸ h1) h2
      ·have := (HO2.out.lt k h2).2; rw [g3] at h1; injection h1; omega)
     have HO2 := Lib.hid (OwnB.keptF HO2.out g2 (fun k hk e => HNE.out k e hk))
     have HNE := HNE2
     clear HNE2
     have HU := Lib.hid (HU.out.step g2 (fun j hj e => by have := (HO1.out.lt j e).1; omega))
     have HO1 := Lib.hid g1
     refine HKK.out _ _ hA ?_
     clear HKK g1 g2 g3
     simp only [Act.put, List.setIfInBounds_toArray, List.set]
     refine wpG_tq 8 (.pointer (some ⟨b5, 3, none⟩)) [] rfl (by kernel_rfl) (fun _ _ _ h => h) hA rfl (fun w5 q1 => ?_) ?_
     ·go_simp
     simp only [Act.put, List.setIfInBounds_toArray, List.set]
     refine wpG_do (i := 7) rfl (by kernel_rfl) rfl (fun K hK => ?_)
     have HKK := Lib.hid hK
     clear hK
     refine wp_appB2 (.tmp 22) (.tmp 24) rfl rfl HO2.out rfl (H6.out.kept HU.out) (by simp only [List.length_nil]; omega) HU.out.size ?_
     intro v2 wd21aa g1 g2 g3
     obtain ⟨p2a, p2m, p2c, rfl⟩ := g1.bytesAt.1.slice'
     have hA := (g2.block _ (lt_of_heap hA) (fun e => own_apart HO2.out hA (by decide) _ e rfl)).trans hA
     have HNE2 : RowKit.Hid (∀ k, (Value.slice p1a p1m p1c).ownBlock = some k → ¬ (Value.slice p2a p2m p2c).ownBlock = some k) := Lib.hid (fun k h1 h2 => by
      rcases g3 with g3 | g3
      ·exact HNE.out k h1 (g3 ▸ h2)
      ·have := (HO1.out.lt k h1).2; rw [g3] at h2; injection h2; omega)
     have HO1 := Lib.hid (OwnB.keptF HO1.out g2 (fun k hk e => HNE.out k hk e))
     have HNE := HNE2
     clear HNE2
     have HU := Lib.hid (HU.out.step g2 (fun j hj e => by have := (HO2.out.lt j e).1; omega))
     have HO2 := Lib.hid g1
     refine HKK.out _ _ hA ?_
     clear HKK g1 g2 g3
     simp only [Act.put, List.setIfInBounds_toArray, List.set]
     refine wpG_tail_lit (k := 9) rfl rfl (by kernel_rfl) ?_
     simp only [List.drop]
     obtain ⟨x0, x1, x2, x3, x4⟩ := cells5_of hA
     have f3 : wd21aa.frozen? ⟨b5, 3, none⟩ = false := frozen_of_heap hA
     have f4 : wd21aa.frozen? ⟨b5, 4, none⟩ = false := frozen_of_heap hA
     have HX := Lib.hid hA
     clear hA
     go_wp2
     go_meet
     case rel =>
      obtain ⟨w9, hw9⟩ : ∃ w9, w9 = (wd21aa.setCell ⟨b5, 3, none⟩ (.slice p1a p1m p1c)).setCell ⟨b5, 4, none⟩ (.slice p2a p2m p2c) := ⟨_, rfl⟩
      rw [← hw9]
      have hu9 : Upd (fun k => k = b5) wd21aa w9 := by rw [hw9]; exact (upd_own wd21aa b5 3 _).trans (upd_own _ b5 4 _)
      have hx9 : w9.heap[b5]? = some (.cells #[.string x.name, .bool x.was, .bool x.is, .slice p1a p1m p1c, .slice p2a p2m p2c] 73 (0, 0)) := by
       rw [hw9]
       have := blk_set (i := 4) (v := .slice p2a p2m p2c) (blk_set (i := 3) (v := .slice p1a p1m p1c) HX.out)
       simpa using this
      exact ⟨rfl, p1a, p1m, p1c, p2a, p2m, p2c, hx9, OwnB.keptF HO1.out hu9 (fun k hk => own_apart HO1.out HX.out (by decide) k hk), OwnB.keptF HO2.out hu9 (fun k hk => own_apart HO2.out HX.out (by decide) k hk), HU.out.step hu9 (fun k hk e => by have := HB5.out; omega)⟩
   case rest =>
    obtain ⟨rfl, ua, um, uc, oa4, om4, oc4, hx15, hm1, hm2, hu⟩ := hcut
    simp only [List.nil_append] at hm1 hm2
    obtain ⟨m1, rc1, lb1⟩ := hm1.bytesAt
    obtain ⟨m2, rc2, lb2⟩ := hm2.bytesAt
    have M1 := Lib.hid m1; have RC1 := Lib.hid rc1; have LB1 := Lib.hid lb1
    have M2 := Lib.hid m2; have RC2 := Lib.hid rc2; have LB2 := Lib.hid lb2
    obtain ⟨ob, hob⟩ : ∃ ob, ob = w.heap.size + 2 := ⟨_, rfl⟩
    obtain ⟨C, la, lc, ho1, ho2, ho3, ho4⟩ := HD.out.out
    rw [HLL.out] at ho1 ho2
    rw [← hob] at ho1 ho2 ho4
    rw [← hob]
    have hobr : ob < wr.heap.size := lt_of_heap ho1
    have hob9 := (hu.block _ (lt_of_heap ho1) (fun e => e)).trans ho1
    have hrow9 := ho2.kept hu (fun k hk e => e) (fun k hk e => e)
    have hrc9 := ho3.kept hu (fun k hk e => e)
    obtain ⟨x0, x1, x2, x3, x4⟩ := cells5_of hx15
    have y2 := (cells3_of hob9).2.2
    have HOB := Lib.hid hob9; have HROW := Lib.hid hrow9; have HRC := Lib.hid hrc9; have HC4 := Lib.hid ho4
    have HU := Lib.hid hu; have HX := Lib.hid hx15; have HOBE := Lib.hid hob
    clear m1 m2 rc1 rc2 lb1 lb2 hm1 hm2 hx15 hu ho1 ho2 ho3 ho4 hob9 hrow9 hrc9 hob H5 H6
    iterate 14 go_step
    obtain ⟨L, hLm, hLo, hLb, hLf⟩ := HROW.out
    rw [HLL.out] at hLo
    have hLl := hLo.lt
    have hz9 : ob < wc.heap.size := lt_of_heap HOB.out
    have hel : elC (x, .slice ua um uc, .slice oa4 om4 oc4) = [.string x.name, .bool x.was, .bool x.is, .slice ua um uc, .slice oa4 om4 oc4] := rfl
    obtain ⟨i0, hi0, hz0, hz1, hz2⟩ := info_parts Tryz.info73p
    refine wpList_append_lies _ rfl (.tmp 29) (.tmp 31) 54 rfl (ob + 1) 73 i0 _ 5 72 Tryz.underlying54 hi0 hz0 hz1 hz2 rfl (by omega) (.slice la k lc) _ _ rfl (hLo.alloc _) ⟨wc.heap.size, 0, none⟩ 1 1 (elC (x, .slice ua um uc, .slice oa4 om4 oc4)) rfl
     rfl (World.news_of_block (cs := (elC (x, .slice ua um uc, .slice oa4 om4 oc4)).toArray) (t := 73) (fr := (0, 0)) (by rw [hel]; exact heap_alloc_new _ _)) (by rw [hel]; simp [Value.oneCell']) (by omega) (by unfold maxLen; omega) (by omega) (by simp; omega) (wc.heap.size + 1) (by simp) ?_
    intro g cap w16 hown hgrow hat hlt
    have hu16 : Upd (fun k' => (Value.slice la k lc).ownBlock = some k') wc w16 := ((Upd.refl _ wc).alloc _).trans (Upd.of_grown hgrow (fun k hk => hk))
    have hob10 := (hu16.block _ hz9 (fun e => by have := hLl ob e; omega)).trans HOB.out
    have hgob : ob < g := by
     rcases hat with e | e
     ·have := hLl g e; omega
     ·omega
    have y2 := (cells3_of hob10).2.2
    have g2 : w16.frozen? ⟨ob, 2, none⟩ = false := frozen_of_heap hob10
    have hcu := HROW.out.apart HRC.out
    have hcu1 := HROW.out.apart RC1.out
    have hcu2 := HROW.out.apart RC2.out
    obtain ⟨C', hC'⟩ : ∃ C' : Nat → Prop, C' = fun k => C k ∨ (Value.slice ua um uc).ownBlock = some k ∨ (Value.slice oa4 om4 oc4).ownBlock = some k := ⟨_, rfl⟩
    have hc1 : ∀ k, C k → C' k := fun k hk => by rw [hC']; exact .inl hk
    have hc2 : ∀ k, (Value.slice ua um uc).ownBlock = some k → C' k := fun k hk => by rw [hC']; exact .inr (.inl hk)
    have hc3 : ∀ k, (Value.slice oa4 om4 oc4).ownBlock = some k → C' k := fun k hk => by rw [hC']; exact .inr (.inr hk)
    have hrc : RowC wc C' := fun k hk => by
     rw [hC'] at hk
     rcases hk with hk | hk | hk
     ·exact HRC.out k hk
     ·exact RC1.out k hk
     ·exact RC2.out k hk
    have hcob : ∀ k, C' k → ob < k := fun k hk => by
     rw [hC'] at hk
     rcases hk with hk | hk | hk
     ·exact HC4.out k hk
     ·have := LB1.out k hk; omega
     ·have := LB2.out k hk; omega
    have hcu' := HROW.out.apart hrc
    have hnew : SetRow w16 (ob + 1) C' (.slice (some ⟨g, 0, none⟩) (k + 1) cap) (B.sets.take k ++ [x]) := by
     refine ⟨L ++ [(x, .slice ua um uc, .slice oa4 om4 oc4)], by rw [List.map_append, hLm]; rfl, ?_, fun y hy => ?_, fun y hy => ?_⟩
     ·rw [List.flatMap_append, List.length_append, HLL.out]
      simpa using hown
     ·rw [List.mem_append] at hy
      rcases hy with hy | hy
      ·exact ⟨((hLb y hy).1.kept hu16 hcu).mono hc1, ((hLb y hy).2.kept hu16 hcu).mono hc1⟩
      ·simp only [List.mem_singleton] at hy
       subst hy
       exact ⟨(M1.out.kept hu16 hcu1).mono hc2, (M2.out.kept hu16 hcu2).mono hc3⟩
     ·rw [List.mem_append] at hy
      rcases hy with hy | hy
      ·exact hLf y hy
      ·simp only [List.mem_singleton] at hy
       subst hy
       exact HXF.out
    have hrc16 : RowC w16 C' := hrc.kept hu16 hcu'
    have HNEW := Lib.hid hnew; have HOB10 := Lib.hid hob10; have HU16 := Lib.hid hu16; have HLLT := Lib.hid hLl; have HRC16 := Lib.hid hrc16; have HCOB := Lib.hid hcob
    clear hnew hob10 hu16 hcu hcu1 hcu2 hcu' hown hgrow hat hi0 hz0 hz1 hz2 hLm hLo hLb hLf hLl hel x0 x1 x2 x3 x4 hC' hc1 hc2 hc3 hrc hrc16 hcob
    have hcv2 : IntKind.i64.wrap ((k : Int) + 1) = (k : Int) + 1 := by rw [IntKind.wrap_i64]; omega
    go_wp2
    obtain ⟨w17, hw17⟩ : ∃ w17, w17 = w16.setCell ⟨ob, 2, none⟩ (.slice (some ⟨g, 0, none⟩) (k + 1) cap) := ⟨_, rfl⟩
    rw [← hw17]
    have hu17 : Upd (fun k => k = ob) w16 w17 := by rw [hw17]; exact upd_own w16 ob 2 _
    have hob17 : w17.heap[ob]? = some (.cells #[.int .u64 B.epoch, .bool B.large, .slice (some ⟨g, 0, none⟩) (k + 1) cap] 56 (0, 0)) := by
     rw [hw17]
     have := blk_set (i := 2) (v := .slice (some ⟨g, 0, none⟩) (k + 1) cap) HOB10.out
     simpa using this
    have hll1 : (B.sets.take (k + 1)).length = k + 1 := by rw [HNEXT.out]; simp [HLL.out]
    have n1 : ∀ j, j ≤ ob → ¬ (Value.slice la k lc).ownBlock = some j := fun j hj e => by have := HLLT.out j e; omega
    have hobw : w.heap.size < ob := by have := HOBE.out; omega
    have hdc : CpAt w B.epoch B.large (B.sets.take (k + 1)) w17 := by
     have hout : ∃ (C : Nat → Prop) (a : Option Addr) (c : Nat), w17.heap[ob]? = some (.cells #[.int .u64 B.epoch, .bool B.large, .slice a (B.sets.take (k + 1)).length c] 56 (0, 0)) ∧ SetRow w17 (ob + 1) C (.slice a (B.sets.take (k + 1)).length c) (B.sets.take (k + 1)) ∧ RowC w17 C ∧ ∀ k, C k → ob < k := by
      rw [hll1, HNEXT.out]
      exact ⟨C', _, _, hob17, HNEW.out.kept hu17 (fun j hj e => by simp [Value.ownBlock] at hj; omega) (fun j hj e => by have := HCOB.out j hj; omega), HRC16.out.kept hu17 (fun j hj e => by have := HCOB.out j hj; omega), HCOB.out⟩
     rw [HOBE.out] at hout
     refine ⟨hout, ?_, ?_⟩
     ·have r1 := (HU.out.block _ (lt_of_heap HD.out.res) (fun e => e)).trans HD.out.res
      have r2 := (HU16.out.block _ (lt_of_heap r1) (n1 _ (by have := HOBE.out; omega))).trans r1
      exact (hu17.block _ (lt_of_heap r2) (by have := HOBE.out; omega)).trans r2
     ·exact (((HD.out.upd.trans HU.out).step HU16.out (fun j hj => n1 j (by omega)))).step hu17 (fun j hj e => by omega)
    rw [HOBE.out]
    go_roundg (B.sets.length - (k + 1))
    case measure => omega
    case rel => exact ⟨k + 1, by omega, rfl, congrArg _ (by omega), hdc⟩
  ·obtain rfl : k = B.sets.length := by omega
   have hd := HD.out
   rw [List.take_length] at hd
   obtain ⟨⟨C, la, lc, ho1, ho2, ho3, ho4⟩, hr, hu⟩ := hd
   obtain ⟨y0, y1, y2⟩ := cells3_of ho1
   have hcap : B.sets.length ≤ lc := by
    obtain ⟨L, _, q, _⟩ := ho2
    rcases q.2 with ⟨e, _⟩ | ⟨g, cap, cur, e, _, _, m1, _⟩
    ·injection e with _ e; omega
    ·injection e with _ _ e; omega
   have HRES := Lib.hid hr; have HU := Lib.hid hu; have HROW := Lib.hid ho2; have HRC := Lib.hid ho3; have HC4 := Lib.hid ho4; have HCAP := Lib.hid hcap
   clear ho1 ho2 ho3 ho4 hr hu HD hcap
   go_upto_region 8 with fail
   iterate 4 go_step
   refine wpList_store_mid rfl 56 (.tmp 2) (.tmp 35) rfl (w.heap.size + 1) 0 #[.int .u64 B.epoch, .bool B.large, .slice la B.sets.length lc] rfl rfl (by have q := there_block HRES.out; exact q) size56 (by simp [Value.oneCell']) ?_
   have hb2 := heap_setCells_whole (vs := [.int .u64 B.epoch, .bool B.large, .slice la B.sets.length lc]) HRES.out rfl
   have hu2 := Upd.setCells (F := fun k => k = w.heap.size + 1) (b := w.heap.size + 1) rfl [.int .u64 B.epoch, .bool B.large, .slice la B.sets.length lc] 0 (Upd.refl _ wr)
   have hl3 := run_loadVar_mid (P := Tryz.prog) (wr.setCells (w.heap.size + 1) 0 [.int .u64 B.epoch, .bool B.large, .slice la B.sets.length lc]) (w.heap.size + 1) 0 56 [.int .u64 B.epoch, .bool B.large, .slice la B.sets.length lc] _ (rangeAt_block hb2) Tryz.underlying56 rfl size56
   have HL3 := Lib.hid hl3; have HU2 := Lib.hid hu2
   clear hb2 hu2 hl3
   go_wp2
   refine bodyPost_ret (results_cell1 Tryz.results20 rfl HL3.out) rfl ?_
   have hrow := HROW.out.kept HU2.out (fun j hj e => by
    obtain ⟨L, _, q, _⟩ := HROW.out
    have := (q.lt j hj).1
    omega) (fun j hj e => by have := HC4.out j hj; omega)
   have hcr := HRC.out.kept HU2.out (fun j hj e => by have := HC4.out j hj; omega)
   refine ⟨la, lc, rfl, ⟨C, hrow.low (by omega), hcr, fun j hj => by have := HC4.out j hj; omega⟩, HCAP.out, HU.out.step HU2.out (fun j hj e => by omega)⟩
end Go.Proofs.YtbimkhdiplnbfaaGreat
end

section
namespace Go.Proofs.YtbimkhdiplnbfaaGreat
set_option maxRecDepth 100000
open Go.RowKit Go.Shelf

end Go.Proofs.YtbimkhdiplnbfaaGreat
end

section
namespace Go.Proofs.YtbimkhdiplnbfaaGreat
set_option maxRecDepth 100000
open Go.RowKit Go.Shelf

theorem flat_put (L : List (SetV × Value × Value)) (i : Nat) (x : SetV) (y : SetV × Value × Value) (v u : Value) (hi : L[i]? = some y) (hw : x.was = y.1.was) (his : x.is = y.1.is) :
  (((L.flatMap elC).set (i * 5) (.string x.name)).set (i * 5 + 3) v).set (i * 5 + 4) u = (L.set i (x, v, u)).flatMap elC := by
 have hil := (List.getElem?_eq_some_iff.1 hi).1
 apply List.ext_getElem?
 intro p
 by_cases hp : p < 5 * L.length
 ·obtain ⟨j, t, ht, hj, rfl⟩ : ∃ j t, t < 5 ∧ j < L.length ∧ p = j * 5 + t := ⟨p / 5, p % 5, by omega, by omega, by omega⟩
  by_cases hji : j = i
  ·subst hji
   rw [flat_at (L.set j (x, v, u)) j t (x, v, u) (by simp [hil]) ht]
   have h2 := flat_at L j t y hi ht
   have hlen : j * 5 + 4 < (L.flatMap elC).length := by rw [flat_length]; omega
   match t, ht with
   | 0, _ => rw [List.getElem?_set_ne (by omega), List.getElem?_set_ne (by omega), Nat.add_zero, List.getElem?_set_self (by omega)]; rfl
   | 1, _ => rw [List.getElem?_set_ne (by omega), List.getElem?_set_ne (by omega), List.getElem?_set_ne (by omega), h2]; simp [elC, hw]
   | 2, _ => rw [List.getElem?_set_ne (by omega), List.getElem?_set_ne (by omega), List.getElem?_set_ne (by omega), h2]; simp [elC, his]
   | 3, _ => rw [List.getElem?_set_ne (by omega), List.getElem?_set_self (by simp only [List.length_set]; omega)]; rfl
   | 4, _ => rw [List.getElem?_set_self (by simp only [List.length_set]; omega)]; rfl
  ·rw [List.getElem?_set_ne (by omega), List.getElem?_set_ne (by omega), List.getElem?_set_ne (by omega)]
   rw [flat_at L j t L[j] (List.getElem?_eq_getElem hj) ht, flat_at (L.set i (x, v, u)) j t L[j] (by rw [List.getElem?_set_ne (Ne.symm hji)]; exact List.getElem?_eq_getElem hj) ht]
 ·rw [List.getElem?_eq_none (by simp only [List.length_set, flat_length]; omega), List.getElem?_eq_none (by rw [flat_length, List.length_set]; omega)]

theorem SetRow.put {w : World} {g cap B : Nat} {C : Nat → Prop} {l : List SetV} {i : Nat} {x x' : SetV} {v u : Value} (h : SetRow w B C (.slice (some ⟨g, 0, none⟩) l.length cap) l) (hr : RowC w C) (hi : l[i]? = some x) (hw : x'.was = x.was) (his : x'.is = x.is) (hv : BytesAt w C v x'.old) (hu : BytesAt w C u x'.new) (hf : x'.fine) :
  SetRow (((w.setCell ⟨g, i * 5, none⟩ (.string x'.name)).setCell ⟨g, i * 5 + 3, none⟩ v).setCell ⟨g, i * 5 + 4, none⟩ u) B C (.slice (some ⟨g, 0, none⟩) l.length cap) (l.set i x') ∧ Upd (fun k => k = g) w (((w.setCell ⟨g, i * 5, none⟩ (.string x'.name)).setCell ⟨g, i * 5 + 3, none⟩ v).setCell ⟨g, i * 5 + 4, none⟩ u) := by
 have hap : ∀ k, C k → ¬ k = g := fun k hk e => h.apart hr k hk (by rw [e]; rfl)
 have hupd : Upd (fun k => k = g) w (((w.setCell ⟨g, i * 5, none⟩ (.string x'.name)).setCell ⟨g, i * 5 + 3, none⟩ v).setCell ⟨g, i * 5 + 4, none⟩ u) := ((upd_own w g _ _).trans (upd_own _ g _ _)).trans (upd_own _ g _ _)
 obtain ⟨L, rfl, h1, h2, h3⟩ := h
 simp only [List.getElem?_map, Option.map_eq_some_iff] at hi
 obtain ⟨y, hy, rfl⟩ := hi
 refine ⟨⟨L.set i (x', v, u), by rw [List.map_set], ?_, fun z hz => ?_, fun z hz => ?_⟩, hupd⟩
 ·have := (((h1.stored (i * 5) (.string x'.name)).1.stored (i * 5 + 3) v).1.stored (i * 5 + 4) u).1
  rw [flat_put L i x' y v u hy hw his] at this
  rw [List.length_set]
  exact this
 ·rcases List.mem_or_eq_of_mem_set hz with hz | rfl
  ·exact ⟨(h2 z hz).1.kept hupd hap, (h2 z hz).2.kept hupd hap⟩
  ·exact ⟨hv.kept hupd hap, hu.kept hupd hap⟩
 ·rcases List.mem_or_eq_of_mem_set hz with hz | rfl
  ·exact h3 z hz
  ·exact hf

theorem BytesAt.head {w : World} {C : Nat → Prop} {v : Value} {bs : List Int} (h : BytesAt w C v bs) {n : Nat} (hn : n ≤ bs.length) :
  ∃ u, (∀ W, (Instr.slice 39 v none (some (.int .i64 n)) none).run Tryz.prog W = .ok u W) ∧ BytesAt w C u (bs.take n) := by
 have hl : (bs.take n).length = n := by simp; omega
 rcases h with ⟨rfl, rfl⟩ | ⟨g, o, c, hg, rfl, h2, h3, h4⟩
 ·obtain rfl : n = 0 := by simpa using hn
  refine ⟨.slice none 0 0, fun W => ?_, .inl ⟨rfl, rfl⟩⟩
  have := run_slice_h W 39 none 0 0 elem39 .i64 0 (by omega) (by omega)
  rw [show ((0 : Nat) : Int) = 0 from rfl, this, size39e]
  rfl
 ·refine ⟨.slice (some ⟨g, o, none⟩) n c, fun W => ?_, .inr ⟨g, o, c, hg, by rw [hl], by rw [hl]; omega, h3, fun i u hi => ?_⟩⟩
  ·rw [run_slice_h W 39 _ bs.length c elem39 .i64 n (by omega) (by omega), size39e]
   simp [Result.andThen, sliced, Addr.add_zero']
  ·have hi2 := (List.getElem?_eq_some_iff.1 hi).1
   simp only [bcells, List.length_map, hl] at hi2
   refine h4 i u ?_
   simp only [bcells, List.getElem?_map, List.getElem?_take_of_lt hi2] at hi ⊢
   exact hi

def clipV (x : SetV) : SetV := ⟨x.name.extract 0 (min x.name.size 40), x.was, x.is, x.old.take 3001, x.new.take 3001⟩
end Go.Proofs.YtbimkhdiplnbfaaGreat
end

