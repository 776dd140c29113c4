/- Walks of the reference: Arrive. -/
import Derived.Test.YtbimkhdiplnbfaaU3
import Derived.Test.YtbimkhdiplnbfaaU5
import Derived.Test.YtbimkhdiplnbfaaU15
import Derived.Test.YtbimkhdiplnbfaaU18
import Derived.Test.YtbimkhdiplnbfaaU19

section
namespace Go.Proofs.Ytbimkhdiplnbfaa
open Go.RowKit Go.Deep

/-- The blocks when k sectors are done. -/
def arrPart (kp : Nat → Bool) (R : List (Nat × List Int × Int)) (arr : List (List Int)) (k : Nat) : List (List Int) :=
  (List.range arr.length).map fun i => if i < k then arriveL kp i R 0 (arr.getD i []) false else arr.getD i []

theorem arrPart_length (kp : Nat → Bool) (R : List (Nat × List Int × Int)) (arr : List (List Int)) (k : Nat) : (arrPart kp R arr k).length = arr.length := by simp [arrPart]

theorem arrPart_zero (kp : Nat → Bool) (R : List (Nat × List Int × Int)) (arr : List (List Int)) : arrPart kp R arr 0 = arr := by
  unfold arrPart
  apply List.ext_getElem?
  intro i
  by_cases hi : i < arr.length <;> simp [hi, List.getD_eq_getElem?_getD]

theorem arrPart_all (kp : Nat → Bool) (R : List (Nat × List Int × Int)) (arr : List (List Int)) : arrPart kp R arr arr.length = (List.range arr.length).map fun i => arriveL kp i R 0 (arr.getD i []) false := by
  unfold arrPart
  refine List.map_congr_left (fun i hi => ?_)
  rw [if_pos (by simpa using hi)]

theorem arrPart_at (kp : Nat → Bool) (R : List (Nat × List Int × Int)) (arr : List (List Int)) (k : Nat) (hk : k < arr.length) : (arrPart kp R arr k).set k (arr.getD k []) = arrPart kp R arr k := by
  apply List.ext_getElem?
  intro i
  rw [List.getElem?_set]
  by_cases hi : i < arr.length
  · by_cases hik : k = i
    · subst hik; simp [arrPart, hi]
    · simp [hik]
  · have hki : k ≠ i := by omega
    simp [hki]

theorem arrPart_succ (kp : Nat → Bool) (R : List (Nat × List Int × Int)) (arr : List (List Int)) (k : Nat) (b : List Int) (hb : arriveL kp k R 0 (arr.getD k []) false = b) : (arrPart kp R arr k).set k b = arrPart kp R arr (k + 1) := by
  apply List.ext_getElem?
  intro i
  rw [List.getElem?_set]
  by_cases hi : i < arr.length
  · by_cases hik : k = i
    · subst hik; rw [← hb]; simp [arrPart, hi]
    · have e : (i < k) = (i < k + 1) := by rw [eq_iff_iff]; omega
      simp [arrPart, hi, hik, e]
  · simp [arrPart, hi]; omega

theorem arriveL_blk (kp : Nat → Bool) (i : Nat) : ∀ (R : List (Nat × List Int × Int)) (k : Nat) (b : List Int) (lost : Bool), b.length = 64 → (∀ x ∈ R, x.2.1.length = 64) → (arriveL kp i R k b lost).length = 64
  | [], _, _, _, hb, _ => hb
  | x :: R, k, b, lost, hb, hl => by
    unfold arriveL
    have hx := hl x List.mem_cons_self
    have hR := fun y hy => hl y (List.mem_cons_of_mem _ hy)
    split
    · refine arriveL_blk kp i R _ _ _ ?_ hR
      split
      · exact hb
      · exact hx
    · exact arriveL_blk kp i R _ _ _ hb hR

theorem arrPart_blk (kp : Nat → Bool) (R : List (Nat × List Int × Int)) (arr : List (List Int)) (k : Nat) (hl : ∀ x ∈ R, x.2.1.length = 64) (hal : ∀ b ∈ arr, b.length = 64) : ∀ b ∈ arrPart kp R arr k, b.length = 64 := by
  intro b hb
  unfold arrPart at hb
  obtain ⟨i, hi, rfl⟩ := List.mem_map.1 hb
  have h0 : (arr.getD i []).length = 64 := hal _ (by simp at hi; simp [List.getD_eq_getElem?_getD, hi])
  split
  · exact arriveL_blk kp i R 0 _ _ h0 hl
  · exact h0

end Go.Proofs.Ytbimkhdiplnbfaa
end

section
namespace Go.Proofs.Ytbimkhdiplnbfaa
open Go.RowKit Go.Deep

theorem ArrS.there {w : World} {g Ac : Nat} {arr : List (List Int)} (h : ArrS w (some ⟨g, 0, none⟩) Ac arr) {i : Nat} (hi : i < arr.length) : w.there g (i * 64) 64 := by
  intro j hj
  unfold ArrS at h
  refine ⟨?_, World.ownsRow.frozenAt h _⟩
  have hlt : i * 64 + j < (arr.flatMap bcells).length := by
    rw [h.1]
    have := Nat.mul_le_mul_right 64 (show i + 1 ≤ arr.length by omega)
    omega
  have := World.ownsRow.cells h rfl (i * 64 + j) _ (List.getElem?_eq_getElem hlt)
  rw [Addr.add_mid, Nat.zero_add] at this
  rw [this]
  rfl

theorem arrive_fin {w wo : World} {ts : Array Value} {N g c : Nat} {arr' : List (List Int)} {o ar fl : Int} {dd : Bool} (hN : arr'.length = N) (h3 : ArrS wo (some ⟨g, 0, none⟩) c arr')
    (rs : wo.heap[w.heap.size + 1]? = some (.cells #[.slice none 0 0, .slice none 0 0, .int .i64 0, .int .i64 0, .int .i64 0, .bool false] 69 (0, 0))) (hu : Upd (fun _ => False) w wo) (hg : w.heap.size + 2 ≤ g) (ht : ts.getD 6 undef = .pointer (some ⟨w.heap.size + 1, 0, none⟩)) :
    bodyPost Try.prog Try.f95 (fun e w' => ∃ g c, w.heap.size ≤ g ∧ e = .returned (.agg #[.slice (some ⟨g, 0, none⟩) N c, .slice none 0 0, .int .i64 o, .int .i64 ar, .int .i64 fl, .bool dd]) ∧ ArrS w' (some ⟨g, 0, none⟩) c arr' ∧ Upd (fun _ => False) w w') .ret { tmps := ts, defers := [] }
      ((((((((wo.setCell ⟨w.heap.size, 0, none⟩ (.slice (some ⟨g, 0, none⟩) N c)).setCell ⟨w.heap.size, 1, none⟩ (.slice none 0 0)).setCell ⟨w.heap.size + 1, 0, none⟩ (.slice (some ⟨g, 0, none⟩) N c)).setCell ⟨w.heap.size + 1, 1, none⟩ (.slice none 0 0)).setCell ⟨w.heap.size + 1, 2, none⟩ (.int .i64 o)).setCell ⟨w.heap.size + 1, 3, none⟩ (.int .i64 ar)).setCell ⟨w.heap.size + 1, 4, none⟩ (.int .i64 fl)).setCell ⟨w.heap.size + 1, 5, none⟩ (.bool dd)) := by
  subst hN
  have r0 : ((wo.setCell ⟨w.heap.size, 0, none⟩ (.slice (some ⟨g, 0, none⟩) arr'.length c)).setCell ⟨w.heap.size, 1, none⟩ (.slice none 0 0)).heap[w.heap.size + 1]? = _ := (set_ne (by show w.heap.size + 1 ≠ w.heap.size; omega)).trans ((set_ne (by show w.heap.size + 1 ≠ w.heap.size; omega)).trans rs)
  have r6 := blk_set (i := 5) (v := .bool dd) (blk_set (i := 4) (v := .int .i64 fl) (blk_set (i := 3) (v := .int .i64 ar) (blk_set (i := 2) (v := .int .i64 o) (blk_set (i := 1) (v := .slice none 0 0) (blk_set (i := 0) (v := .slice (some ⟨g, 0, none⟩) arr'.length c) r0)))))
  simp at r6
  have hup : Upd (fun k => k = w.heap.size ∨ k = w.heap.size + 1) wo ((((((((wo.setCell ⟨w.heap.size, 0, none⟩ (.slice (some ⟨g, 0, none⟩) arr'.length c)).setCell ⟨w.heap.size, 1, none⟩ (.slice none 0 0)).setCell ⟨w.heap.size + 1, 0, none⟩ (.slice (some ⟨g, 0, none⟩) arr'.length c)).setCell ⟨w.heap.size + 1, 1, none⟩ (.slice none 0 0)).setCell ⟨w.heap.size + 1, 2, none⟩ (.int .i64 o)).setCell ⟨w.heap.size + 1, 3, none⟩ (.int .i64 ar)).setCell ⟨w.heap.size + 1, 4, none⟩ (.int .i64 fl)).setCell ⟨w.heap.size + 1, 5, none⟩ (.bool dd)) :=
    ((((((((Upd.refl _ wo).setCell (p := ⟨w.heap.size, 0, none⟩) (.inl (.inl rfl)) _).setCell (p := ⟨w.heap.size, 1, none⟩) (.inl (.inl rfl)) _).setCell (p := ⟨w.heap.size + 1, 0, none⟩) (.inl (.inr rfl)) _).setCell (p := ⟨w.heap.size + 1, 1, none⟩) (.inl (.inr rfl)) _).setCell (p := ⟨w.heap.size + 1, 2, none⟩) (.inl (.inr rfl)) _).setCell (p := ⟨w.heap.size + 1, 3, none⟩) (.inl (.inr rfl)) _).setCell (p := ⟨w.heap.size + 1, 4, none⟩) (.inl (.inr rfl)) _).setCell (p := ⟨w.heap.size + 1, 5, none⟩) (.inl (.inr rfl)) _
  generalize ((((((((wo.setCell ⟨w.heap.size, 0, none⟩ (.slice (some ⟨g, 0, none⟩) arr'.length c)).setCell ⟨w.heap.size, 1, none⟩ (.slice none 0 0)).setCell ⟨w.heap.size + 1, 0, none⟩ (.slice (some ⟨g, 0, none⟩) arr'.length c)).setCell ⟨w.heap.size + 1, 1, none⟩ (.slice none 0 0)).setCell ⟨w.heap.size + 1, 2, none⟩ (.int .i64 o)).setCell ⟨w.heap.size + 1, 3, none⟩ (.int .i64 ar)).setCell ⟨w.heap.size + 1, 4, none⟩ (.int .i64 fl)).setCell ⟨w.heap.size + 1, 5, none⟩ (.bool dd)) = wf at *
  have hl3 := run_loadVar_mid (P := Try.prog) wf (w.heap.size + 1) 0 69 [.slice (some ⟨g, 0, none⟩) arr'.length c, .slice none 0 0, .int .i64 o, .int .i64 ar, .int .i64 fl, .bool dd] _ (rangeAt_block r6) Try.underlying69 rfl (by kernel_rfl)
  refine bodyPost_ret (results_cell1 Try.results95 ht hl3) rfl ⟨g, c, by omega, rfl, ?_, hu.step hup (fun k hk e => by omega)⟩
  exact ownsRow_any h3 hup (fun k hk e => by simp [Value.ownBlock] at hk; omega)

/-- Whether a block is lost. -/
theorem lost_step (kp : Nat → Bool) (k : Nat) (x : Nat × List Int × Int) (R : List (Nat × List Int × Int)) (q : Nat) (b : List Int) (lost : Bool) (F : List Int) (h : arriveL kp k (x :: R) q b lost = F) :
    (x.1 ≠ k → arriveL kp k R (q + 1) b lost = F) ∧ (x.1 = k → (lost || !kp q) = true → arriveL kp k R (q + 1) b true = F) ∧ (x.1 = k → (lost || !kp q) = false → arriveL kp k R (q + 1) x.2.1 false = F) := by
  unfold arriveL at h
  refine ⟨fun e => by rwa [if_neg e] at h, fun e g => by rw [if_pos e, g, if_pos rfl] at h; exact h, fun e g => by rw [if_pos e, g, if_neg (by simp)] at h; exact h⟩

set_option maxRecDepth 100000 in
set_option maxHeartbeats 4000000 in
theorem refArrive_run (Aa Ra : Option Addr) (Ac Rc : Nat) (arr : List (List Int)) (R : List (Nat × List Int × Int)) (o ar fl : Int) (dd all : Bool) (ka : Option Addr) (kc : Nat) (keep : List Bool) (w : World) (hA : ArrS w Aa Ac arr) (hR : RowR w Ra Rc R) (hl : ∀ x ∈ R, x.2.1.length = 64) (hal : ∀ b ∈ arr, b.length = 64) (hRl : R.length ≤ 1000000) (hAl : 1 ≤ arr.length ∧ arr.length ≤ 2048) (hk : BoolsAt w ka keep) (_hkl : keep.length ≤ 1000) (kp : Nat → Bool) (hkp : kp = if all then fun _ => true else fun k => keep.getD k false) :
    Calls Try.prog 95 #[.agg #[.slice Aa arr.length Ac, .slice Ra R.length Rc, .int .i64 o, .int .i64 ar, .int .i64 fl, .bool dd], .bool all, .slice ka keep.length kc] w fun e w' =>
      ∃ g c, w.heap.size ≤ g ∧ e = .returned (.agg #[.slice (some ⟨g, 0, none⟩) arr.length c, .slice none 0 0, .int .i64 o, .int .i64 ar, .int .i64 fl, .bool dd]) ∧
        ArrS w' (some ⟨g, 0, none⟩) c ((List.range arr.length).map fun i => arriveL kp i R 0 (arr.getD i []) false) ∧ Upd (fun _ => False) w w' := by
  have HA := Lib.hid hA; have HR := Lib.hid hR; have HL := Lib.hid hl; have HAL := Lib.hid hal; have HK := Lib.hid hk; have HKP := Lib.hid hkp
  clear hA hR hl hal hk hkp
  go_enter Try.func95, Try.ntmps95
  go_upto_region 1 with fail
  iterate 10 go_step
  obtain ⟨i0, hi0, hz0, hz1, hz2⟩ := info_parts Try.info56all
  have hownA := HA.out
  unfold ArrS at hownA
  obtain ⟨ga, hga, hcells, hmA⟩ : ∃ ga, Aa = some ⟨ga, 0, none⟩ ∧ (∀ j u, (arr.flatMap bcells)[j]? = some u → w.cell? ⟨ga, j, none⟩ = some u) ∧ arr.length ≤ maxLen := by
    rcases hownA.2 with ⟨e, h0⟩ | ⟨g, cap, cur, e, _⟩
    · omega
    · simp only [Value.slice.injEq, true_and] at e
      obtain ⟨rfl, rfl⟩ := e
      refine ⟨g, rfl, fun j u hj => ?_, by unfold maxLen; omega⟩
      have := World.ownsRow.cells hownA rfl j u hj
      rwa [Addr.add_mid, Nat.zero_add] at this
  subst hga
  have huw : Upd (fun _ => False) w (((w.alloc (.cells #[.slice (some ⟨ga, 0, none⟩) arr.length Ac, .slice Ra R.length Rc, .int .i64 o, .int .i64 ar, .int .i64 fl, .bool dd] 69)).alloc (.cells #[.slice none 0 0, .slice none 0 0, .int .i64 0, .int .i64 0, .int .i64 0, .bool false] 69)).alloc (.cells #[] 56)) := (((Upd.refl _ w).alloc _).alloc _).alloc _
  have hown0 : (((w.alloc (.cells #[.slice (some ⟨ga, 0, none⟩) arr.length Ac, .slice Ra R.length Rc, .int .i64 o, .int .i64 ar, .int .i64 fl, .bool dd] 69)).alloc (.cells #[.slice none 0 0, .slice none 0 0, .int .i64 0, .int .i64 0, .int .i64 0, .bool false] 69)).alloc (.cells #[] 56)).ownsRow (w.heap.size + 2) 56 64 (.slice (some ⟨w.heap.size + 1 + 1, 0, none⟩) 0 0) 0 [] :=
    ⟨by simp, .inr ⟨w.heap.size + 1 + 1, 0, #[], rfl, by omega, alloc_at (by simp), Nat.le_refl _, Nat.zero_le _, rfl, rfl⟩⟩
  refine wpList_append_own _ rfl (.tmp 12) (.tmp 14) 66 rfl (w.heap.size + 2) 56 i0 (.agg (bcells zblk).toArray) 64 64 Try.underlying66 hi0 hz0 hz1 hz2 (by simp [Value.cells, bcells, zblk]) (by omega) _ 0 [] rfl hown0 ⟨ga, 0, none⟩ arr.length Ac (arr.flatMap bcells) rfl (by rw [flat_length bcells 64 arr (fun y hy => by rw [bcells_length]; exact HAL.out y hy)]) (by
    intro j u hj
    rw [Addr.add_mid, Nat.zero_add]
    exact cell_kept huw (hcells j u hj)) (by
      intro u hu
      obtain ⟨y, _, hy⟩ := List.mem_flatMap.1 hu
      exact bcells_one y u hy) (by unfold maxLen; omega) (by omega) (by simp) ?_
  intro v' w1 hown hgrow hnil
  obtain ⟨g, c, rfl⟩ : ∃ g c, v' = .slice (some ⟨g, 0, none⟩) arr.length c := by
    rcases hown.2 with ⟨e, he⟩ | ⟨g, c, cur, e, _⟩
    · omega
    · exact ⟨g, c, by simpa using e⟩
  have hg0 := (World.ownsRow.lt hown g rfl).1
  have hu1 : Upd (fun _ => False) w w1 := (huw.step (Upd.of_grown (F := fun k => w.heap.size + 2 ≤ k) hgrow (fun k hk => (World.ownsRow.lt hown0 k hk).1)) (fun k hk e => by omega))
  have hbox : w1.heap[w.heap.size]? = some (.cells #[.slice (some ⟨ga, 0, none⟩) arr.length Ac, .slice Ra R.length Rc, .int .i64 o, .int .i64 ar, .int .i64 fl, .bool dd] 69 (0, 0)) :=
    (hgrow.block _ (by simp; omega) (fun e => by have h2 : w.heap.size = w.heap.size + 1 + 1 := Option.some.inj e; omega)).trans (((alloc_lt (by simp; omega)).trans (alloc_lt (by simp))).trans (alloc_at rfl))
  have hres : w1.heap[w.heap.size + 1]? = some (.cells #[.slice none 0 0, .slice none 0 0, .int .i64 0, .int .i64 0, .int .i64 0, .bool false] 69 (0, 0)) :=
    (hgrow.block _ (by simp) (fun e => by have h2 : w.heap.size + 1 = w.heap.size + 1 + 1 := Option.some.inj e; omega)).trans ((alloc_lt (by simp)).trans (alloc_at (by simp)))
  have hO : ArrS w1 (some ⟨g, 0, none⟩) c arr := by
    unfold ArrS
    have := hown
    rw [Nat.zero_add, List.nil_append] at this
    obtain ⟨a1, a2⟩ := this
    refine ⟨a1, ?_⟩
    rcases a2 with ⟨e, _⟩ | ⟨g', c', cur, e, _, r⟩
    · cases e
    · exact .inr ⟨g', c', cur, e, Nat.zero_le _, r⟩
  have HO := Lib.hid hO; have HU := Lib.hid hu1; have HB := Lib.hid hbox; have HRS := Lib.hid hres
  clear hown hgrow hnil hi0 hz0 hz1 hz2 hown0 hownA hcells hmA huw hO hu1 hbox hres HA
  have hg2 : w.heap.size + 2 ≤ g := hg0
  clear hg0
  go_wp2
  go_loopg [18] arr.length (fun gk x wr => ∃ k : Nat, k ≤ arr.length ∧ gk = arr.length - k ∧ x = .int .i64 k ∧ ArrS wr (some ⟨g, 0, none⟩) c (arrPart kp R arr k) ∧
    wr.heap[w.heap.size]? = some (.cells #[.slice (some ⟨ga, 0, none⟩) arr.length Ac, .slice Ra R.length Rc, .int .i64 o, .int .i64 ar, .int .i64 fl, .bool dd] 69 (0, 0)) ∧
    wr.heap[w.heap.size + 1]? = some (.cells #[.slice none 0 0, .slice none 0 0, .int .i64 0, .int .i64 0, .int .i64 0, .bool false] 69 (0, 0)) ∧ Upd (fun _ => False) w wr)
  case atStart => exact ⟨0, Nat.zero_le _, rfl, rfl, by rw [arrPart_zero]; exact HO.out, HB.out, HRS.out, HU.out⟩
  case round =>
    clear HO HB HRS HU
    obtain ⟨k, hkn, rfl, rfl, hO, hB, hS, hU⟩ := hrel
    have HO := Lib.hid hO; have HB := Lib.hid hB; have HS := Lib.hid hS; have HU := Lib.hid hU
    have q1 : wr.cell? ⟨w.heap.size, 1, none⟩ = some (.slice Ra R.length Rc) := by rw [cell_of_heap hB]; rfl
    clear hO hB hS hU
    obtain ⟨wo, rfl⟩ : ∃ wo, wo = wr := ⟨_, rfl⟩
    by_cases hk : k < arr.length
    · have hki : (k : Int) < arr.length := by omega
      go_wp2
      go_loopg [9, 24] R.length (fun gi l y wi => ∃ q : Nat, q ≤ R.length ∧ gi = R.length - q ∧ y = .int .i64 q ∧ ∃ (lost : Bool) (b : List Int), l = .bool lost ∧ b.length = 64 ∧ arriveL kp k (R.drop q) q b lost = arriveL kp k R 0 (arr.getD k []) false ∧ ArrS wi (some ⟨g, 0, none⟩) c ((arrPart kp R arr k).set k b) ∧
        wi.heap[w.heap.size]? = some (.cells #[.slice (some ⟨ga, 0, none⟩) arr.length Ac, .slice Ra R.length Rc, .int .i64 o, .int .i64 ar, .int .i64 fl, .bool dd] 69 (0, 0)) ∧
        wi.heap[w.heap.size + 1]? = some (.cells #[.slice none 0 0, .slice none 0 0, .int .i64 0, .int .i64 0, .int .i64 0, .bool false] 69 (0, 0)) ∧ Upd (fun _ => False) w wi)
      case atStart => exact ⟨0, Nat.zero_le _, rfl, rfl, false, arr.getD k [], rfl, HAL.out _ (by simp [List.getD_eq_getElem?_getD, hk]), by rw [List.drop_zero], by rw [arrPart_at kp R arr k hk]; exact HO.out, HB.out, HS.out, HU.out⟩
      case round =>
        clear HO HB HS HU q1
        obtain ⟨q, hq, rfl, rfl, lost, b, rfl, hbl, hF, hO, hB, hS, hU⟩ := hrel
        have HO := Lib.hid hO; have HB := Lib.hid hB; have HS := Lib.hid hS; have HU := Lib.hid hU; have HF := Lib.hid hF; have HBL := Lib.hid hbl
        clear hO hB hS hU hF hbl
        obtain ⟨wp, rfl⟩ : ∃ wp, wp = wr := ⟨_, rfl⟩
        by_cases hqn : q < R.length
        · have hqi : (q : Int) < R.length := by omega
          obtain ⟨x, hx⟩ : ∃ x, R[q]? = some x := ⟨R[q], by simp [hqn]⟩
          obtain ⟨gr, rfl, hrg⟩ := (HR.out.kept HU.out).at HL.out hx
          have hxb := HL.out x (List.mem_of_getElem? hx)
          have hxl := sentC_length hxb
          have hdr : R.drop q = x :: R.drop (q + 1) := by
            obtain ⟨h1, h2⟩ := List.getElem?_eq_some_iff.1 hx
            rw [← h2]; exact (List.drop_eq_getElem_cons h1)
          have hF2 := HF.out
          rw [hdr] at hF2
          have HST := Lib.hid (lost_step kp k x (R.drop (q + 1)) q b lost _ hF2)
          have HX := Lib.hid hx; have HRG := Lib.hid hrg; have HXL := Lib.hid hxl; have HXB := Lib.hid hxb
          have hi1 : (Try.prog.info? 150).map (·.size) = some (sentC x).length := by rw [Try.size150, hxl]
          have hi3 : (Try.prog.info? 56).map (·.size) = some (bcells x.2.1).length := by rw [Try.info56p, bcells_length, hxb]
          have HI := Lib.hid hi1; have HI3 := Lib.hid hi3
          clear hx hrg hxl hi1 hi3 hxb hdr hF2 HF
          go_upto_region 8 with fail
          iterate 7 go_step
          refine wpList_load_mid rfl 150 (.tmp 27) rfl gr (q * 65) rfl (sentC x) _ HRG.out Try.underlying150 rfl HI.out ?_
          iterate 6 go_step
          have hblk : (wp.alloc (.cells Try.zeroCells150 150)).heap[wp.heap.size]? = some (.cells Try.zeroCells150 150 (0, 0)) := alloc_at rfl
          have hth : (wp.alloc (.cells Try.zeroCells150 150)).there wp.heap.size 0 (sentC x).toArray.size := by
            have := there_block hblk
            rwa [show Try.zeroCells150.size = (sentC x).toArray.size by rw [Try.zsize150]; simp [HXL.out]] at this
          refine wpList_store_mid rfl 150 (.tmp 11) (.tmp 28) rfl wp.heap.size 0 (sentC x).toArray rfl rfl hth (by rw [HI.out]; simp) (all_oneCell_toArray (sentC_one x)) ?_
          have hb2 := heap_setCells_whole (vs := sentC x) hblk (by rw [Try.zsize150, HXL.out])
          have hu2 : Upd (fun _ => False) wp ((wp.alloc (.cells Try.zeroCells150 150)).setCells wp.heap.size 0 (sentC x)) := by
            have := Upd.setCells (F := fun j => wp.heap.size ≤ j) (b := wp.heap.size) (Nat.le_refl _) (sentC x) 0 ((Upd.refl _ wp).alloc (.cells Try.zeroCells150 150))
            exact this.mono (fun j hj e => by omega)
          refine (?_ : wpList _ _ _ _ _ ((wp.alloc (.cells Try.zeroCells150 150)).setCells wp.heap.size 0 (sentC x)))
          clear hblk hth
          obtain ⟨bx, hbx⟩ : ∃ bx, bx = wp.heap.size := ⟨_, rfl⟩
          generalize (wp.alloc (.cells Try.zeroCells150 150)).setCells wp.heap.size 0 (sentC x) = w4 at *
          rw [← hbx] at hb2 ⊢
          have c0 : w4.cell? ⟨bx, 0, none⟩ = some (.int .i64 x.1) := by rw [cell_of_heap hb2]; simp [sentC]
          have hrg2 : w4.rangeAt bx 1 (bcells x.2.1) := by
            intro t v hv
            rw [cell_of_heap hb2]
            have e : (sentC x).toArray[1 + t]? = (bcells x.2.1)[t]? := by rw [Nat.add_comm]; simp [sentC]
            rw [e]; exact hv
          have HRG2 := Lib.hid hrg2
          have HO2 := Lib.hid (HO.out.kept hu2)
          have HB2 := Lib.hid ((hu2.block _ (lt_of_heap HB.out) (fun e => e)).trans HB.out)
          have HS2 := Lib.hid ((hu2.block _ (lt_of_heap HS.out) (fun e => e)).trans HS.out)
          have HU2 := Lib.hid (HU.out.trans hu2)
          have HK2 := Lib.hid (HK.out.kept HU2.out (fun _ _ e => e))
          have hbxg : bx ≠ g := by have := World.ownsRow.lt HO.out g rfl; omega
          clear hb2 hu2 hbx hrg2 HO HB HS HU HRG HI HXL
          by_cases hxk : x.1 = k
          · have hxki : (x.1 : Int) = k := by omega
            have hkq := HKP.out
            rcases Bool.eq_false_or_eq_true lost with rfl | rfl
            · clear hkq
              go_wp2
              go_roundg (R.length - (q + 1))
              case measure => omega
              case rel => exact ⟨q + 1, by omega, rfl, congrArg _ (by omega), true, b, rfl, HBL.out, HST.out.2.1 hxk (by simp), HO2.out, HB2.out, HS2.out, HU2.out⟩
            rcases Bool.eq_false_or_eq_true all with rfl | rfl
            · have hq0 : kp q = true := by rw [hkq]; rfl
              have HQ0 := Lib.hid hq0
              clear hkq hq0
              go_upto_region 12 with fail
              iterate 10 go_step
              refine wpList_load_mid rfl 56 (.tmp 55) rfl bx 1 rfl (bcells x.2.1) _ HRG2.out Try.underlying56 rfl HI3.out ?_
              iterate 3 go_step
              have hth := ArrS.there (i := k) HO2.out (by rw [List.length_set, arrPart_length]; exact hk)
              refine wpList_store_mid rfl 56 (.tmp 57) (.tmp 56) rfl g (k * 64) (bcells x.2.1).toArray rfl rfl (by rw [show (bcells x.2.1).toArray.size = 64 by simp [bcells_length, HXB.out]]; exact hth) (by rw [HI3.out]; simp) (all_oneCell_toArray (bcells_one _)) ?_
              have hO6 := ArrS.store HO2.out (fun z hz => by
                rcases List.mem_or_eq_of_mem_set hz with hz | rfl
                · exact arrPart_blk kp R arr k HL.out HAL.out z hz
                · exact HBL.out) (i := k) (by rw [List.length_set, arrPart_length]; exact hk) (b := x.2.1) HXB.out
              rw [List.set_set] at hO6
              have hu6 : Upd (fun j => j = g) w4 (w4.setCells g (k * 64) (bcells x.2.1)) := upd_setCells w4 g (k * 64) (bcells x.2.1)
              have HO6 := Lib.hid hO6
              have HB6 := Lib.hid ((hu6.block _ (lt_of_heap HB2.out) (by omega)).trans HB2.out)
              have HS6 := Lib.hid ((hu6.block _ (lt_of_heap HS2.out) (by omega)).trans HS2.out)
              have HU6 : RowKit.Hid (Upd (fun _ => False) w (w4.setCells g (k * 64) (bcells x.2.1))) := Lib.hid (HU2.out.step hu6 (fun j hj e => by omega))
              refine (?_ : wpList _ _ _ _ _ (w4.setCells g (k * 64) (bcells x.2.1)))
              clear hth hO6 hu6 c0
              generalize w4.setCells g (k * 64) (bcells x.2.1) = w6 at *
              go_wp2
              go_roundg (R.length - (q + 1))
              case measure => omega
              case rel => exact ⟨q + 1, by omega, rfl, congrArg _ (by omega), false, x.2.1, rfl, HXB.out, HST.out.2.2 hxk (by rw [HQ0.out]; rfl), HO6.out, HB6.out, HS6.out, HU6.out⟩
            by_cases hkl2 : q < keep.length
            · obtain ⟨kb, hkb⟩ : ∃ kb, keep[q]? = some kb := ⟨keep[q], by simp [hkl2]⟩
              obtain ⟨ab, ao, rfl, _, hcell⟩ := HK2.out q kb hkb
              have hq0 : kp q = kb := by rw [hkq]; simp [List.getD_eq_getElem?_getD, hkb]
              have HQ0 := Lib.hid hq0
              have hkl3 : decide (keep.length ≤ q) = false := by simp; omega
              have hkl4 : (q : Int) < keep.length := by omega
              clear hkq hq0 hkb
              rcases Bool.eq_false_or_eq_true kb with rfl | rfl
              · skip
                go_upto_region 12 with fail
                iterate 10 go_step
                refine wpList_load_mid rfl 56 (.tmp 55) rfl bx 1 rfl (bcells x.2.1) _ HRG2.out Try.underlying56 rfl HI3.out ?_
                iterate 3 go_step
                have hth := ArrS.there (i := k) HO2.out (by rw [List.length_set, arrPart_length]; exact hk)
                refine wpList_store_mid rfl 56 (.tmp 57) (.tmp 56) rfl g (k * 64) (bcells x.2.1).toArray rfl rfl (by rw [show (bcells x.2.1).toArray.size = 64 by simp [bcells_length, HXB.out]]; exact hth) (by rw [HI3.out]; simp) (all_oneCell_toArray (bcells_one _)) ?_
                have hO6 := ArrS.store HO2.out (fun z hz => by
                  rcases List.mem_or_eq_of_mem_set hz with hz | rfl
                  · exact arrPart_blk kp R arr k HL.out HAL.out z hz
                  · exact HBL.out) (i := k) (by rw [List.length_set, arrPart_length]; exact hk) (b := x.2.1) HXB.out
                rw [List.set_set] at hO6
                have hu6 : Upd (fun j => j = g) w4 (w4.setCells g (k * 64) (bcells x.2.1)) := upd_setCells w4 g (k * 64) (bcells x.2.1)
                have HO6 := Lib.hid hO6
                have HB6 := Lib.hid ((hu6.block _ (lt_of_heap HB2.out) (by omega)).trans HB2.out)
                have HS6 := Lib.hid ((hu6.block _ (lt_of_heap HS2.out) (by omega)).trans HS2.out)
                have HU6 : RowKit.Hid (Upd (fun _ => False) w (w4.setCells g (k * 64) (bcells x.2.1))) := Lib.hid (HU2.out.step hu6 (fun j hj e => by omega))
                refine (?_ : wpList _ _ _ _ _ (w4.setCells g (k * 64) (bcells x.2.1)))
                clear hth hO6 hu6 c0
                generalize w4.setCells g (k * 64) (bcells x.2.1) = w6 at *
                go_wp2
                go_roundg (R.length - (q + 1))
                case measure => omega
                case rel => exact ⟨q + 1, by omega, rfl, congrArg _ (by omega), false, x.2.1, rfl, HXB.out, HST.out.2.2 hxk (by rw [HQ0.out]; rfl), HO6.out, HB6.out, HS6.out, HU6.out⟩
              · skip
                go_wp2
                go_roundg (R.length - (q + 1))
                case measure => omega
                case rel => exact ⟨q + 1, by omega, rfl, congrArg _ (by omega), true, b, rfl, HBL.out, HST.out.2.1 hxk (by rw [HQ0.out]; rfl), HO2.out, HB2.out, HS2.out, HU2.out⟩
            · have hq0 : kp q = false := by rw [hkq]; simp [List.getD_eq_getElem?_getD, hkl2]
              have HQ0 := Lib.hid hq0
              have hkl3 : decide (keep.length ≤ q) = true := by simp; omega
              clear hkq hq0
              go_wp2
              go_roundg (R.length - (q + 1))
              case measure => omega
              case rel => exact ⟨q + 1, by omega, rfl, congrArg _ (by omega), true, b, rfl, HBL.out, HST.out.2.1 hxk (by rw [HQ0.out]; rfl), HO2.out, HB2.out, HS2.out, HU2.out⟩
          · have hxki : ¬ (x.1 : Int) = k := by omega
            go_wp2
            go_roundg (R.length - (q + 1))
            case measure => omega
            case rel => exact ⟨q + 1, by omega, rfl, congrArg _ (by omega), lost, b, rfl, HBL.out, HST.out.1 hxk, HO2.out, HB2.out, HS2.out, HU2.out⟩
        · obtain rfl : q = R.length := by omega
          have hF := HF.out
          rw [List.drop_length] at hF
          have hO := HO.out
          rw [arrPart_succ kp R arr k b hF.symm] at hO
          have HO2 := Lib.hid hO
          clear hF hO
          go_wp2
          go_roundg (arr.length - (k + 1))
          case measure => omega
          case rel => exact ⟨k + 1, by omega, rfl, congrArg _ (by omega), HO2.out, HB.out, HS.out, HU.out⟩
    · obtain rfl : k = arr.length := by omega
      clear q1
      have hO := HO.out
      rw [arrPart_all] at hO
      have HO2 := Lib.hid hO
      have b6 := cells6_of HB.out
      have s6 := cells6_of HS.out
      have fb : ∀ k, wo.frozen? ⟨w.heap.size, k, none⟩ = false := fun k => frozen_of_heap HB.out
      have fs : ∀ k, wo.frozen? ⟨w.heap.size + 1, k, none⟩ = false := fun k => frozen_of_heap HS.out
      clear hO
      obtain ⟨z0, z1, z2, z3, z4, z5⟩ := b6
      obtain ⟨y0, y1, y2, y3, y4, y5⟩ := s6
      go_wp2
      exact arrive_fin (by simp) HO2.out HS.out HU.out hg2 rfl

end Go.Proofs.Ytbimkhdiplnbfaa
end

section
namespace Go.Proofs.Ytbimkhdiplnbfaa
open Go.RowKit Go.Deep

set_option maxRecDepth 100000 in
set_option maxHeartbeats 4000000 in
theorem refCrash_run (Aa Ra : Option Addr) (Ac Rc : Nat) (arr : List (List Int)) (R : List (Nat × List Int × Int)) (o ar fl : Int) (dd : Bool) (ka : Option Addr) (kc : Nat) (keep : List Bool) (w : World) (hA : ArrS w Aa Ac arr) (hR : RowR w Ra Rc R) (hl : ∀ x ∈ R, x.2.1.length = 64) (hal : ∀ b ∈ arr, b.length = 64) (hRl : R.length ≤ 1000000) (hAl : 1 ≤ arr.length ∧ arr.length ≤ 2048) (hk : BoolsAt w ka keep) (hkl : keep.length ≤ 1000) :
    Calls Try.prog 48 #[.agg #[.slice Aa arr.length Ac, .slice Ra R.length Rc, .int .i64 o, .int .i64 ar, .int .i64 fl, .bool dd], .slice ka keep.length kc] w fun e w' =>
      ∃ g c, w.heap.size ≤ g ∧ e = .returned (.agg #[.slice (some ⟨g, 0, none⟩) arr.length c, .slice none 0 0, .int .i64 o, .int .i64 (-1), .int .i64 (-1), .bool false]) ∧
        ArrS w' (some ⟨g, 0, none⟩) c ((List.range arr.length).map fun i => arriveL (fun k => keep.getD k false) i R 0 (arr.getD i []) false) ∧ Upd (fun _ => False) w w' := by
  have HA := Lib.hid hA; have HR := Lib.hid hR; have HL := Lib.hid hl; have HAL := Lib.hid hal; have HK := Lib.hid hk
  clear hA hR hl hal hk
  go_enter Try.func48, Try.ntmps48
  go_wp2_with fail
  obtain ⟨w1, hw1⟩ : ∃ w1, w1 = (w.alloc (.cells #[.slice Aa arr.length Ac, .slice Ra R.length Rc, .int .i64 o, .int .i64 ar, .int .i64 fl, .bool dd] 69)).alloc (.cells #[.slice none 0 0, .slice none 0 0, .int .i64 0, .int .i64 0, .int .i64 0, .bool false] 69) := ⟨_, rfl⟩
  have hu1 : Upd (fun _ => False) w w1 := by rw [hw1]; exact ((Upd.refl _ w).alloc _).alloc _
  have hbox : w1.heap[w.heap.size]? = some (.cells #[.slice Aa arr.length Ac, .slice Ra R.length Rc, .int .i64 o, .int .i64 ar, .int .i64 fl, .bool dd] 69 (0, 0)) := by rw [hw1]; exact (alloc_lt (by simp)).trans (alloc_at rfl)
  have hres : w1.heap[w.heap.size + 1]? = some (.cells #[.slice none 0 0, .slice none 0 0, .int .i64 0, .int .i64 0, .int .i64 0, .bool false] 69 (0, 0)) := by rw [hw1]; exact alloc_at (by simp)
  rw [← hw1]
  clear hw1
  refine (refArrive_run Aa Ra Ac Rc arr R o ar fl dd false ka kc keep w1 (HA.out.kept hu1) (HR.out.kept hu1) HL.out HAL.out hRl hAl (HK.out.kept hu1 (fun _ _ e => e)) hkl (fun k => keep.getD k false) rfl).mono ?_
  rintro e w2 ⟨g, c, hg, rfl, hO, hu2⟩
  have hbox2 := (hu2.block _ (lt_of_heap hbox) (fun e => e)).trans hbox
  have hres2 := (hu2.block _ (lt_of_heap hres) (fun e => e)).trans hres
  have hgn : w.heap.size + 2 ≤ g := by have := lt_of_heap hres; omega
  have HO := Lib.hid hO; have HU := Lib.hid (hu1.trans hu2); have HB := Lib.hid hbox2; have HS := Lib.hid hres2
  clear hO hu1 hu2 hbox hres hbox2 hres2 hg HA HR HL HAL HK
  simp only []
  go_step
  refine wpList_store_mid rfl 69 (.tmp 2) (.tmp 7) rfl w.heap.size 0 #[.slice (some ⟨g, 0, none⟩) arr.length c, .slice none 0 0, .int .i64 o, .int .i64 ar, .int .i64 fl, .bool dd] rfl rfl (show w2.there w.heap.size 0 6 from there_block HB.out) Try.size69q (by simp [Value.oneCell']) ?_
  have hb3 := heap_setCells_whole (vs := [.slice (some ⟨g, 0, none⟩) arr.length c, .slice none 0 0, .int .i64 o, .int .i64 ar, .int .i64 fl, .bool dd]) HB.out rfl
  have hu3 : Upd (fun k => k = w.heap.size) w2 (w2.setCells w.heap.size 0 [.slice (some ⟨g, 0, none⟩) arr.length c, .slice none 0 0, .int .i64 o, .int .i64 ar, .int .i64 fl, .bool dd]) := upd_setCells w2 _ 0 _
  have HB3 := Lib.hid hb3
  have HS3 := Lib.hid ((hu3.block _ (lt_of_heap HS.out) (by omega)).trans HS.out)
  have HU3 := Lib.hid hu3
  refine (?_ : wpList _ _ _ _ _ (w2.setCells w.heap.size 0 [.slice (some ⟨g, 0, none⟩) arr.length c, .slice none 0 0, .int .i64 o, .int .i64 ar, .int .i64 fl, .bool dd]))
  clear hb3 hu3
  generalize w2.setCells w.heap.size 0 [.slice (some ⟨g, 0, none⟩) arr.length c, .slice none 0 0, .int .i64 o, .int .i64 ar, .int .i64 fl, .bool dd] = w3 at *
  have b6 := cells6_of HB3.out
  have fb : ∀ k, w3.frozen? ⟨w.heap.size, k, none⟩ = false := fun k => frozen_of_heap HB3.out
  obtain ⟨z0, z1, z2, z3, z4, z5⟩ := b6
  go_upto_region 3 with fail
  have hb4 := blk_set (i := 4) (v := .int .i64 (-1)) (blk_set (i := 3) (v := .int .i64 (-1)) (blk_set (i := 5) (v := .bool false) HB3.out))
  simp at hb4
  have hu4 : Upd (fun k => k = w.heap.size) w3 (((w3.setCell ⟨w.heap.size, 5, none⟩ (.bool false)).setCell ⟨w.heap.size, 3, none⟩ (.int .i64 (-1))).setCell ⟨w.heap.size, 4, none⟩ (.int .i64 (-1))) := (((Upd.refl (fun k => k = w.heap.size) w3).setCell (p := ⟨w.heap.size, 5, none⟩) (.inl rfl) _).setCell (p := ⟨w.heap.size, 3, none⟩) (.inl rfl) _).setCell (p := ⟨w.heap.size, 4, none⟩) (.inl rfl) _
  have HB4 := Lib.hid hb4
  have HS4 := Lib.hid ((hu4.block _ (lt_of_heap HS3.out) (by omega)).trans HS3.out)
  have HU4 := Lib.hid (HU3.out.trans hu4)
  refine (?_ : Code.wp _ _ _ _ (((w3.setCell ⟨w.heap.size, 5, none⟩ (.bool false)).setCell ⟨w.heap.size, 3, none⟩ (.int .i64 (-1))).setCell ⟨w.heap.size, 4, none⟩ (.int .i64 (-1))))
  clear hb4 hu4 fb z0 z1 z2 z3 z4 z5
  generalize (((w3.setCell ⟨w.heap.size, 5, none⟩ (.bool false)).setCell ⟨w.heap.size, 3, none⟩ (.int .i64 (-1))).setCell ⟨w.heap.size, 4, none⟩ (.int .i64 (-1))) = w4 at *
  go_step
  refine wpList_load_mid rfl 69 (.tmp 2) rfl w.heap.size 0 rfl [.slice (some ⟨g, 0, none⟩) arr.length c, .slice none 0 0, .int .i64 o, .int .i64 (-1), .int .i64 (-1), .bool false] _ (rangeAt_block HB4.out) Try.underlying69 rfl Try.size69q ?_
  refine wpList_store_mid rfl 69 (.tmp 4) (.tmp 11) rfl (w.heap.size + 1) 0 #[.slice (some ⟨g, 0, none⟩) arr.length c, .slice none 0 0, .int .i64 o, .int .i64 (-1), .int .i64 (-1), .bool false] rfl rfl (show w4.there (w.heap.size + 1) 0 6 from there_block HS4.out) Try.size69q (by simp [Value.oneCell']) ?_
  have hb5 := heap_setCells_whole (vs := [.slice (some ⟨g, 0, none⟩) arr.length c, .slice none 0 0, .int .i64 o, .int .i64 (-1), .int .i64 (-1), .bool false]) HS4.out rfl
  have hu5 : Upd (fun k => k = w.heap.size + 1) w4 (w4.setCells (w.heap.size + 1) 0 [.slice (some ⟨g, 0, none⟩) arr.length c, .slice none 0 0, .int .i64 o, .int .i64 (-1), .int .i64 (-1), .bool false]) := upd_setCells w4 _ 0 _
  refine (?_ : wpList _ _ _ _ _ (w4.setCells (w.heap.size + 1) 0 [.slice (some ⟨g, 0, none⟩) arr.length c, .slice none 0 0, .int .i64 o, .int .i64 (-1), .int .i64 (-1), .bool false]))
  have HB5 := Lib.hid hb5
  have HUa : RowKit.Hid (Upd (fun k => k = w.heap.size ∨ k = w.heap.size + 1) w2 _) := Lib.hid ((HU4.out.mono (fun _ _ e => .inl e)).trans (hu5.mono (fun _ _ e => .inr e)))
  clear hb5 hu5
  generalize w4.setCells (w.heap.size + 1) 0 [.slice (some ⟨g, 0, none⟩) arr.length c, .slice none 0 0, .int .i64 o, .int .i64 (-1), .int .i64 (-1), .bool false] = w5 at *
  go_wp2
  have hl3 := run_loadVar_mid (P := Try.prog) w5 (w.heap.size + 1) 0 69 [.slice (some ⟨g, 0, none⟩) arr.length c, .slice none 0 0, .int .i64 o, .int .i64 (-1), .int .i64 (-1), .bool false] _ (rangeAt_block HB5.out) Try.underlying69 rfl Try.size69q
  refine bodyPost_ret (results_cell1 Try.results48 rfl hl3) rfl ⟨g, c, by omega, rfl, ?_, HU.out.step HUa.out (fun k hk e => by omega)⟩
  exact ownsRow_any HO.out HUa.out (fun k hk e => by simp [Value.ownBlock] at hk; omega)

end Go.Proofs.Ytbimkhdiplnbfaa
end

section
namespace Go.Proofs.Ytbimkhdiplnbfaa
open Go.RowKit Go.Deep

/-- What says holds on to: its call, its disk, its two results, its block. -/
structure SBox (w W : World) (k i n c : Int) (ka : Option Addr) (kn kc : Nat) (cs : List Value) (bs : List Int) : Prop where
  x : W.heap[w.heap.size]? = some (callBox k i n c ka kn kc)
  d : W.heap[w.heap.size + 1]? = some (.cells cs.toArray 69 (0, 0))
  r : W.heap[w.heap.size + 1 + 1]? = some (.cells #[.slice none 0 0, .slice none 0 0, .int .i64 0, .int .i64 0, .int .i64 0, .bool false] 69 (0, 0))
  b : W.heap[w.heap.size + 1 + 1 + 1]? = some (.cells (bcells zblk).toArray 56 (0, 0))
  v : W.heap[w.heap.size + 1 + 1 + 1 + 1]? = some (.cells (bcells bs).toArray 56 (0, 0))
  u : Upd (fun _ => False) w W

theorem SBox.start (w : World) (k i n c : Int) (ka : Option Addr) (kn kc : Nat) (cs : List Value) :
    SBox w (((((w.alloc (.cells #[.int .i64 k, .int .i64 i, .int .i64 n, .int .u8 c, .slice ka kn kc] 51)).alloc (.cells cs.toArray 69)).alloc (.cells #[.slice none 0 0, .slice none 0 0, .int .i64 0, .int .i64 0, .int .i64 0, .bool false] 69)).alloc (.cells (bcells zblk).toArray 56)).alloc (.cells (bcells zblk).toArray 56)) k i n c ka kn kc cs zblk where
  x := (alloc_lt (by first | (simp; done) | (simp; omega))).trans ((alloc_lt (by first | (simp; done) | (simp; omega))).trans ((alloc_lt (by first | (simp; done) | (simp; omega))).trans ((alloc_lt (by simp)).trans (alloc_at rfl))))
  d := (alloc_lt (by first | (simp; done) | (simp; omega))).trans ((alloc_lt (by first | (simp; done) | (simp; omega))).trans ((alloc_lt (by simp)).trans (alloc_at (by simp))))
  r := (alloc_lt (by first | (simp; done) | (simp; omega))).trans ((alloc_lt (by simp)).trans (alloc_at (by simp)))
  b := (alloc_lt (by simp)).trans (alloc_at (by simp))
  v := alloc_at (by simp)
  u := (((((Upd.refl _ w).alloc _).alloc _).alloc _).alloc _).alloc _

theorem SBox.kept {w W W' : World} {k i n c : Int} {ka : Option Addr} {kn kc : Nat} {cs : List Value} {bs : List Int} (h : SBox w W k i n c ka kn kc cs bs) (hu : Upd (fun _ => False) W W') : SBox w W' k i n c ka kn kc cs bs where
  x := (hu.block _ (lt_of_heap h.x) (fun e => e)).trans h.x
  d := (hu.block _ (lt_of_heap h.d) (fun e => e)).trans h.d
  r := (hu.block _ (lt_of_heap h.r) (fun e => e)).trans h.r
  b := (hu.block _ (lt_of_heap h.b) (fun e => e)).trans h.b
  v := (hu.block _ (lt_of_heap h.v) (fun e => e)).trans h.v
  u := h.u.trans hu

/-- What is read of it. -/
structure SRd (w W : World) (k i n c : Int) (ka : Option Addr) (kn kc : Nat) (cs : List Value) (bs : List Int) : Prop where
  x : W.heap[w.heap.size]? = some (callBox k i n c ka kn kc)
  d : W.heap[w.heap.size + 1]? = some (.cells cs.toArray 69 (0, 0))
  v : W.heap[w.heap.size + 1 + 1 + 1 + 1]? = some (.cells (bcells bs).toArray 56 (0, 0))

theorem SBox.rd {w W : World} {k i n c : Int} {ka : Option Addr} {kn kc : Nat} {cs : List Value} {bs : List Int} (h : SBox w W k i n c ka kn kc cs bs) : SRd w W k i n c ka kn kc cs bs := ⟨h.x, h.d, h.v⟩

theorem SRd.off {w W W' : World} {k i n c : Int} {ka : Option Addr} {kn kc : Nat} {cs : List Value} {bs : List Int} (h : SRd w W k i n c ka kn kc cs bs) (hu : Upd (fun j => j = w.heap.size + 1 + 1 ∨ j = w.heap.size + 1 + 1 + 1) W W') : SRd w W' k i n c ka kn kc cs bs :=
  ⟨(hu.block _ (lt_of_heap h.x) (by omega)).trans h.x, (hu.block _ (lt_of_heap h.d) (by omega)).trans h.d, (hu.block _ (lt_of_heap h.v) (by omega)).trans h.v⟩

/-- The disk is stored anew. -/
theorem SBox.setD {w W : World} {k i n c : Int} {ka : Option Addr} {kn kc : Nat} {cs : List Value} {bs : List Int} (h : SBox w W k i n c ka kn kc cs bs) (ds : List Value) (hl : ds.length = cs.length) : SBox w (W.setCells (w.heap.size + 1) 0 ds) k i n c ka kn kc ds bs := by
  have hu := upd_setCells W (w.heap.size + 1) 0 ds
  refine ⟨(hu.block _ (lt_of_heap h.x) (by omega)).trans h.x, heap_setCells_whole (vs := ds) h.d (by simp [hl]), (hu.block _ (lt_of_heap h.r) (by omega)).trans h.r, (hu.block _ (lt_of_heap h.b) (by omega)).trans h.b, (hu.block _ (lt_of_heap h.v) (by omega)).trans h.v, h.u.step hu (fun j hj e => by omega)⟩

/-- A number of the disk is stored anew. -/
theorem SBox.setN {w W : World} {k i n c : Int} {ka : Option Addr} {kn kc : Nat} {cs : List Value} {bs : List Int} (h : SBox w W k i n c ka kn kc cs bs) (j : Nat) (v : Value) : SBox w (W.setCell ⟨w.heap.size + 1, j, none⟩ v) k i n c ka kn kc (cs.set j v) bs := by
  have hu : Upd (fun k => k = w.heap.size + 1) W (W.setCell ⟨w.heap.size + 1, j, none⟩ v) := Upd.setCell (F := fun k => k = w.heap.size + 1) (Upd.refl _ W) (p := ⟨w.heap.size + 1, j, none⟩) (.inl rfl) v
  refine ⟨(hu.block _ (lt_of_heap h.x) (by omega)).trans h.x, by have := blk_set (i := j) (v := v) h.d; simpa using this, (hu.block _ (lt_of_heap h.r) (by omega)).trans h.r, (hu.block _ (lt_of_heap h.b) (by omega)).trans h.b, (hu.block _ (lt_of_heap h.v) (by omega)).trans h.v, h.u.step hu (fun j hj e => by omega)⟩

/-- The block is stored anew. -/
theorem SBox.setV {w W : World} {k i n c : Int} {ka : Option Addr} {kn kc : Nat} {cs : List Value} {bs : List Int} (h : SBox w W k i n c ka kn kc cs bs) (b : List Int) (hl : b.length = bs.length) : SBox w (W.setCells (w.heap.size + 1 + 1 + 1 + 1) 0 (bcells b)) k i n c ka kn kc cs b := by
  have hu := upd_setCells W (w.heap.size + 1 + 1 + 1 + 1) 0 (bcells b)
  refine ⟨(hu.block _ (lt_of_heap h.x) (by omega)).trans h.x, (hu.block _ (lt_of_heap h.d) (by omega)).trans h.d, (hu.block _ (lt_of_heap h.r) (by omega)).trans h.r, (hu.block _ (lt_of_heap h.b) (by omega)).trans h.b, heap_setCells_whole (vs := bcells b) h.v (by simp [bcells_length, hl]), h.u.step hu (fun j hj e => by omega)⟩

/-- Both results are stored. -/
theorem SBox.out {w W : World} {k i n c : Int} {ka : Option Addr} {kn kc : Nat} {cs : List Value} {bs : List Int} (h : SBox w W k i n c ka kn kc cs bs) (ds : List Value) (hl : ds.length = 6) (b : List Int) (hb : b.length = 64) :
    ((W.setCells (w.heap.size + 1 + 1) 0 ds).setCells (w.heap.size + 1 + 1 + 1) 0 (bcells b)).heap[w.heap.size + 1 + 1]? = some (.cells ds.toArray 69 (0, 0)) ∧
    ((W.setCells (w.heap.size + 1 + 1) 0 ds).setCells (w.heap.size + 1 + 1 + 1) 0 (bcells b)).heap[w.heap.size + 1 + 1 + 1]? = some (.cells (bcells b).toArray 56 (0, 0)) ∧
    Upd (fun j => w.heap.size ≤ j ∧ j < w.heap.size + 5) W ((W.setCells (w.heap.size + 1 + 1) 0 ds).setCells (w.heap.size + 1 + 1 + 1) 0 (bcells b)) ∧
    Upd (fun _ => False) w ((W.setCells (w.heap.size + 1 + 1) 0 ds).setCells (w.heap.size + 1 + 1 + 1) 0 (bcells b)) := by
  have hu := upd_setCells W (w.heap.size + 1 + 1) 0 ds
  have hv := upd_setCells (W.setCells (w.heap.size + 1 + 1) 0 ds) (w.heap.size + 1 + 1 + 1) 0 (bcells b)
  have hall : Upd (fun j => w.heap.size ≤ j ∧ j < w.heap.size + 5) W ((W.setCells (w.heap.size + 1 + 1) 0 ds).setCells (w.heap.size + 1 + 1 + 1) 0 (bcells b)) := (hu.mono (fun j _ e => ⟨by omega, by omega⟩)).trans (hv.mono (fun j _ e => ⟨by omega, by omega⟩))
  refine ⟨(hv.block _ (lt_of_heap (heap_setCells_whole (vs := ds) h.r (by simp [hl]))) (by omega)).trans (heap_setCells_whole (vs := ds) h.r (by simp [hl])), heap_setCells_whole (vs := bcells b) ((hu.block _ (lt_of_heap h.b) (by omega)).trans h.b) (by simp [bcells_length, zblk, hb]), hall, h.u.step hall (fun j hj e => by omega)⟩

/-- What Why says. -/
def whyE (d : Bool) (An : Nat) (i : Int) : Int := if d then 9 else if i < 0 ∨ (An : Int) ≤ i then 2 else 0

theorem why_run' {no : Int} (Aa : Option Addr) (An Ac : Nat) (Ra : Option Addr) (Rn Rc : Nat) (o a f i : Int) (d : Bool) (w : World) (hA : An ≤ 2048) (h : RowKit.Hid (whyE d An i = no)) :
    Calls Try.prog 92 #[.agg #[.slice Aa An Ac, .slice Ra Rn Rc, .int .i64 o, .int .i64 a, .int .i64 f, .bool d], .int .i64 i] w fun e w' => e = .returned (.int .i64 no) ∧ Upd (fun _ => False) w w' := by
  rw [← h.out]; exact refWhy_run Aa An Ac Ra Rn Rc o a f i d w hA

theorem crash_run' (Aa Ra : Option Addr) (Ac Rc : Nat) (arr : List (List Int)) (R : List (Nat × List Int × Int)) (o ar fl : Int) (dd : Bool) (ka : Option Addr) (m kc : Nat) (keep : List Bool) (w : World) (hA : ArrS w Aa Ac arr) (hR : RowR w Ra Rc R) (hl : ∀ x ∈ R, x.2.1.length = 64) (hal : ∀ b ∈ arr, b.length = 64) (hRl : R.length ≤ 1000000) (hAl : 1 ≤ arr.length ∧ arr.length ≤ 2048) (hk : BoolsAt w ka keep) (hm : keep.length = m) (hkl : m ≤ 1000) :
    Calls Try.prog 48 #[.agg #[.slice Aa arr.length Ac, .slice Ra R.length Rc, .int .i64 o, .int .i64 ar, .int .i64 fl, .bool dd], .slice ka m kc] w fun e w' =>
      ∃ g c, w.heap.size ≤ g ∧ e = .returned (.agg #[.slice (some ⟨g, 0, none⟩) arr.length c, .slice none 0 0, .int .i64 o, .int .i64 (-1), .int .i64 (-1), .bool false]) ∧
        ArrS w' (some ⟨g, 0, none⟩) c ((List.range arr.length).map fun i => arriveL (fun k => keep.getD k false) i R 0 (arr.getD i []) false) ∧ Upd (fun _ => False) w w' := by
  subst hm; exact refCrash_run Aa Ra Ac Rc arr R o ar fl dd ka kc keep w hA hR hl hal hRl hAl hk hkl

/-- What a call meets. -/
def MeetsAs (wr : Bool) (o a f : Int) (d : Bool) (o1 a1 f1 E : Int) (d1 : Bool) : Prop :=
  meetE wr a f = E ∧ (if E = 0 then o + 1 else o) = o1 ∧ (if E = 0 ∧ wr = true then max (a - 1) (-1) else a) = a1 ∧ max (f - 1) (-1) = f1 ∧ (if E = 9 then true else d) = d1

theorem meets_run' {Aa : Option Addr} {An Ac : Nat} {Ra : Option Addr} {Rn Rc : Nat} {o a f : Int} {d wr : Bool} {o1 a1 f1 E : Int} {d1 : Bool} (w : World) (ho : 0 ≤ o ∧ o ≤ 1000000) (ha : -1 ≤ a ∧ a ≤ 9223372036854775807) (hf : -1 ≤ f ∧ f ≤ 9223372036854775807)
    (h : RowKit.Hid (MeetsAs wr o a f d o1 a1 f1 E d1)) :
    Calls Try.prog 93 #[.agg #[.slice Aa An Ac, .slice Ra Rn Rc, .int .i64 o, .int .i64 a, .int .i64 f, .bool d], .bool wr] w fun e w' => e = .returned (.tuple #[.agg #[.slice Aa An Ac, .slice Ra Rn Rc, .int .i64 o1, .int .i64 a1, .int .i64 f1, .bool d1], .int .i64 E]) ∧ Upd (fun _ => False) w w' := by
  obtain ⟨h1, h2, h3, h4, h5⟩ := h.out
  subst h1
  rw [← h2, ← h3, ← h4, ← h5]
  exact refMeets_run Aa An Ac Ra Rn Rc o a f d wr w ho ha hf

theorem arrive_run' (Aa Ra : Option Addr) (Ac Rc : Nat) (arr : List (List Int)) (R : List (Nat × List Int × Int)) (o ar fl : Int) (dd : Bool) (w : World) (hA : ArrS w Aa Ac arr) (hR : RowR w Ra Rc R) (hl : ∀ x ∈ R, x.2.1.length = 64) (hal : ∀ b ∈ arr, b.length = 64) (hRl : R.length ≤ 1000000) (hAl : 1 ≤ arr.length ∧ arr.length ≤ 2048) :
    Calls Try.prog 95 #[.agg #[.slice Aa arr.length Ac, .slice Ra R.length Rc, .int .i64 o, .int .i64 ar, .int .i64 fl, .bool dd], .bool true, .slice none 0 0] w fun e w' =>
      ∃ g c, w.heap.size ≤ g ∧ e = .returned (.agg #[.slice (some ⟨g, 0, none⟩) arr.length c, .slice none 0 0, .int .i64 o, .int .i64 ar, .int .i64 fl, .bool dd]) ∧
        ArrS w' (some ⟨g, 0, none⟩) c ((List.range arr.length).map fun i => arriveL (fun _ => true) i R 0 (arr.getD i []) false) ∧ Upd (fun _ => False) w w' :=
  refArrive_run Aa Ra Ac Rc arr R o ar fl dd true none 0 [] w hA hR hl hal hRl hAl (fun i b h => by simp at h) (by simp) (fun _ => true) rfl

theorem results_cell2_tmp {P : Program} {fn : Func} {ts : Array Value} {w : World} {a b u : Nat} {t s : TypeId} {p q : Addr} {v x : Value} (hr : fn.results = #[.cell a t, .cell b s, .tmp u]) (ha : ts.getD a undef = .pointer (some p)) (hb : ts.getD b undef = .pointer (some q)) (hl : (loadVar t p).run P w = .ok v w) (hm : (loadVar s q).run P w = .ok x w) :
    (Go.results fn ts).run P w = .ok (.tuple #[v, x, ts.getD u undef]) w := by
  unfold Go.results
  rw [hr]
  have ha' : ts[a]?.getD undef = .pointer (some p) := by simpa using ha
  have hb' : ts[b]?.getD undef = .pointer (some q) := by simpa using hb
  simp [asAddr, ha', hb', hl, hm]

theorem says_fin {w wf : World} {ts : Array Value} {cs : List Value} {b : List Int} {Q : Ending → World → Prop} (h4 : wf.heap[w.heap.size + 1 + 1]? = some (.cells cs.toArray 69 (0, 0))) (hl : cs.length = 6) (h5 : wf.heap[w.heap.size + 1 + 1 + 1]? = some (.cells (bcells b).toArray 56 (0, 0))) (hb : b.length = 64)
    (ht4 : ts.getD 4 undef = .pointer (some ⟨w.heap.size + 1 + 1, 0, none⟩)) (ht5 : ts.getD 5 undef = .pointer (some ⟨w.heap.size + 1 + 1 + 1, 0, none⟩)) (hQ : Q (.returned (.tuple #[.agg cs.toArray, .agg (bcells b).toArray, ts.getD 6 undef])) wf) :
    bodyPost Try.prog Try.f45 Q .ret { tmps := ts, defers := [] } wf := by
  have hl3 := run_loadVar_mid (P := Try.prog) wf (w.heap.size + 1 + 1) 0 69 cs _ (rangeAt_block h4) Try.underlying69 rfl (by rw [Try.size69q, hl])
  have hl4 := run_loadVar_mid (P := Try.prog) wf (w.heap.size + 1 + 1 + 1) 0 56 (bcells b) _ (rangeAt_block h5) Try.underlying56 rfl (by rw [Try.info56p, bcells_length, hb])
  exact bodyPost_ret (results_cell2_tmp Try.results45 ht4 ht5 hl3 hl4) rfl hQ

end Go.Proofs.Ytbimkhdiplnbfaa
end

section
namespace Go.Proofs.Ytbimkhdiplnbfaa
open Go.RowKit Go.Deep

set_option maxRecDepth 100000 in
set_option maxHeartbeats 4000000 in
theorem says_crash (k i n c : Int) (ka : Option Addr) (kn kc : Nat) (Aa Ra : Option Addr) (Ac Rc : Nat) (arr : List (List Int)) (R : List (Nat × List Int × Int)) (o ar fl : Int) (dd : Bool) (w : World) (Bk : Nat → Bool) (hκ : kindOf k = 9) (hk : KeepIn w ka kn kc Bk) (hA0 : ArrS w Aa Ac arr) (hR : RowR w Ra Rc R) (hl : ∀ x ∈ R, x.2.1.length = 64) (hal : ∀ b ∈ arr, b.length = 64) (hRl : R.length ≤ 1000000) (hAl : 1 ≤ arr.length ∧ arr.length ≤ 2048) :
    Calls Try.prog 45 #[callV k i n c ka kn kc, refV Aa arr.length Ac Ra R.length Rc o ar fl dd] w fun e w' => ∃ g c', w.heap.size ≤ g ∧ e = .returned (.tuple #[.agg #[.slice (some ⟨g, 0, none⟩) arr.length c', .slice none 0 0, .int .i64 o, .int .i64 (-1), .int .i64 (-1), .bool false], .agg (bcells zblk).toArray, .int .i64 0]) ∧
      ArrS w' (some ⟨g, 0, none⟩) c' ((List.range arr.length).map fun i => arriveL (fun k => ((List.range (min kn 80)).map Bk).getD k false) i R 0 (arr.getD i []) false) ∧ Upd (fun _ => False) w w' := by
  have HA := Lib.hid hA0; have HR := Lib.hid hR; have HL := Lib.hid hl; have HAL := Lib.hid hal; have HKI := Lib.hid hk
  obtain ⟨zb, hzb⟩ : ∃ zb, zb = zblk := ⟨_, rfl⟩
  rw [← hzb]
  have HZB := Lib.hid hzb
  have HBL : RowKit.Hid (zb.length = 64) := Lib.hid (by rw [hzb]; simp [zblk])
  clear hzb
  clear hA0 hR hl hal hk
  unfold callV refV
  go_enter Try.func45, Try.ntmps45
  go_upto_region 2 with fail
  refine (?_ : Code.wp _ _ _ _ (((((w.alloc (.cells #[.int .i64 k, .int .i64 i, .int .i64 n, .int .u8 c, .slice ka kn kc] 51)).alloc (.cells #[.slice Aa arr.length Ac, .slice Ra R.length Rc, .int .i64 o, .int .i64 ar, .int .i64 fl, .bool dd] 69)).alloc (.cells #[.slice none 0 0, .slice none 0 0, .int .i64 0, .int .i64 0, .int .i64 0, .bool false] 69)).alloc (.cells (bcells zblk).toArray 56)).alloc (.cells (bcells zblk).toArray 56)))
  obtain ⟨w1, hw1⟩ : ∃ w1, w1 = (((((w.alloc (.cells #[.int .i64 k, .int .i64 i, .int .i64 n, .int .u8 c, .slice ka kn kc] 51)).alloc (.cells #[.slice Aa arr.length Ac, .slice Ra R.length Rc, .int .i64 o, .int .i64 ar, .int .i64 fl, .bool dd] 69)).alloc (.cells #[.slice none 0 0, .slice none 0 0, .int .i64 0, .int .i64 0, .int .i64 0, .bool false] 69)).alloc (.cells (bcells zblk).toArray 56)).alloc (.cells (bcells zblk).toArray 56)) := ⟨_, rfl⟩
  have hs : SBox w w1 k i n c ka kn kc [.slice Aa arr.length Ac, .slice Ra R.length Rc, .int .i64 o, .int .i64 ar, .int .i64 fl, .bool dd] zb := by rw [hw1, HZB.out]; exact SBox.start w k i n c ka kn kc [.slice Aa arr.length Ac, .slice Ra R.length Rc, .int .i64 o, .int .i64 ar, .int .i64 fl, .bool dd]
  rw [← hw1]
  clear hw1
  have HS1 := Lib.hid hs
  obtain ⟨x0, x1, x2, x3, x4⟩ := box_cells hs.x
  obtain ⟨d0, d1, d2, d3, d4, d5⟩ := cells6_of hs.d
  clear hs
  go_wp2_with fail
  refine (kind_run' hκ i n c ka kn kc _).mono ?_
  rintro e w2 ⟨rfl, hu⟩
  clear x0 x1 x2 x3 x4 d0 d1 d2 d3 d4 d5
  have hs := HS1.out.kept hu
  clear hu
  have HS2 := Lib.hid hs
  obtain ⟨x0, x1, x2, x3, x4⟩ := box_cells hs.x
  obtain ⟨d0, d1, d2, d3, d4, d5⟩ := cells6_of hs.d
  clear hs
  simp only []
  obtain ⟨no, hno⟩ : ∃ no, whyE dd arr.length 0 = no := ⟨_, rfl⟩
  have HNO := Lib.hid hno
  clear hno
  go_wp2_with fail
  refine (why_run' Aa arr.length Ac Ra R.length Rc o ar fl 0 dd _ hAl.2 HNO).mono ?_
  rintro e w3 ⟨rfl, hu⟩
  clear x0 x1 x2 x3 x4 d0 d1 d2 d3 d4 d5
  have hs := HS2.out.kept hu
  clear hu
  have HS3 := Lib.hid hs
  obtain ⟨x0, x1, x2, x3, x4⟩ := box_cells hs.x
  obtain ⟨d0, d1, d2, d3, d4, d5⟩ := cells6_of hs.d
  clear hs
  simp only []
  go_wp2_with fail
  refine (kind_run' hκ i n c ka kn kc _).mono ?_
  rintro e w4 ⟨rfl, hu⟩
  clear x0 x1 x2 x3 x4 d0 d1 d2 d3 d4 d5
  have hs := HS3.out.kept hu
  clear hu
  have HS4 := Lib.hid hs
  obtain ⟨x0, x1, x2, x3, x4⟩ := box_cells hs.x
  obtain ⟨d0, d1, d2, d3, d4, d5⟩ := cells6_of hs.d
  clear hs
  simp only []
  go_upto_region 7 with fail
  have hA : SRd w w4.drew k i n c ka kn kc [.slice Aa arr.length Ac, .slice Ra R.length Rc, .int .i64 o, .int .i64 ar, .int .i64 fl, .bool dd] zb := (HS4.out.kept (Upd.refl _ w4).drew).rd
  clear x0 x1 x2 x3 x4 d0 d1 d2 d3 d4 d5
  refine wp_region_G 7 (fun W => SRd w W k i n c ka kn kc [.slice Aa arr.length Ac, .slice Ra R.length Rc, .int .i64 o, .int .i64 ar, .int .i64 fl, .bool dd] zb) [false, false, false, false, false, false, false, false] rfl (by kernel_rfl) ?_
  have HS5 := Lib.hid (HS4.out.kept (Upd.refl _ w4).drew)
  refine wpG_take (i := 0) (v := .agg [.slice Aa arr.length Ac, .slice Ra R.length Rc, .int .i64 o, .int .i64 ar, .int .i64 fl, .bool dd].toArray) rfl (by kernel_rfl) (fun _ _ _ h => h) hA (.inl ⟨rfl, fun w9 q1 => ?_⟩) ?_
  · exact run_load_mid' rfl rfl [.slice Aa arr.length Ac, .slice Ra R.length Rc, .int .i64 o, .int .i64 ar, .int .i64 fl, .bool dd] (rangeAt_block (b := w.heap.size + 1) (cs := [.slice Aa arr.length Ac, .slice Ra R.length Rc, .int .i64 o, .int .i64 ar, .int .i64 fl, .bool dd]) q1.d) Try.underlying69 rfl Try.size69q
  simp only [Act.put, List.setIfInBounds_toArray, List.set]
  refine wpG_take (i := 1) (v := .agg [.int .i64 k, .int .i64 i, .int .i64 n, .int .u8 c, .slice ka kn kc].toArray) rfl (by kernel_rfl) (fun _ _ _ h => h) hA (.inl ⟨rfl, fun w9 q1 => ?_⟩) ?_
  · exact run_load_mid' rfl rfl [.int .i64 k, .int .i64 i, .int .i64 n, .int .u8 c, .slice ka kn kc] (rangeAt_block (b := w.heap.size) (cs := [.int .i64 k, .int .i64 i, .int .i64 n, .int .u8 c, .slice ka kn kc]) q1.x) Try.underlying51 rfl Try.size51
  simp only [Act.put, List.setIfInBounds_toArray, List.set]
  refine wpG_take (i := 4) (v := .agg (bcells zb).toArray) rfl (by kernel_rfl) (fun _ _ _ h => h) hA (.inl ⟨rfl, fun w9 q1 => ?_⟩) ?_
  · exact run_load_mid' rfl rfl (bcells zb) (rangeAt_block (b := w.heap.size + 1 + 1 + 1 + 1) (cs := (bcells zb)) q1.v) Try.underlying56 rfl (by rw [Try.info56p, bcells_length, HBL.out])
  simp only [Act.put, List.setIfInBounds_toArray, List.set]
  refine wpG_do (i := 2) rfl (by kernel_rfl) rfl (fun K hK => ?_)
  have HK := Lib.hid hK
  clear hK
  go_step
  refine (keep_run k i n c ka kn kc Bk _ (HKI.out.kept HS5.out.u)).mono ?_
  rintro e w6 ⟨⟨ka2, kc2, rfl, hb⟩, hu⟩
  have HS6 := Lib.hid (HS5.out.kept hu)
  have HBB := Lib.hid hb
  clear hb
  clear hu hA
  have hA := HS6.out.rd
  simp only []
  refine HK.out _ _ hA ?_
  clear HK
  simp only [List.setIfInBounds_toArray, List.set]
  refine wpG_do (i := 3) rfl (by kernel_rfl) rfl (fun K hK => ?_)
  have HK := Lib.hid hK
  clear hK
  go_step
  refine (crash_run' Aa Ra Ac Rc arr R o ar fl dd ka2 (min kn 80) kc2 ((List.range (min kn 80)).map Bk) w6 (HA.out.kept HS6.out.u) (HR.out.kept HS6.out.u) HL.out HAL.out hRl hAl HBB.out (by simp) (by omega)).mono ?_
  rintro e w7 ⟨g, c2, hg, rfl, hO, hu⟩
  have HS7 := Lib.hid (HS6.out.kept hu)
  have HOO := Lib.hid hO
  have hg2 : w.heap.size + 5 ≤ g := by have := lt_of_heap HS6.out.v; omega
  clear hO
  clear hu hA
  have hA := HS7.out.rd
  simp only []
  refine HK.out _ _ hA ?_
  clear HK
  simp only [List.setIfInBounds_toArray, List.set]
  obtain ⟨o1, o2, o3, o4⟩ := HS7.out.out [.slice (some ⟨g, 0, none⟩) arr.length c2, .slice none 0 0, .int .i64 o, .int .i64 (-1), .int .i64 (-1), .bool false] rfl zb HBL.out
  have HO1 := Lib.hid o1; have HO2 := Lib.hid o2; have HO3 := Lib.hid o3; have HO4 := Lib.hid o4
  have u1 : Upd (fun j => j = w.heap.size + 1 + 1 ∨ j = w.heap.size + 1 + 1 + 1) w7 (w7.setCells (w.heap.size + 1 + 1) 0 [.slice (some ⟨g, 0, none⟩) arr.length c2, .slice none 0 0, .int .i64 o, .int .i64 (-1), .int .i64 (-1), .bool false]) := (upd_setCells w7 (w.heap.size + 1 + 1) 0 [.slice (some ⟨g, 0, none⟩) arr.length c2, .slice none 0 0, .int .i64 o, .int .i64 (-1), .int .i64 (-1), .bool false]).mono (fun j _ e => .inl e)
  have u2 : Upd (fun j => j = w.heap.size + 1 + 1 ∨ j = w.heap.size + 1 + 1 + 1) (w7.setCells (w.heap.size + 1 + 1) 0 [.slice (some ⟨g, 0, none⟩) arr.length c2, .slice none 0 0, .int .i64 o, .int .i64 (-1), .int .i64 (-1), .bool false]) ((w7.setCells (w.heap.size + 1 + 1) 0 [.slice (some ⟨g, 0, none⟩) arr.length c2, .slice none 0 0, .int .i64 o, .int .i64 (-1), .int .i64 (-1), .bool false]).setCells (w.heap.size + 1 + 1 + 1) 0 (bcells zb)) := (upd_setCells (w7.setCells (w.heap.size + 1 + 1) 0 [.slice (some ⟨g, 0, none⟩) arr.length c2, .slice none 0 0, .int .i64 o, .int .i64 (-1), .int .i64 (-1), .bool false]) (w.heap.size + 1 + 1 + 1) 0 (bcells zb)).mono (fun j _ e => .inr e)
  have hA1 := hA.off u1
  have hA2 := hA1.off u2
  have ht1 : w7.there (w.heap.size + 1 + 1) 0 6 := there_block HS7.out.r
  have ht2 : (w7.setCells (w.heap.size + 1 + 1) 0 [.slice (some ⟨g, 0, none⟩) arr.length c2, .slice none 0 0, .int .i64 o, .int .i64 (-1), .int .i64 (-1), .bool false]).there (w.heap.size + 1 + 1 + 1) 0 (bcells zb).toArray.size := by
    have := there_block (((upd_setCells w7 (w.heap.size + 1 + 1) 0 [.slice (some ⟨g, 0, none⟩) arr.length c2, .slice none 0 0, .int .i64 o, .int .i64 (-1), .int .i64 (-1), .bool false]).block _ (lt_of_heap HS7.out.b) (by omega)).trans HS7.out.b)
    rwa [show (bcells zblk).toArray.size = (bcells zb).toArray.size by simp [bcells_length, HBL.out, zblk]] at this
  clear o1 o2 o3 o4
  refine wpG_do (i := 5) rfl (by kernel_rfl) rfl (fun K hK => ?_)
  have HK := Lib.hid hK
  clear hK
  refine wp_store_mid 69 (.tmp 4) (.tmp 26) rfl (w.heap.size + 1 + 1) 0 [.slice (some ⟨g, 0, none⟩) arr.length c2, .slice none 0 0, .int .i64 o, .int .i64 (-1), .int .i64 (-1), .bool false].toArray rfl rfl ht1 Try.size69q (by simp [Value.oneCell']) ?_
  refine HK.out _ _ hA1 ?_
  clear HK
  simp only [Act.put, List.setIfInBounds_toArray, List.set]
  refine wpG_do (i := 6) rfl (by kernel_rfl) rfl (fun K hK => ?_)
  have HK := Lib.hid hK
  clear hK
  refine wp_store_mid 56 (.tmp 5) (.tmp 27) rfl (w.heap.size + 1 + 1 + 1) 0 (bcells zb).toArray rfl rfl ht2 (by rw [Try.info56p]; simp [bcells_length, HBL.out]) (all_oneCell_toArray (bcells_one _)) ?_
  refine HK.out _ _ hA2 ?_
  clear HK
  simp only [Act.put, List.setIfInBounds_toArray, List.set]
  refine wpG_tail_lit (k := 7) rfl rfl (by kernel_rfl) ?_
  simp only [List.drop]
  refine (?_ : wpList _ _ _ _ _ ((w7.setCells (w.heap.size + 1 + 1) 0 [.slice (some ⟨g, 0, none⟩) arr.length c2, .slice none 0 0, .int .i64 o, .int .i64 (-1), .int .i64 (-1), .bool false]).setCells (w.heap.size + 1 + 1 + 1) 0 (bcells zb)))
  clear hA hA1 hA2 u1 u2 ht1 ht2
  generalize ((w7.setCells (w.heap.size + 1 + 1) 0 [.slice (some ⟨g, 0, none⟩) arr.length c2, .slice none 0 0, .int .i64 o, .int .i64 (-1), .int .i64 (-1), .bool false]).setCells (w.heap.size + 1 + 1 + 1) 0 (bcells zb)) = wf at *
  go_wp2
  refine says_fin HO1.out rfl HO2.out HBL.out rfl rfl ⟨g, c2, by omega, rfl, ?_, HO4.out⟩
  exact ownsRow_any HOO.out HO3.out (fun k hk e => by simp [Value.ownBlock] at hk; omega)

end Go.Proofs.Ytbimkhdiplnbfaa
end

section
namespace Go.Proofs.Ytbimkhdiplnbfaa
open Go.RowKit Go.Deep

set_option maxRecDepth 100000 in
set_option maxHeartbeats 4000000 in
theorem says_whya (k i n c : Int) (ka : Option Addr) (kn kc : Nat) (Aa Ra : Option Addr) (Ac Rc : Nat) (arr : List (List Int)) (R : List (Nat × List Int × Int)) (o ar fl : Int) (dd : Bool) (w : World) {κ : Int} (hκ : kindOf k = κ) (hκr : 0 ≤ κ ∧ κ < 9) (h5 : κ ≤ 5) (hAl : arr.length ≤ 2048) {no : Int} (HNO : RowKit.Hid (whyE dd arr.length i = no)) (hn0 : (no == 0) = false) :
    Calls Try.prog 45 #[callV k i n c ka kn kc, refV Aa arr.length Ac Ra R.length Rc o ar fl dd] w fun e w' => e = .returned (.tuple #[.agg #[.slice Aa arr.length Ac, .slice Ra R.length Rc, .int .i64 o, .int .i64 ar, .int .i64 fl, .bool dd], .agg (bcells zblk).toArray, .int .i64 no]) ∧ Upd (fun _ => False) w w' := by
  have h9 : (κ == 9) = false := by simp; omega
  have hn1 : (no != 0) = true := by simpa using hn0
  obtain ⟨zb, hzb⟩ : ∃ zb, zb = zblk := ⟨_, rfl⟩
  rw [← hzb]
  have HZB := Lib.hid hzb
  have HBL : RowKit.Hid (zb.length = 64) := Lib.hid (by rw [hzb]; simp [zblk])
  clear hzb
  unfold callV refV
  go_enter Try.func45, Try.ntmps45
  go_upto_region 2 with fail
  refine (?_ : Code.wp _ _ _ _ (((((w.alloc (.cells #[.int .i64 k, .int .i64 i, .int .i64 n, .int .u8 c, .slice ka kn kc] 51)).alloc (.cells #[.slice Aa arr.length Ac, .slice Ra R.length Rc, .int .i64 o, .int .i64 ar, .int .i64 fl, .bool dd] 69)).alloc (.cells #[.slice none 0 0, .slice none 0 0, .int .i64 0, .int .i64 0, .int .i64 0, .bool false] 69)).alloc (.cells (bcells zblk).toArray 56)).alloc (.cells (bcells zblk).toArray 56)))
  obtain ⟨w1, hw1⟩ : ∃ w1, w1 = (((((w.alloc (.cells #[.int .i64 k, .int .i64 i, .int .i64 n, .int .u8 c, .slice ka kn kc] 51)).alloc (.cells #[.slice Aa arr.length Ac, .slice Ra R.length Rc, .int .i64 o, .int .i64 ar, .int .i64 fl, .bool dd] 69)).alloc (.cells #[.slice none 0 0, .slice none 0 0, .int .i64 0, .int .i64 0, .int .i64 0, .bool false] 69)).alloc (.cells (bcells zblk).toArray 56)).alloc (.cells (bcells zblk).toArray 56)) := ⟨_, rfl⟩
  have hs : SBox w w1 k i n c ka kn kc [.slice Aa arr.length Ac, .slice Ra R.length Rc, .int .i64 o, .int .i64 ar, .int .i64 fl, .bool dd] zb := by rw [hw1, HZB.out]; exact SBox.start w k i n c ka kn kc [.slice Aa arr.length Ac, .slice Ra R.length Rc, .int .i64 o, .int .i64 ar, .int .i64 fl, .bool dd]
  rw [← hw1]
  clear hw1
  have HS1 := Lib.hid hs
  obtain ⟨x0, x1, x2, x3, x4⟩ := box_cells hs.x
  obtain ⟨d0, d1, d2, d3, d4, d5⟩ := cells6_of hs.d
  clear hs
  go_wp2_with fail
  refine (kind_run' hκ i n c ka kn kc _).mono ?_
  rintro e w2 ⟨rfl, hu⟩
  clear x0 x1 x2 x3 x4 d0 d1 d2 d3 d4 d5
  have hs := HS1.out.kept hu
  clear hu
  have HS2 := Lib.hid hs
  obtain ⟨x0, x1, x2, x3, x4⟩ := box_cells hs.x
  obtain ⟨d0, d1, d2, d3, d4, d5⟩ := cells6_of hs.d
  clear hs
  simp only []
  go_wp2_with fail
  refine (why_run' Aa arr.length Ac Ra R.length Rc o ar fl i dd _ hAl HNO).mono ?_
  rintro e w3 ⟨rfl, hu⟩
  clear x0 x1 x2 x3 x4 d0 d1 d2 d3 d4 d5
  have hs := HS2.out.kept hu
  clear hu
  have HS3 := Lib.hid hs
  obtain ⟨x0, x1, x2, x3, x4⟩ := box_cells hs.x
  obtain ⟨d0, d1, d2, d3, d4, d5⟩ := cells6_of hs.d
  clear hs
  simp only []
  go_wp2_with fail
  refine (kind_run' hκ i n c ka kn kc _).mono ?_
  rintro e w4 ⟨rfl, hu⟩
  clear x0 x1 x2 x3 x4 d0 d1 d2 d3 d4 d5
  have hs := HS3.out.kept hu
  clear hu
  have HS4 := Lib.hid hs
  obtain ⟨x0, x1, x2, x3, x4⟩ := box_cells hs.x
  obtain ⟨d0, d1, d2, d3, d4, d5⟩ := cells6_of hs.d
  clear hs
  simp only []
  go_upto_region 9 with fail
  have hA : SRd w w4.drew k i n c ka kn kc [.slice Aa arr.length Ac, .slice Ra R.length Rc, .int .i64 o, .int .i64 ar, .int .i64 fl, .bool dd] zb := (HS4.out.kept (Upd.refl _ w4).drew).rd
  clear x0 x1 x2 x3 x4 d0 d1 d2 d3 d4 d5
  refine wp_region_G 5 (fun W => SRd w W k i n c ka kn kc [.slice Aa arr.length Ac, .slice Ra R.length Rc, .int .i64 o, .int .i64 ar, .int .i64 fl, .bool dd] zb) [false, false, false, false, false, false] rfl (by kernel_rfl) ?_
  have HS5 := Lib.hid (HS4.out.kept (Upd.refl _ w4).drew)
  refine wpG_take (i := 0) (v := .agg [.slice Aa arr.length Ac, .slice Ra R.length Rc, .int .i64 o, .int .i64 ar, .int .i64 fl, .bool dd].toArray) rfl (by kernel_rfl) (fun _ _ _ h => h) hA (.inl ⟨rfl, fun w9 q1 => ?_⟩) ?_
  · exact run_load_mid' rfl rfl [.slice Aa arr.length Ac, .slice Ra R.length Rc, .int .i64 o, .int .i64 ar, .int .i64 fl, .bool dd] (rangeAt_block (b := w.heap.size + 1) (cs := [.slice Aa arr.length Ac, .slice Ra R.length Rc, .int .i64 o, .int .i64 ar, .int .i64 fl, .bool dd]) q1.d) Try.underlying69 rfl Try.size69q
  simp only [Act.put, List.setIfInBounds_toArray, List.set]
  refine wpG_take (i := 1) (v := .agg (bcells zb).toArray) rfl (by kernel_rfl) (fun _ _ _ h => h) hA (.inl ⟨rfl, fun w9 q1 => ?_⟩) ?_
  · exact run_load_mid' rfl rfl (bcells zb) (rangeAt_block (b := w.heap.size + 1 + 1 + 1 + 1) (cs := (bcells zb)) q1.v) Try.underlying56 rfl (by rw [Try.info56p, bcells_length, HBL.out])
  simp only [Act.put, List.setIfInBounds_toArray, List.set]
  refine wpG_take (i := 2) (v := .int .i64 no) rfl (by kernel_rfl) (fun _ _ _ h => h) hA (.inl ⟨rfl, fun w9 q1 => ?_⟩) ?_
  · go_simp
  simp only [Act.put, List.setIfInBounds_toArray, List.set]
  obtain ⟨o1, o2, o3, o4⟩ := HS5.out.out [.slice Aa arr.length Ac, .slice Ra R.length Rc, .int .i64 o, .int .i64 ar, .int .i64 fl, .bool dd] rfl zb HBL.out
  have HO1 := Lib.hid o1; have HO2 := Lib.hid o2; have HO3 := Lib.hid o3; have HO4 := Lib.hid o4
  have u1 : Upd (fun j => j = w.heap.size + 1 + 1 ∨ j = w.heap.size + 1 + 1 + 1) w4.drew (w4.drew.setCells (w.heap.size + 1 + 1) 0 [.slice Aa arr.length Ac, .slice Ra R.length Rc, .int .i64 o, .int .i64 ar, .int .i64 fl, .bool dd]) := (upd_setCells w4.drew (w.heap.size + 1 + 1) 0 [.slice Aa arr.length Ac, .slice Ra R.length Rc, .int .i64 o, .int .i64 ar, .int .i64 fl, .bool dd]).mono (fun j _ e => .inl e)
  have u2 : Upd (fun j => j = w.heap.size + 1 + 1 ∨ j = w.heap.size + 1 + 1 + 1) (w4.drew.setCells (w.heap.size + 1 + 1) 0 [.slice Aa arr.length Ac, .slice Ra R.length Rc, .int .i64 o, .int .i64 ar, .int .i64 fl, .bool dd]) ((w4.drew.setCells (w.heap.size + 1 + 1) 0 [.slice Aa arr.length Ac, .slice Ra R.length Rc, .int .i64 o, .int .i64 ar, .int .i64 fl, .bool dd]).setCells (w.heap.size + 1 + 1 + 1) 0 (bcells zb)) := (upd_setCells (w4.drew.setCells (w.heap.size + 1 + 1) 0 [.slice Aa arr.length Ac, .slice Ra R.length Rc, .int .i64 o, .int .i64 ar, .int .i64 fl, .bool dd]) (w.heap.size + 1 + 1 + 1) 0 (bcells zb)).mono (fun j _ e => .inr e)
  have hA1 := hA.off u1
  have hA2 := hA1.off u2
  have ht1 : w4.drew.there (w.heap.size + 1 + 1) 0 6 := there_block HS5.out.r
  have ht2 : (w4.drew.setCells (w.heap.size + 1 + 1) 0 [.slice Aa arr.length Ac, .slice Ra R.length Rc, .int .i64 o, .int .i64 ar, .int .i64 fl, .bool dd]).there (w.heap.size + 1 + 1 + 1) 0 (bcells zb).toArray.size := by
    have := there_block (((upd_setCells w4.drew (w.heap.size + 1 + 1) 0 [.slice Aa arr.length Ac, .slice Ra R.length Rc, .int .i64 o, .int .i64 ar, .int .i64 fl, .bool dd]).block _ (lt_of_heap HS5.out.b) (by omega)).trans HS5.out.b)
    rwa [show (bcells zblk).toArray.size = (bcells zb).toArray.size by simp [bcells_length, HBL.out, zblk]] at this
  clear o1 o2 o3 o4
  refine wpG_do (i := 3) rfl (by kernel_rfl) rfl (fun K hK => ?_)
  have HK := Lib.hid hK
  clear hK
  refine wp_store_mid 69 (.tmp 4) (.tmp 31) rfl (w.heap.size + 1 + 1) 0 [.slice Aa arr.length Ac, .slice Ra R.length Rc, .int .i64 o, .int .i64 ar, .int .i64 fl, .bool dd].toArray rfl rfl ht1 Try.size69q (by simp [Value.oneCell']) ?_
  refine HK.out _ _ hA1 ?_
  clear HK
  simp only [Act.put, List.setIfInBounds_toArray, List.set]
  refine wpG_do (i := 4) rfl (by kernel_rfl) rfl (fun K hK => ?_)
  have HK := Lib.hid hK
  clear hK
  refine wp_store_mid 56 (.tmp 5) (.tmp 32) rfl (w.heap.size + 1 + 1 + 1) 0 (bcells zb).toArray rfl rfl ht2 (by rw [Try.info56p]; simp [bcells_length, HBL.out]) (all_oneCell_toArray (bcells_one _)) ?_
  refine HK.out _ _ hA2 ?_
  clear HK
  simp only [Act.put, List.setIfInBounds_toArray, List.set]
  refine wpG_tail_lit (k := 5) rfl rfl (by kernel_rfl) ?_
  simp only [List.drop]
  refine (?_ : wpList _ _ _ _ _ ((w4.drew.setCells (w.heap.size + 1 + 1) 0 [.slice Aa arr.length Ac, .slice Ra R.length Rc, .int .i64 o, .int .i64 ar, .int .i64 fl, .bool dd]).setCells (w.heap.size + 1 + 1 + 1) 0 (bcells zb)))
  clear hA hA1 hA2 u1 u2 ht1 ht2
  generalize ((w4.drew.setCells (w.heap.size + 1 + 1) 0 [.slice Aa arr.length Ac, .slice Ra R.length Rc, .int .i64 o, .int .i64 ar, .int .i64 fl, .bool dd]).setCells (w.heap.size + 1 + 1 + 1) 0 (bcells zb)) = wf at *
  go_wp2
  exact says_fin HO1.out rfl HO2.out HBL.out rfl rfl ⟨rfl, HO4.out⟩

set_option maxRecDepth 100000 in
set_option maxHeartbeats 4000000 in
theorem says_whyb (k i n c : Int) (ka : Option Addr) (kn kc : Nat) (Aa Ra : Option Addr) (Ac Rc : Nat) (arr : List (List Int)) (R : List (Nat × List Int × Int)) (o ar fl : Int) (dd : Bool) (w : World) {κ : Int} (hκ : kindOf k = κ) (hκr : 0 ≤ κ ∧ κ < 9) (h5 : 5 < κ) (hAl : arr.length ≤ 2048) {no : Int} (HNO : RowKit.Hid (whyE dd arr.length 0 = no)) (hn0 : (no == 0) = false) :
    Calls Try.prog 45 #[callV k i n c ka kn kc, refV Aa arr.length Ac Ra R.length Rc o ar fl dd] w fun e w' => e = .returned (.tuple #[.agg #[.slice Aa arr.length Ac, .slice Ra R.length Rc, .int .i64 o, .int .i64 ar, .int .i64 fl, .bool dd], .agg (bcells zblk).toArray, .int .i64 no]) ∧ Upd (fun _ => False) w w' := by
  have h9 : (κ == 9) = false := by simp; omega
  have hn1 : (no != 0) = true := by simpa using hn0
  obtain ⟨zb, hzb⟩ : ∃ zb, zb = zblk := ⟨_, rfl⟩
  rw [← hzb]
  have HZB := Lib.hid hzb
  have HBL : RowKit.Hid (zb.length = 64) := Lib.hid (by rw [hzb]; simp [zblk])
  clear hzb
  unfold callV refV
  go_enter Try.func45, Try.ntmps45
  go_upto_region 2 with fail
  refine (?_ : Code.wp _ _ _ _ (((((w.alloc (.cells #[.int .i64 k, .int .i64 i, .int .i64 n, .int .u8 c, .slice ka kn kc] 51)).alloc (.cells #[.slice Aa arr.length Ac, .slice Ra R.length Rc, .int .i64 o, .int .i64 ar, .int .i64 fl, .bool dd] 69)).alloc (.cells #[.slice none 0 0, .slice none 0 0, .int .i64 0, .int .i64 0, .int .i64 0, .bool false] 69)).alloc (.cells (bcells zblk).toArray 56)).alloc (.cells (bcells zblk).toArray 56)))
  obtain ⟨w1, hw1⟩ : ∃ w1, w1 = (((((w.alloc (.cells #[.int .i64 k, .int .i64 i, .int .i64 n, .int .u8 c, .slice ka kn kc] 51)).alloc (.cells #[.slice Aa arr.length Ac, .slice Ra R.length Rc, .int .i64 o, .int .i64 ar, .int .i64 fl, .bool dd] 69)).alloc (.cells #[.slice none 0 0, .slice none 0 0, .int .i64 0, .int .i64 0, .int .i64 0, .bool false] 69)).alloc (.cells (bcells zblk).toArray 56)).alloc (.cells (bcells zblk).toArray 56)) := ⟨_, rfl⟩
  have hs : SBox w w1 k i n c ka kn kc [.slice Aa arr.length Ac, .slice Ra R.length Rc, .int .i64 o, .int .i64 ar, .int .i64 fl, .bool dd] zb := by rw [hw1, HZB.out]; exact SBox.start w k i n c ka kn kc [.slice Aa arr.length Ac, .slice Ra R.length Rc, .int .i64 o, .int .i64 ar, .int .i64 fl, .bool dd]
  rw [← hw1]
  clear hw1
  have HS1 := Lib.hid hs
  obtain ⟨x0, x1, x2, x3, x4⟩ := box_cells hs.x
  obtain ⟨d0, d1, d2, d3, d4, d5⟩ := cells6_of hs.d
  clear hs
  go_wp2_with fail
  refine (kind_run' hκ i n c ka kn kc _).mono ?_
  rintro e w2 ⟨rfl, hu⟩
  clear x0 x1 x2 x3 x4 d0 d1 d2 d3 d4 d5
  have hs := HS1.out.kept hu
  clear hu
  have HS2 := Lib.hid hs
  obtain ⟨x0, x1, x2, x3, x4⟩ := box_cells hs.x
  obtain ⟨d0, d1, d2, d3, d4, d5⟩ := cells6_of hs.d
  clear hs
  simp only []
  go_wp2_with fail
  refine (why_run' Aa arr.length Ac Ra R.length Rc o ar fl 0 dd _ hAl HNO).mono ?_
  rintro e w3 ⟨rfl, hu⟩
  clear x0 x1 x2 x3 x4 d0 d1 d2 d3 d4 d5
  have hs := HS2.out.kept hu
  clear hu
  have HS3 := Lib.hid hs
  obtain ⟨x0, x1, x2, x3, x4⟩ := box_cells hs.x
  obtain ⟨d0, d1, d2, d3, d4, d5⟩ := cells6_of hs.d
  clear hs
  simp only []
  go_wp2_with fail
  refine (kind_run' hκ i n c ka kn kc _).mono ?_
  rintro e w4 ⟨rfl, hu⟩
  clear x0 x1 x2 x3 x4 d0 d1 d2 d3 d4 d5
  have hs := HS3.out.kept hu
  clear hu
  have HS4 := Lib.hid hs
  obtain ⟨x0, x1, x2, x3, x4⟩ := box_cells hs.x
  obtain ⟨d0, d1, d2, d3, d4, d5⟩ := cells6_of hs.d
  clear hs
  simp only []
  go_upto_region 9 with fail
  have hA : SRd w w4.drew k i n c ka kn kc [.slice Aa arr.length Ac, .slice Ra R.length Rc, .int .i64 o, .int .i64 ar, .int .i64 fl, .bool dd] zb := (HS4.out.kept (Upd.refl _ w4).drew).rd
  clear x0 x1 x2 x3 x4 d0 d1 d2 d3 d4 d5
  refine wp_region_G 5 (fun W => SRd w W k i n c ka kn kc [.slice Aa arr.length Ac, .slice Ra R.length Rc, .int .i64 o, .int .i64 ar, .int .i64 fl, .bool dd] zb) [false, false, false, false, false, false] rfl (by kernel_rfl) ?_
  have HS5 := Lib.hid (HS4.out.kept (Upd.refl _ w4).drew)
  refine wpG_take (i := 0) (v := .agg [.slice Aa arr.length Ac, .slice Ra R.length Rc, .int .i64 o, .int .i64 ar, .int .i64 fl, .bool dd].toArray) rfl (by kernel_rfl) (fun _ _ _ h => h) hA (.inl ⟨rfl, fun w9 q1 => ?_⟩) ?_
  · exact run_load_mid' rfl rfl [.slice Aa arr.length Ac, .slice Ra R.length Rc, .int .i64 o, .int .i64 ar, .int .i64 fl, .bool dd] (rangeAt_block (b := w.heap.size + 1) (cs := [.slice Aa arr.length Ac, .slice Ra R.length Rc, .int .i64 o, .int .i64 ar, .int .i64 fl, .bool dd]) q1.d) Try.underlying69 rfl Try.size69q
  simp only [Act.put, List.setIfInBounds_toArray, List.set]
  refine wpG_take (i := 1) (v := .agg (bcells zb).toArray) rfl (by kernel_rfl) (fun _ _ _ h => h) hA (.inl ⟨rfl, fun w9 q1 => ?_⟩) ?_
  · exact run_load_mid' rfl rfl (bcells zb) (rangeAt_block (b := w.heap.size + 1 + 1 + 1 + 1) (cs := (bcells zb)) q1.v) Try.underlying56 rfl (by rw [Try.info56p, bcells_length, HBL.out])
  simp only [Act.put, List.setIfInBounds_toArray, List.set]
  refine wpG_take (i := 2) (v := .int .i64 no) rfl (by kernel_rfl) (fun _ _ _ h => h) hA (.inl ⟨rfl, fun w9 q1 => ?_⟩) ?_
  · go_simp
  simp only [Act.put, List.setIfInBounds_toArray, List.set]
  obtain ⟨o1, o2, o3, o4⟩ := HS5.out.out [.slice Aa arr.length Ac, .slice Ra R.length Rc, .int .i64 o, .int .i64 ar, .int .i64 fl, .bool dd] rfl zb HBL.out
  have HO1 := Lib.hid o1; have HO2 := Lib.hid o2; have HO3 := Lib.hid o3; have HO4 := Lib.hid o4
  have u1 : Upd (fun j => j = w.heap.size + 1 + 1 ∨ j = w.heap.size + 1 + 1 + 1) w4.drew (w4.drew.setCells (w.heap.size + 1 + 1) 0 [.slice Aa arr.length Ac, .slice Ra R.length Rc, .int .i64 o, .int .i64 ar, .int .i64 fl, .bool dd]) := (upd_setCells w4.drew (w.heap.size + 1 + 1) 0 [.slice Aa arr.length Ac, .slice Ra R.length Rc, .int .i64 o, .int .i64 ar, .int .i64 fl, .bool dd]).mono (fun j _ e => .inl e)
  have u2 : Upd (fun j => j = w.heap.size + 1 + 1 ∨ j = w.heap.size + 1 + 1 + 1) (w4.drew.setCells (w.heap.size + 1 + 1) 0 [.slice Aa arr.length Ac, .slice Ra R.length Rc, .int .i64 o, .int .i64 ar, .int .i64 fl, .bool dd]) ((w4.drew.setCells (w.heap.size + 1 + 1) 0 [.slice Aa arr.length Ac, .slice Ra R.length Rc, .int .i64 o, .int .i64 ar, .int .i64 fl, .bool dd]).setCells (w.heap.size + 1 + 1 + 1) 0 (bcells zb)) := (upd_setCells (w4.drew.setCells (w.heap.size + 1 + 1) 0 [.slice Aa arr.length Ac, .slice Ra R.length Rc, .int .i64 o, .int .i64 ar, .int .i64 fl, .bool dd]) (w.heap.size + 1 + 1 + 1) 0 (bcells zb)).mono (fun j _ e => .inr e)
  have hA1 := hA.off u1
  have hA2 := hA1.off u2
  have ht1 : w4.drew.there (w.heap.size + 1 + 1) 0 6 := there_block HS5.out.r
  have ht2 : (w4.drew.setCells (w.heap.size + 1 + 1) 0 [.slice Aa arr.length Ac, .slice Ra R.length Rc, .int .i64 o, .int .i64 ar, .int .i64 fl, .bool dd]).there (w.heap.size + 1 + 1 + 1) 0 (bcells zb).toArray.size := by
    have := there_block (((upd_setCells w4.drew (w.heap.size + 1 + 1) 0 [.slice Aa arr.length Ac, .slice Ra R.length Rc, .int .i64 o, .int .i64 ar, .int .i64 fl, .bool dd]).block _ (lt_of_heap HS5.out.b) (by omega)).trans HS5.out.b)
    rwa [show (bcells zblk).toArray.size = (bcells zb).toArray.size by simp [bcells_length, HBL.out, zblk]] at this
  clear o1 o2 o3 o4
  refine wpG_do (i := 3) rfl (by kernel_rfl) rfl (fun K hK => ?_)
  have HK := Lib.hid hK
  clear hK
  refine wp_store_mid 69 (.tmp 4) (.tmp 31) rfl (w.heap.size + 1 + 1) 0 [.slice Aa arr.length Ac, .slice Ra R.length Rc, .int .i64 o, .int .i64 ar, .int .i64 fl, .bool dd].toArray rfl rfl ht1 Try.size69q (by simp [Value.oneCell']) ?_
  refine HK.out _ _ hA1 ?_
  clear HK
  simp only [Act.put, List.setIfInBounds_toArray, List.set]
  refine wpG_do (i := 4) rfl (by kernel_rfl) rfl (fun K hK => ?_)
  have HK := Lib.hid hK
  clear hK
  refine wp_store_mid 56 (.tmp 5) (.tmp 32) rfl (w.heap.size + 1 + 1 + 1) 0 (bcells zb).toArray rfl rfl ht2 (by rw [Try.info56p]; simp [bcells_length, HBL.out]) (all_oneCell_toArray (bcells_one _)) ?_
  refine HK.out _ _ hA2 ?_
  clear HK
  simp only [Act.put, List.setIfInBounds_toArray, List.set]
  refine wpG_tail_lit (k := 5) rfl rfl (by kernel_rfl) ?_
  simp only [List.drop]
  refine (?_ : wpList _ _ _ _ _ ((w4.drew.setCells (w.heap.size + 1 + 1) 0 [.slice Aa arr.length Ac, .slice Ra R.length Rc, .int .i64 o, .int .i64 ar, .int .i64 fl, .bool dd]).setCells (w.heap.size + 1 + 1 + 1) 0 (bcells zb)))
  clear hA hA1 hA2 u1 u2 ht1 ht2
  generalize ((w4.drew.setCells (w.heap.size + 1 + 1) 0 [.slice Aa arr.length Ac, .slice Ra R.length Rc, .int .i64 o, .int .i64 ar, .int .i64 fl, .bool dd]).setCells (w.heap.size + 1 + 1 + 1) 0 (bcells zb)) = wf at *
  go_wp2
  exact says_fin HO1.out rfl HO2.out HBL.out rfl rfl ⟨rfl, HO4.out⟩

set_option maxRecDepth 100000 in
set_option maxHeartbeats 4000000 in
theorem says_arm (k i n c : Int) (ka : Option Addr) (kn kc : Nat) (Aa Ra : Option Addr) (Ac Rc : Nat) (arr : List (List Int)) (R : List (Nat × List Int × Int)) (o ar fl : Int) (dd : Bool) (w : World) (hκ : kindOf k = 7) (hAl : arr.length ≤ 2048) (HNO : RowKit.Hid (whyE dd arr.length 0 = 0)) :
    Calls Try.prog 45 #[callV k i n c ka kn kc, refV Aa arr.length Ac Ra R.length Rc o ar fl dd] w fun e w' => e = .returned (.tuple #[.agg #[.slice Aa arr.length Ac, .slice Ra R.length Rc, .int .i64 o, .int .i64 (max n (-1)), .int .i64 fl, .bool dd], .agg (bcells zblk).toArray, .int .i64 0]) ∧ Upd (fun _ => False) w w' := by
  obtain ⟨zb, hzb⟩ : ∃ zb, zb = zblk := ⟨_, rfl⟩
  rw [← hzb]
  have HZB := Lib.hid hzb
  have HBL : RowKit.Hid (zb.length = 64) := Lib.hid (by rw [hzb]; simp [zblk])
  clear hzb
  unfold callV refV
  go_enter Try.func45, Try.ntmps45
  go_upto_region 2 with fail
  refine (?_ : Code.wp _ _ _ _ (((((w.alloc (.cells #[.int .i64 k, .int .i64 i, .int .i64 n, .int .u8 c, .slice ka kn kc] 51)).alloc (.cells #[.slice Aa arr.length Ac, .slice Ra R.length Rc, .int .i64 o, .int .i64 ar, .int .i64 fl, .bool dd] 69)).alloc (.cells #[.slice none 0 0, .slice none 0 0, .int .i64 0, .int .i64 0, .int .i64 0, .bool false] 69)).alloc (.cells (bcells zblk).toArray 56)).alloc (.cells (bcells zblk).toArray 56)))
  obtain ⟨w1, hw1⟩ : ∃ w1, w1 = (((((w.alloc (.cells #[.int .i64 k, .int .i64 i, .int .i64 n, .int .u8 c, .slice ka kn kc] 51)).alloc (.cells #[.slice Aa arr.length Ac, .slice Ra R.length Rc, .int .i64 o, .int .i64 ar, .int .i64 fl, .bool dd] 69)).alloc (.cells #[.slice none 0 0, .slice none 0 0, .int .i64 0, .int .i64 0, .int .i64 0, .bool false] 69)).alloc (.cells (bcells zblk).toArray 56)).alloc (.cells (bcells zblk).toArray 56)) := ⟨_, rfl⟩
  have hs : SBox w w1 k i n c ka kn kc [.slice Aa arr.length Ac, .slice Ra R.length Rc, .int .i64 o, .int .i64 ar, .int .i64 fl, .bool dd] zb := by rw [hw1, HZB.out]; exact SBox.start w k i n c ka kn kc [.slice Aa arr.length Ac, .slice Ra R.length Rc, .int .i64 o, .int .i64 ar, .int .i64 fl, .bool dd]
  rw [← hw1]
  clear hw1
  have HS1 := Lib.hid hs
  obtain ⟨x0, x1, x2, x3, x4⟩ := box_cells hs.x
  obtain ⟨d0, d1, d2, d3, d4, d5⟩ := cells6_of hs.d
  clear hs
  go_wp2_with fail
  refine (kind_run' hκ i n c ka kn kc _).mono ?_
  rintro e w2 ⟨rfl, hu⟩
  clear x0 x1 x2 x3 x4 d0 d1 d2 d3 d4 d5
  have hs := HS1.out.kept hu
  clear hu
  have HS2 := Lib.hid hs
  obtain ⟨x0, x1, x2, x3, x4⟩ := box_cells hs.x
  obtain ⟨d0, d1, d2, d3, d4, d5⟩ := cells6_of hs.d
  clear hs
  simp only []
  go_wp2_with fail
  refine (why_run' Aa arr.length Ac Ra R.length Rc o ar fl 0 dd _ hAl HNO).mono ?_
  rintro e w3 ⟨rfl, hu⟩
  clear x0 x1 x2 x3 x4 d0 d1 d2 d3 d4 d5
  have hs := HS2.out.kept hu
  clear hu
  have HS3 := Lib.hid hs
  obtain ⟨x0, x1, x2, x3, x4⟩ := box_cells hs.x
  obtain ⟨d0, d1, d2, d3, d4, d5⟩ := cells6_of hs.d
  clear hs
  simp only []
  go_wp2_with fail
  refine (kind_run' hκ i n c ka kn kc _).mono ?_
  rintro e w4 ⟨rfl, hu⟩
  clear x0 x1 x2 x3 x4 d0 d1 d2 d3 d4 d5
  have hs := HS3.out.kept hu
  clear hu
  have HS4 := Lib.hid hs
  obtain ⟨x0, x1, x2, x3, x4⟩ := box_cells hs.x
  obtain ⟨d0, d1, d2, d3, d4, d5⟩ := cells6_of hs.d
  clear hs
  simp only []
  go_wp2_with fail
  refine (kind_run' hκ i n c ka kn kc _).mono ?_
  rintro e w5 ⟨rfl, hu⟩
  clear x0 x1 x2 x3 x4 d0 d1 d2 d3 d4 d5
  have hs := HS4.out.kept hu
  clear hu
  have HS5 := Lib.hid hs
  obtain ⟨x0, x1, x2, x3, x4⟩ := box_cells hs.x
  obtain ⟨d0, d1, d2, d3, d4, d5⟩ := cells6_of hs.d
  clear hs
  simp only []
  have fz : ∀ j, w5.frozen? ⟨w.heap.size + 1, j, none⟩ = false := fun j => frozen_of_heap HS5.out.d
  go_upto_region 12 with fail
  have hs := HS5.out.setN 3 (.int .i64 (max n (-1)))
  simp only [List.set] at hs
  refine (?_ : Code.wp _ _ _ _ (w5.setCell ⟨w.heap.size + 1, 3, none⟩ (.int .i64 (max n (-1)))))
  clear fz x0 x1 x2 x3 x4 d0 d1 d2 d3 d4 d5
  generalize (w5.setCell ⟨w.heap.size + 1, 3, none⟩ (.int .i64 (max n (-1)))) = w6 at *
  have HS6 := Lib.hid hs
  obtain ⟨x0, x1, x2, x3, x4⟩ := box_cells hs.x
  obtain ⟨d0, d1, d2, d3, d4, d5⟩ := cells6_of hs.d
  clear hs
  go_upto_region 12 with fail
  have hA : SRd w w6.drew k i n c ka kn kc [.slice Aa arr.length Ac, .slice Ra R.length Rc, .int .i64 o, .int .i64 (max n (-1)), .int .i64 fl, .bool dd] zb := (HS6.out.kept (Upd.refl _ w6).drew).rd
  clear x0 x1 x2 x3 x4 d0 d1 d2 d3 d4 d5
  refine wp_region_G 4 (fun W => SRd w W k i n c ka kn kc [.slice Aa arr.length Ac, .slice Ra R.length Rc, .int .i64 o, .int .i64 (max n (-1)), .int .i64 fl, .bool dd] zb) [false, false, false, false, false] rfl (by kernel_rfl) ?_
  have HS7 := Lib.hid (HS6.out.kept (Upd.refl _ w6).drew)
  refine wpG_take (i := 0) (v := .agg [.slice Aa arr.length Ac, .slice Ra R.length Rc, .int .i64 o, .int .i64 (max n (-1)), .int .i64 fl, .bool dd].toArray) rfl (by kernel_rfl) (fun _ _ _ h => h) hA (.inl ⟨rfl, fun w9 q1 => ?_⟩) ?_
  · exact run_load_mid' rfl rfl [.slice Aa arr.length Ac, .slice Ra R.length Rc, .int .i64 o, .int .i64 (max n (-1)), .int .i64 fl, .bool dd] (rangeAt_block (b := w.heap.size + 1) (cs := [.slice Aa arr.length Ac, .slice Ra R.length Rc, .int .i64 o, .int .i64 (max n (-1)), .int .i64 fl, .bool dd]) q1.d) Try.underlying69 rfl Try.size69q
  simp only [Act.put, List.setIfInBounds_toArray, List.set]
  refine wpG_take (i := 1) (v := .agg (bcells zb).toArray) rfl (by kernel_rfl) (fun _ _ _ h => h) hA (.inl ⟨rfl, fun w9 q1 => ?_⟩) ?_
  · exact run_load_mid' rfl rfl (bcells zb) (rangeAt_block (b := w.heap.size + 1 + 1 + 1 + 1) (cs := (bcells zb)) q1.v) Try.underlying56 rfl (by rw [Try.info56p, bcells_length, HBL.out])
  simp only [Act.put, List.setIfInBounds_toArray, List.set]
  obtain ⟨o1, o2, o3, o4⟩ := HS7.out.out [.slice Aa arr.length Ac, .slice Ra R.length Rc, .int .i64 o, .int .i64 (max n (-1)), .int .i64 fl, .bool dd] rfl zb HBL.out
  have HO1 := Lib.hid o1; have HO2 := Lib.hid o2; have HO3 := Lib.hid o3; have HO4 := Lib.hid o4
  have u1 : Upd (fun j => j = w.heap.size + 1 + 1 ∨ j = w.heap.size + 1 + 1 + 1) w6.drew (w6.drew.setCells (w.heap.size + 1 + 1) 0 [.slice Aa arr.length Ac, .slice Ra R.length Rc, .int .i64 o, .int .i64 (max n (-1)), .int .i64 fl, .bool dd]) := (upd_setCells w6.drew (w.heap.size + 1 + 1) 0 [.slice Aa arr.length Ac, .slice Ra R.length Rc, .int .i64 o, .int .i64 (max n (-1)), .int .i64 fl, .bool dd]).mono (fun j _ e => .inl e)
  have u2 : Upd (fun j => j = w.heap.size + 1 + 1 ∨ j = w.heap.size + 1 + 1 + 1) (w6.drew.setCells (w.heap.size + 1 + 1) 0 [.slice Aa arr.length Ac, .slice Ra R.length Rc, .int .i64 o, .int .i64 (max n (-1)), .int .i64 fl, .bool dd]) ((w6.drew.setCells (w.heap.size + 1 + 1) 0 [.slice Aa arr.length Ac, .slice Ra R.length Rc, .int .i64 o, .int .i64 (max n (-1)), .int .i64 fl, .bool dd]).setCells (w.heap.size + 1 + 1 + 1) 0 (bcells zb)) := (upd_setCells (w6.drew.setCells (w.heap.size + 1 + 1) 0 [.slice Aa arr.length Ac, .slice Ra R.length Rc, .int .i64 o, .int .i64 (max n (-1)), .int .i64 fl, .bool dd]) (w.heap.size + 1 + 1 + 1) 0 (bcells zb)).mono (fun j _ e => .inr e)
  have hA1 := hA.off u1
  have hA2 := hA1.off u2
  have ht1 : w6.drew.there (w.heap.size + 1 + 1) 0 6 := there_block HS7.out.r
  have ht2 : (w6.drew.setCells (w.heap.size + 1 + 1) 0 [.slice Aa arr.length Ac, .slice Ra R.length Rc, .int .i64 o, .int .i64 (max n (-1)), .int .i64 fl, .bool dd]).there (w.heap.size + 1 + 1 + 1) 0 (bcells zb).toArray.size := by
    have := there_block (((upd_setCells w6.drew (w.heap.size + 1 + 1) 0 [.slice Aa arr.length Ac, .slice Ra R.length Rc, .int .i64 o, .int .i64 (max n (-1)), .int .i64 fl, .bool dd]).block _ (lt_of_heap HS7.out.b) (by omega)).trans HS7.out.b)
    rwa [show (bcells zblk).toArray.size = (bcells zb).toArray.size by simp [bcells_length, HBL.out, zblk]] at this
  clear o1 o2 o3 o4
  refine wpG_do (i := 2) rfl (by kernel_rfl) rfl (fun K hK => ?_)
  have HK := Lib.hid hK
  clear hK
  refine wp_store_mid 69 (.tmp 4) (.tmp 42) rfl (w.heap.size + 1 + 1) 0 [.slice Aa arr.length Ac, .slice Ra R.length Rc, .int .i64 o, .int .i64 (max n (-1)), .int .i64 fl, .bool dd].toArray rfl rfl ht1 Try.size69q (by simp [Value.oneCell']) ?_
  refine HK.out _ _ hA1 ?_
  clear HK
  simp only [Act.put, List.setIfInBounds_toArray, List.set]
  refine wpG_do (i := 3) rfl (by kernel_rfl) rfl (fun K hK => ?_)
  have HK := Lib.hid hK
  clear hK
  refine wp_store_mid 56 (.tmp 5) (.tmp 43) rfl (w.heap.size + 1 + 1 + 1) 0 (bcells zb).toArray rfl rfl ht2 (by rw [Try.info56p]; simp [bcells_length, HBL.out]) (all_oneCell_toArray (bcells_one _)) ?_
  refine HK.out _ _ hA2 ?_
  clear HK
  simp only [Act.put, List.setIfInBounds_toArray, List.set]
  refine wpG_tail_lit (k := 4) rfl rfl (by kernel_rfl) ?_
  simp only [List.drop]
  refine (?_ : wpList _ _ _ _ _ ((w6.drew.setCells (w.heap.size + 1 + 1) 0 [.slice Aa arr.length Ac, .slice Ra R.length Rc, .int .i64 o, .int .i64 (max n (-1)), .int .i64 fl, .bool dd]).setCells (w.heap.size + 1 + 1 + 1) 0 (bcells zb)))
  clear hA hA1 hA2 u1 u2 ht1 ht2
  generalize ((w6.drew.setCells (w.heap.size + 1 + 1) 0 [.slice Aa arr.length Ac, .slice Ra R.length Rc, .int .i64 o, .int .i64 (max n (-1)), .int .i64 fl, .bool dd]).setCells (w.heap.size + 1 + 1 + 1) 0 (bcells zb)) = wf at *
  go_wp2
  exact says_fin HO1.out rfl HO2.out HBL.out rfl rfl ⟨rfl, HO4.out⟩

set_option maxRecDepth 100000 in
set_option maxHeartbeats 4000000 in
theorem says_fail (k i n c : Int) (ka : Option Addr) (kn kc : Nat) (Aa Ra : Option Addr) (Ac Rc : Nat) (arr : List (List Int)) (R : List (Nat × List Int × Int)) (o ar fl : Int) (dd : Bool) (w : World) (hκ : kindOf k = 8) (hAl : arr.length ≤ 2048) (HNO : RowKit.Hid (whyE dd arr.length 0 = 0)) :
    Calls Try.prog 45 #[callV k i n c ka kn kc, refV Aa arr.length Ac Ra R.length Rc o ar fl dd] w fun e w' => e = .returned (.tuple #[.agg #[.slice Aa arr.length Ac, .slice Ra R.length Rc, .int .i64 o, .int .i64 ar, .int .i64 (max n (-1)), .bool dd], .agg (bcells zblk).toArray, .int .i64 0]) ∧ Upd (fun _ => False) w w' := by
  obtain ⟨zb, hzb⟩ : ∃ zb, zb = zblk := ⟨_, rfl⟩
  rw [← hzb]
  have HZB := Lib.hid hzb
  have HBL : RowKit.Hid (zb.length = 64) := Lib.hid (by rw [hzb]; simp [zblk])
  clear hzb
  unfold callV refV
  go_enter Try.func45, Try.ntmps45
  go_upto_region 2 with fail
  refine (?_ : Code.wp _ _ _ _ (((((w.alloc (.cells #[.int .i64 k, .int .i64 i, .int .i64 n, .int .u8 c, .slice ka kn kc] 51)).alloc (.cells #[.slice Aa arr.length Ac, .slice Ra R.length Rc, .int .i64 o, .int .i64 ar, .int .i64 fl, .bool dd] 69)).alloc (.cells #[.slice none 0 0, .slice none 0 0, .int .i64 0, .int .i64 0, .int .i64 0, .bool false] 69)).alloc (.cells (bcells zblk).toArray 56)).alloc (.cells (bcells zblk).toArray 56)))
  obtain ⟨w1, hw1⟩ : ∃ w1, w1 = (((((w.alloc (.cells #[.int .i64 k, .int .i64 i, .int .i64 n, .int .u8 c, .slice ka kn kc] 51)).alloc (.cells #[.slice Aa arr.length Ac, .slice Ra R.length Rc, .int .i64 o, .int .i64 ar, .int .i64 fl, .bool dd] 69)).alloc (.cells #[.slice none 0 0, .slice none 0 0, .int .i64 0, .int .i64 0, .int .i64 0, .bool false] 69)).alloc (.cells (bcells zblk).toArray 56)).alloc (.cells (bcells zblk).toArray 56)) := ⟨_, rfl⟩
  have hs : SBox w w1 k i n c ka kn kc [.slice Aa arr.length Ac, .slice Ra R.length Rc, .int .i64 o, .int .i64 ar, .int .i64 fl, .bool dd] zb := by rw [hw1, HZB.out]; exact SBox.start w k i n c ka kn kc [.slice Aa arr.length Ac, .slice Ra R.length Rc, .int .i64 o, .int .i64 ar, .int .i64 fl, .bool dd]
  rw [← hw1]
  clear hw1
  have HS1 := Lib.hid hs
  obtain ⟨x0, x1, x2, x3, x4⟩ := box_cells hs.x
  obtain ⟨d0, d1, d2, d3, d4, d5⟩ := cells6_of hs.d
  clear hs
  go_wp2_with fail
  refine (kind_run' hκ i n c ka kn kc _).mono ?_
  rintro e w2 ⟨rfl, hu⟩
  clear x0 x1 x2 x3 x4 d0 d1 d2 d3 d4 d5
  have hs := HS1.out.kept hu
  clear hu
  have HS2 := Lib.hid hs
  obtain ⟨x0, x1, x2, x3, x4⟩ := box_cells hs.x
  obtain ⟨d0, d1, d2, d3, d4, d5⟩ := cells6_of hs.d
  clear hs
  simp only []
  go_wp2_with fail
  refine (why_run' Aa arr.length Ac Ra R.length Rc o ar fl 0 dd _ hAl HNO).mono ?_
  rintro e w3 ⟨rfl, hu⟩
  clear x0 x1 x2 x3 x4 d0 d1 d2 d3 d4 d5
  have hs := HS2.out.kept hu
  clear hu
  have HS3 := Lib.hid hs
  obtain ⟨x0, x1, x2, x3, x4⟩ := box_cells hs.x
  obtain ⟨d0, d1, d2, d3, d4, d5⟩ := cells6_of hs.d
  clear hs
  simp only []
  go_wp2_with fail
  refine (kind_run' hκ i n c ka kn kc _).mono ?_
  rintro e w4 ⟨rfl, hu⟩
  clear x0 x1 x2 x3 x4 d0 d1 d2 d3 d4 d5
  have hs := HS3.out.kept hu
  clear hu
  have HS4 := Lib.hid hs
  obtain ⟨x0, x1, x2, x3, x4⟩ := box_cells hs.x
  obtain ⟨d0, d1, d2, d3, d4, d5⟩ := cells6_of hs.d
  clear hs
  simp only []
  go_wp2_with fail
  refine (kind_run' hκ i n c ka kn kc _).mono ?_
  rintro e w5 ⟨rfl, hu⟩
  clear x0 x1 x2 x3 x4 d0 d1 d2 d3 d4 d5
  have hs := HS4.out.kept hu
  clear hu
  have HS5 := Lib.hid hs
  obtain ⟨x0, x1, x2, x3, x4⟩ := box_cells hs.x
  obtain ⟨d0, d1, d2, d3, d4, d5⟩ := cells6_of hs.d
  clear hs
  simp only []
  go_wp2_with fail
  refine (kind_run' hκ i n c ka kn kc _).mono ?_
  rintro e w6 ⟨rfl, hu⟩
  clear x0 x1 x2 x3 x4 d0 d1 d2 d3 d4 d5
  have hs := HS5.out.kept hu
  clear hu
  have HS6 := Lib.hid hs
  obtain ⟨x0, x1, x2, x3, x4⟩ := box_cells hs.x
  obtain ⟨d0, d1, d2, d3, d4, d5⟩ := cells6_of hs.d
  clear hs
  simp only []
  have fz : ∀ j, w6.frozen? ⟨w.heap.size + 1, j, none⟩ = false := fun j => frozen_of_heap HS6.out.d
  go_upto_region 15 with fail
  have hs := HS6.out.setN 4 (.int .i64 (max n (-1)))
  simp only [List.set] at hs
  refine (?_ : Code.wp _ _ _ _ (w6.setCell ⟨w.heap.size + 1, 4, none⟩ (.int .i64 (max n (-1)))))
  clear fz x0 x1 x2 x3 x4 d0 d1 d2 d3 d4 d5
  generalize (w6.setCell ⟨w.heap.size + 1, 4, none⟩ (.int .i64 (max n (-1)))) = w7 at *
  have HS7 := Lib.hid hs
  obtain ⟨x0, x1, x2, x3, x4⟩ := box_cells hs.x
  obtain ⟨d0, d1, d2, d3, d4, d5⟩ := cells6_of hs.d
  clear hs
  go_upto_region 15 with fail
  have hA : SRd w w7.drew k i n c ka kn kc [.slice Aa arr.length Ac, .slice Ra R.length Rc, .int .i64 o, .int .i64 ar, .int .i64 (max n (-1)), .bool dd] zb := (HS7.out.kept (Upd.refl _ w7).drew).rd
  clear x0 x1 x2 x3 x4 d0 d1 d2 d3 d4 d5
  refine wp_region_G 4 (fun W => SRd w W k i n c ka kn kc [.slice Aa arr.length Ac, .slice Ra R.length Rc, .int .i64 o, .int .i64 ar, .int .i64 (max n (-1)), .bool dd] zb) [false, false, false, false, false] rfl (by kernel_rfl) ?_
  have HS8 := Lib.hid (HS7.out.kept (Upd.refl _ w7).drew)
  refine wpG_take (i := 0) (v := .agg [.slice Aa arr.length Ac, .slice Ra R.length Rc, .int .i64 o, .int .i64 ar, .int .i64 (max n (-1)), .bool dd].toArray) rfl (by kernel_rfl) (fun _ _ _ h => h) hA (.inl ⟨rfl, fun w9 q1 => ?_⟩) ?_
  · exact run_load_mid' rfl rfl [.slice Aa arr.length Ac, .slice Ra R.length Rc, .int .i64 o, .int .i64 ar, .int .i64 (max n (-1)), .bool dd] (rangeAt_block (b := w.heap.size + 1) (cs := [.slice Aa arr.length Ac, .slice Ra R.length Rc, .int .i64 o, .int .i64 ar, .int .i64 (max n (-1)), .bool dd]) q1.d) Try.underlying69 rfl Try.size69q
  simp only [Act.put, List.setIfInBounds_toArray, List.set]
  refine wpG_take (i := 1) (v := .agg (bcells zb).toArray) rfl (by kernel_rfl) (fun _ _ _ h => h) hA (.inl ⟨rfl, fun w9 q1 => ?_⟩) ?_
  · exact run_load_mid' rfl rfl (bcells zb) (rangeAt_block (b := w.heap.size + 1 + 1 + 1 + 1) (cs := (bcells zb)) q1.v) Try.underlying56 rfl (by rw [Try.info56p, bcells_length, HBL.out])
  simp only [Act.put, List.setIfInBounds_toArray, List.set]
  obtain ⟨o1, o2, o3, o4⟩ := HS8.out.out [.slice Aa arr.length Ac, .slice Ra R.length Rc, .int .i64 o, .int .i64 ar, .int .i64 (max n (-1)), .bool dd] rfl zb HBL.out
  have HO1 := Lib.hid o1; have HO2 := Lib.hid o2; have HO3 := Lib.hid o3; have HO4 := Lib.hid o4
  have u1 : Upd (fun j => j = w.heap.size + 1 + 1 ∨ j = w.heap.size + 1 + 1 + 1) w7.drew (w7.drew.setCells (w.heap.size + 1 + 1) 0 [.slice Aa arr.length Ac, .slice Ra R.length Rc, .int .i64 o, .int .i64 ar, .int .i64 (max n (-1)), .bool dd]) := (upd_setCells w7.drew (w.heap.size + 1 + 1) 0 [.slice Aa arr.length Ac, .slice Ra R.length Rc, .int .i64 o, .int .i64 ar, .int .i64 (max n (-1)), .bool dd]).mono (fun j _ e => .inl e)
  have u2 : Upd (fun j => j = w.heap.size + 1 + 1 ∨ j = w.heap.size + 1 + 1 + 1) (w7.drew.setCells (w.heap.size + 1 + 1) 0 [.slice Aa arr.length Ac, .slice Ra R.length Rc, .int .i64 o, .int .i64 ar, .int .i64 (max n (-1)), .bool dd]) ((w7.drew.setCells (w.heap.size + 1 + 1) 0 [.slice Aa arr.length Ac, .slice Ra R.length Rc, .int .i64 o, .int .i64 ar, .int .i64 (max n (-1)), .bool dd]).setCells (w.heap.size + 1 + 1 + 1) 0 (bcells zb)) := (upd_setCells (w7.drew.setCells (w.heap.size + 1 + 1) 0 [.slice Aa arr.length Ac, .slice Ra R.length Rc, .int .i64 o, .int .i64 ar, .int .i64 (max n (-1)), .bool dd]) (w.heap.size + 1 + 1 + 1) 0 (bcells zb)).mono (fun j _ e => .inr e)
  have hA1 := hA.off u1
  have hA2 := hA1.off u2
  have ht1 : w7.drew.there (w.heap.size + 1 + 1) 0 6 := there_block HS8.out.r
  have ht2 : (w7.drew.setCells (w.heap.size + 1 + 1) 0 [.slice Aa arr.length Ac, .slice Ra R.length Rc, .int .i64 o, .int .i64 ar, .int .i64 (max n (-1)), .bool dd]).there (w.heap.size + 1 + 1 + 1) 0 (bcells zb).toArray.size := by
    have := there_block (((upd_setCells w7.drew (w.heap.size + 1 + 1) 0 [.slice Aa arr.length Ac, .slice Ra R.length Rc, .int .i64 o, .int .i64 ar, .int .i64 (max n (-1)), .bool dd]).block _ (lt_of_heap HS8.out.b) (by omega)).trans HS8.out.b)
    rwa [show (bcells zblk).toArray.size = (bcells zb).toArray.size by simp [bcells_length, HBL.out, zblk]] at this
  clear o1 o2 o3 o4
  refine wpG_do (i := 2) rfl (by kernel_rfl) rfl (fun K hK => ?_)
  have HK := Lib.hid hK
  clear hK
  refine wp_store_mid 69 (.tmp 4) (.tmp 52) rfl (w.heap.size + 1 + 1) 0 [.slice Aa arr.length Ac, .slice Ra R.length Rc, .int .i64 o, .int .i64 ar, .int .i64 (max n (-1)), .bool dd].toArray rfl rfl ht1 Try.size69q (by simp [Value.oneCell']) ?_
  refine HK.out _ _ hA1 ?_
  clear HK
  simp only [Act.put, List.setIfInBounds_toArray, List.set]
  refine wpG_do (i := 3) rfl (by kernel_rfl) rfl (fun K hK => ?_)
  have HK := Lib.hid hK
  clear hK
  refine wp_store_mid 56 (.tmp 5) (.tmp 53) rfl (w.heap.size + 1 + 1 + 1) 0 (bcells zb).toArray rfl rfl ht2 (by rw [Try.info56p]; simp [bcells_length, HBL.out]) (all_oneCell_toArray (bcells_one _)) ?_
  refine HK.out _ _ hA2 ?_
  clear HK
  simp only [Act.put, List.setIfInBounds_toArray, List.set]
  refine wpG_tail_lit (k := 4) rfl rfl (by kernel_rfl) ?_
  simp only [List.drop]
  refine (?_ : wpList _ _ _ _ _ ((w7.drew.setCells (w.heap.size + 1 + 1) 0 [.slice Aa arr.length Ac, .slice Ra R.length Rc, .int .i64 o, .int .i64 ar, .int .i64 (max n (-1)), .bool dd]).setCells (w.heap.size + 1 + 1 + 1) 0 (bcells zb)))
  clear hA hA1 hA2 u1 u2 ht1 ht2
  generalize ((w7.drew.setCells (w.heap.size + 1 + 1) 0 [.slice Aa arr.length Ac, .slice Ra R.length Rc, .int .i64 o, .int .i64 ar, .int .i64 (max n (-1)), .bool dd]).setCells (w.heap.size + 1 + 1 + 1) 0 (bcells zb)) = wf at *
  go_wp2
  exact says_fin HO1.out rfl HO2.out HBL.out rfl rfl ⟨rfl, HO4.out⟩


end Go.Proofs.Ytbimkhdiplnbfaa
end

section
namespace Go.Proofs.Ytbimkhdiplnbfaa
open Go.RowKit Go.Deep

set_option maxRecDepth 100000 in
set_option maxHeartbeats 4000000 in
theorem says_send (k n c : Int) (j : Nat) (ka : Option Addr) (kn kc : Nat) (Aa Ra : Option Addr) (Ac Rc : Nat) (arr : List (List Int)) (R : List (Nat × List Int × Int)) (o ar fl : Int) (dd : Bool) (w : World) {κ : Int} (hκ : kindOf k = κ) (hκr : 0 ≤ κ ∧ κ < 5) (hA0 : ArrS w Aa Ac arr) (hR : RowR w Ra Rc R) (hl : ∀ x ∈ R, x.2.1.length = 64) (hal : ∀ b ∈ arr, b.length = 64) (hRl : R.length ≤ 1000000) (hAl : 1 ≤ arr.length ∧ arr.length ≤ 2048) (HNO : RowKit.Hid (whyE dd arr.length (j : Int) = 0)) (ho : 0 ≤ o ∧ o ≤ 1000000) (ha : -1 ≤ ar ∧ ar ≤ 9223372036854775807) (hf : -1 ≤ fl ∧ fl ≤ 9223372036854775807) (nth : Int) {o1 a1 f1 E : Int} {d1 : Bool}
    (HM : RowKit.Hid (MeetsAs true o ar fl dd o1 a1 f1 E d1)) (hE : (E != 8) = true) :
    Calls Try.prog 45 #[callV k (j : Int) n c ka kn kc, refV Aa arr.length Ac Ra R.length Rc o ar fl dd] w fun e w' => ∃ g c', w.heap.size ≤ g ∧ e = .returned (.tuple #[.agg #[.slice Aa arr.length Ac, .slice (some ⟨g, 0, none⟩) (R.length + 1) c', .int .i64 o1, .int .i64 a1, .int .i64 f1, .bool d1], .agg (bcells zblk).toArray, .int .i64 E]) ∧ RowR w' (some ⟨g, 0, none⟩) c' (R ++ [(j, fill c, nth)]) ∧ Upd (fun _ => False) w w' := by
  have HA := Lib.hid hA0; have HR := Lib.hid hR; have HL := Lib.hid hl; have HAL := Lib.hid hal
  clear hA0 hR hl hal
  obtain ⟨zb, hzb⟩ : ∃ zb, zb = zblk := ⟨_, rfl⟩
  try rw [← hzb]
  have HZB := Lib.hid hzb
  have HBL : RowKit.Hid (zb.length = 64) := Lib.hid (by rw [hzb]; simp [zblk])
  clear hzb
  unfold callV refV
  have n5 : ¬ 5 < κ := by omega
  have n9 : (κ == 9) = false := by simp; omega
  have n7 : (κ == 7) = false := by simp; omega
  have n8 : (κ == 8) = false := by simp; omega
  have m5 : (κ != 5) = true := by simp; omega
  have l5 : κ < 5 := hκr.2
  go_enter Try.func45, Try.ntmps45
  go_upto_region 2 with fail
  refine (?_ : Code.wp _ _ _ _ (((((w.alloc (.cells #[.int .i64 k, .int .i64 (j : Int), .int .i64 n, .int .u8 c, .slice ka kn kc] 51)).alloc (.cells #[.slice Aa arr.length Ac, .slice Ra R.length Rc, .int .i64 o, .int .i64 ar, .int .i64 fl, .bool dd] 69)).alloc (.cells #[.slice none 0 0, .slice none 0 0, .int .i64 0, .int .i64 0, .int .i64 0, .bool false] 69)).alloc (.cells (bcells zblk).toArray 56)).alloc (.cells (bcells zblk).toArray 56)))
  obtain ⟨w1, hw1⟩ : ∃ w1, w1 = (((((w.alloc (.cells #[.int .i64 k, .int .i64 (j : Int), .int .i64 n, .int .u8 c, .slice ka kn kc] 51)).alloc (.cells #[.slice Aa arr.length Ac, .slice Ra R.length Rc, .int .i64 o, .int .i64 ar, .int .i64 fl, .bool dd] 69)).alloc (.cells #[.slice none 0 0, .slice none 0 0, .int .i64 0, .int .i64 0, .int .i64 0, .bool false] 69)).alloc (.cells (bcells zblk).toArray 56)).alloc (.cells (bcells zblk).toArray 56)) := ⟨_, rfl⟩
  have hs : SBox w w1 k (j : Int) n c ka kn kc [.slice Aa arr.length Ac, .slice Ra R.length Rc, .int .i64 o, .int .i64 ar, .int .i64 fl, .bool dd] zb := by rw [hw1, HZB.out]; exact SBox.start w k (j : Int) n c ka kn kc [.slice Aa arr.length Ac, .slice Ra R.length Rc, .int .i64 o, .int .i64 ar, .int .i64 fl, .bool dd]
  rw [← hw1]
  clear hw1
  have HS1 := Lib.hid hs
  obtain ⟨x0, x1, x2, x3, x4⟩ := box_cells hs.x
  obtain ⟨y0, y1, y2, y3, y4, y5⟩ := cells6_of hs.d
  clear hs
  go_wp2_with fail
  refine (kind_run' hκ (j : Int) n c ka kn kc _).mono ?_
  rintro e w2 ⟨rfl, hu⟩
  clear x0 x1 x2 x3 x4 y0 y1 y2 y3 y4 y5
  have hs := HS1.out.kept hu
  clear hu
  have HS2 := Lib.hid hs
  obtain ⟨x0, x1, x2, x3, x4⟩ := box_cells hs.x
  obtain ⟨y0, y1, y2, y3, y4, y5⟩ := cells6_of hs.d
  clear hs
  simp only []
  go_wp2_with fail
  refine (why_run' Aa arr.length Ac Ra R.length Rc o ar fl (j : Int) dd _ hAl.2 HNO).mono ?_
  rintro e w3 ⟨rfl, hu⟩
  clear x0 x1 x2 x3 x4 y0 y1 y2 y3 y4 y5
  have hs := HS2.out.kept hu
  clear hu
  have HS3 := Lib.hid hs
  obtain ⟨x0, x1, x2, x3, x4⟩ := box_cells hs.x
  obtain ⟨y0, y1, y2, y3, y4, y5⟩ := cells6_of hs.d
  clear hs
  simp only []
  go_wp2_with fail
  refine (kind_run' hκ (j : Int) n c ka kn kc _).mono ?_
  rintro e w4 ⟨rfl, hu⟩
  clear x0 x1 x2 x3 x4 y0 y1 y2 y3 y4 y5
  have hs := HS3.out.kept hu
  clear hu
  have HS4 := Lib.hid hs
  obtain ⟨x0, x1, x2, x3, x4⟩ := box_cells hs.x
  obtain ⟨y0, y1, y2, y3, y4, y5⟩ := cells6_of hs.d
  clear hs
  simp only []
  go_wp2_with fail
  refine (kind_run' hκ (j : Int) n c ka kn kc _).mono ?_
  rintro e w5 ⟨rfl, hu⟩
  clear x0 x1 x2 x3 x4 y0 y1 y2 y3 y4 y5
  have hs := HS4.out.kept hu
  clear hu
  have HS5 := Lib.hid hs
  obtain ⟨x0, x1, x2, x3, x4⟩ := box_cells hs.x
  obtain ⟨y0, y1, y2, y3, y4, y5⟩ := cells6_of hs.d
  clear hs
  simp only []
  go_wp2_with fail
  refine (kind_run' hκ (j : Int) n c ka kn kc _).mono ?_
  rintro e w6 ⟨rfl, hu⟩
  clear x0 x1 x2 x3 x4 y0 y1 y2 y3 y4 y5
  have hs := HS5.out.kept hu
  clear hu
  have HS6 := Lib.hid hs
  obtain ⟨x0, x1, x2, x3, x4⟩ := box_cells hs.x
  obtain ⟨y0, y1, y2, y3, y4, y5⟩ := cells6_of hs.d
  clear hs
  simp only []
  go_upto_region 16 with fail
  have hA : SRd w w6.drew k (j : Int) n c ka kn kc [.slice Aa arr.length Ac, .slice Ra R.length Rc, .int .i64 o, .int .i64 ar, .int .i64 fl, .bool dd] zb := (HS6.out.kept (Upd.refl _ w6).drew).rd
  clear x0 x1 x2 x3 x4 y0 y1 y2 y3 y4 y5
  refine wp_region_G 8 (fun W => SRd w W k (j : Int) n c ka kn kc [.slice Aa arr.length Ac, .slice Ra R.length Rc, .int .i64 o, .int .i64 ar, .int .i64 fl, .bool dd] zb) [false, false, false, false, false, false, false, false, false, false] rfl (by kernel_rfl) ?_
  have HS7 := Lib.hid (HS6.out.kept (Upd.refl _ w6).drew)
  refine wpG_take (i := 0) (v := .agg [.slice Aa arr.length Ac, .slice Ra R.length Rc, .int .i64 o, .int .i64 ar, .int .i64 fl, .bool dd].toArray) rfl (by kernel_rfl) (fun _ _ _ h => h) hA (.inl ⟨rfl, fun w9 q1 => ?_⟩) ?_
  · exact run_load_mid' rfl rfl [.slice Aa arr.length Ac, .slice Ra R.length Rc, .int .i64 o, .int .i64 ar, .int .i64 fl, .bool dd] (rangeAt_block (b := w.heap.size + 1) (cs := [.slice Aa arr.length Ac, .slice Ra R.length Rc, .int .i64 o, .int .i64 ar, .int .i64 fl, .bool dd]) q1.d) Try.underlying69 rfl Try.size69q
  simp only [Act.put, List.setIfInBounds_toArray, List.set]
  refine wpG_take (i := 1) (v := .agg [.int .i64 k, .int .i64 (j : Int), .int .i64 n, .int .u8 c, .slice ka kn kc].toArray) rfl (by kernel_rfl) (fun _ _ _ h => h) hA (.inl ⟨rfl, fun w9 q1 => ?_⟩) ?_
  · exact run_load_mid' rfl rfl [.int .i64 k, .int .i64 (j : Int), .int .i64 n, .int .u8 c, .slice ka kn kc] (rangeAt_block (b := w.heap.size) (cs := [.int .i64 k, .int .i64 (j : Int), .int .i64 n, .int .u8 c, .slice ka kn kc]) q1.x) Try.underlying51 rfl Try.size51
  simp only [Act.put, List.setIfInBounds_toArray, List.set]
  refine wpG_do (i := 2) rfl (by kernel_rfl) rfl (fun K hK => ?_)
  have HK := Lib.hid hK
  clear hK
  go_step
  refine (kind_run' hκ (j : Int) n c ka kn kc _).mono ?_
  rintro e w8 ⟨rfl, hu⟩
  have HS8 := Lib.hid (HS7.out.kept hu)
  
  clear hu hA
  have hA := HS8.out.rd
  simp only []
  refine HK.out _ _ hA ?_
  clear HK
  simp only [List.setIfInBounds_toArray, List.set]
  refine wpG_take (i := 3) (v := .bool true) rfl (by kernel_rfl) (fun _ _ _ h => h) hA (.inl ⟨rfl, fun w9 q1 => ?_⟩) ?_
  · go_simp
  simp only [Act.put, List.setIfInBounds_toArray, List.set]
  refine wpG_do (i := 4) rfl (by kernel_rfl) rfl (fun K hK => ?_)
  have HK := Lib.hid hK
  clear hK
  go_step
  refine (meets_run' (o1 := o1) (a1 := a1) (f1 := f1) (E := E) (d1 := d1) _ ho ha hf HM).mono ?_
  rintro e w9 ⟨rfl, hu⟩
  have HS9 := Lib.hid (HS8.out.kept hu)
  
  clear hu hA
  have hA := HS9.out.rd
  simp only []
  refine HK.out _ _ hA ?_
  clear HK
  simp only [List.setIfInBounds_toArray, List.set]
  refine wpG_take (i := 5) (v := .tuple #[.agg [.slice Aa arr.length Ac, .slice Ra R.length Rc, .int .i64 o1, .int .i64 a1, .int .i64 f1, .bool d1].toArray, .int .i64 E]) rfl (by kernel_rfl) (fun _ _ _ h => h) hA (.inl ⟨rfl, fun w9 q1 => ?_⟩) ?_
  · go_simp
  simp only [Act.put, List.setIfInBounds_toArray, List.set]
  refine wpG_take (i := 6) (v := .agg [.slice Aa arr.length Ac, .slice Ra R.length Rc, .int .i64 o1, .int .i64 a1, .int .i64 f1, .bool d1].toArray) rfl (by kernel_rfl) (fun _ _ _ h => h) hA (.inl ⟨rfl, fun w9 q1 => ?_⟩) ?_
  · go_simp
  simp only [Act.put, List.setIfInBounds_toArray, List.set]
  refine wpG_takeP (i := 7) (v := .int .i64 E) rfl (by kernel_rfl) (fun _ _ _ h => h) (fun _ => hA) (.inl ⟨rfl, fun w9 q1 => ?_⟩) ?_
  · go_simp
  simp only [Act.put, List.setIfInBounds_toArray, List.set]
  refine wpG_tail_lit (k := 8) rfl rfl (by kernel_rfl) ?_
  simp only [List.drop]
  clear hA
  refine wpList_store_mid rfl 69 (.tmp 3) (.tmp 60) rfl (w.heap.size + 1) 0 [.slice Aa arr.length Ac, .slice Ra R.length Rc, .int .i64 o1, .int .i64 a1, .int .i64 f1, .bool d1].toArray rfl rfl (show w9.there (w.heap.size + 1) 0 6 from there_block HS9.out.d) Try.size69q (by simp [Value.oneCell']) ?_
  have hs := HS9.out.setD [.slice Aa arr.length Ac, .slice Ra R.length Rc, .int .i64 o1, .int .i64 a1, .int .i64 f1, .bool d1] rfl
  refine (?_ : wpList _ _ _ _ _ (w9.setCells (w.heap.size + 1) 0 [.slice Aa arr.length Ac, .slice Ra R.length Rc, .int .i64 o1, .int .i64 a1, .int .i64 f1, .bool d1]))
  generalize w9.setCells (w.heap.size + 1) 0 [.slice Aa arr.length Ac, .slice Ra R.length Rc, .int .i64 o1, .int .i64 a1, .int .i64 f1, .bool d1] = w10 at *
  have HS10 := Lib.hid hs
  obtain ⟨x0, x1, x2, x3, x4⟩ := box_cells hs.x
  obtain ⟨y0, y1, y2, y3, y4, y5⟩ := cells6_of hs.d
  clear hs
  go_wp2_with fail
  refine (kind_run' hκ (j : Int) n c ka kn kc _).mono ?_
  rintro e w11 ⟨rfl, hu⟩
  clear x0 x1 x2 x3 x4 y0 y1 y2 y3 y4 y5
  have hs := HS10.out.kept hu
  clear hu
  have HS11 := Lib.hid hs
  obtain ⟨x0, x1, x2, x3, x4⟩ := box_cells hs.x
  obtain ⟨y0, y1, y2, y3, y4, y5⟩ := cells6_of hs.d
  clear hs
  simp only []
  go_upto_region 19 with fail
  have hA : SRd w w11.drew k (j : Int) n c ka kn kc [.slice Aa arr.length Ac, .slice Ra R.length Rc, .int .i64 o1, .int .i64 a1, .int .i64 f1, .bool d1] zb := (HS11.out.kept (Upd.refl _ w11).drew).rd
  clear x0 x1 x2 x3 x4 y0 y1 y2 y3 y4 y5
  refine wp_region_G 6 (fun W => SRd w W k (j : Int) n c ka kn kc [.slice Aa arr.length Ac, .slice Ra R.length Rc, .int .i64 o1, .int .i64 a1, .int .i64 f1, .bool d1] zb) [false, false, false, false, false, false, false] rfl (by kernel_rfl) ?_
  have HS12 := Lib.hid (HS11.out.kept (Upd.refl _ w11).drew)
  refine wpG_take (i := 0) (v := .agg [.slice Aa arr.length Ac, .slice Ra R.length Rc, .int .i64 o1, .int .i64 a1, .int .i64 f1, .bool d1].toArray) rfl (by kernel_rfl) (fun _ _ _ h => h) hA (.inl ⟨rfl, fun w9 q1 => ?_⟩) ?_
  · exact run_load_mid' rfl rfl [.slice Aa arr.length Ac, .slice Ra R.length Rc, .int .i64 o1, .int .i64 a1, .int .i64 f1, .bool d1] (rangeAt_block (b := w.heap.size + 1) (cs := [.slice Aa arr.length Ac, .slice Ra R.length Rc, .int .i64 o1, .int .i64 a1, .int .i64 f1, .bool d1]) q1.d) Try.underlying69 rfl Try.size69q
  simp only [Act.put, List.setIfInBounds_toArray, List.set]
  refine wpG_take (i := 1) (v := .pointer (some ⟨w.heap.size, 1, none⟩)) rfl (by kernel_rfl) (fun _ _ _ h => h) hA (.inl ⟨rfl, fun w9 q1 => ?_⟩) ?_
  · go_simp
  simp only [Act.put, List.setIfInBounds_toArray, List.set]
  refine wpG_take (i := 2) (v := .int .i64 (j : Int)) rfl (by kernel_rfl) (fun _ _ _ h => h) hA (.inl ⟨rfl, fun w9 q1 => ?_⟩) ?_
  · have q2 := (box_cells q1.x).2.1
    go_simp
  simp only [Act.put, List.setIfInBounds_toArray, List.set]
  refine wpG_take (i := 3) (v := .agg [.int .i64 k, .int .i64 (j : Int), .int .i64 n, .int .u8 c, .slice ka kn kc].toArray) rfl (by kernel_rfl) (fun _ _ _ h => h) hA (.inl ⟨rfl, fun w9 q1 => ?_⟩) ?_
  · exact run_load_mid' rfl rfl [.int .i64 k, .int .i64 (j : Int), .int .i64 n, .int .u8 c, .slice ka kn kc] (rangeAt_block (b := w.heap.size) (cs := [.int .i64 k, .int .i64 (j : Int), .int .i64 n, .int .u8 c, .slice ka kn kc]) q1.x) Try.underlying51 rfl Try.size51
  simp only [Act.put, List.setIfInBounds_toArray, List.set]
  refine wpG_do (i := 4) rfl (by kernel_rfl) rfl (fun K hK => ?_)
  have HK := Lib.hid hK
  clear hK
  go_step
  refine (block_run k (j : Int) n c ka kn kc _).mono ?_
  rintro e w13 ⟨rfl, hu⟩
  have HS13 := Lib.hid (HS12.out.kept hu)
  
  clear hu hA
  have hA := HS13.out.rd
  simp only []
  refine HK.out _ _ hA ?_
  clear HK
  simp only [List.setIfInBounds_toArray, List.set]
  refine wpG_do (i := 5) rfl (by kernel_rfl) rfl (fun K hK => ?_)
  have HK := Lib.hid hK
  clear hK
  go_step
  refine (refSend_run Aa Ra arr.length Ac Rc R o1 a1 f1 d1 j (fill c) (by simp [fill]) nth w13 (HR.out.kept HS13.out.u) HL.out hRl).mono ?_
  rintro e w14 ⟨g, c2, hg, rfl, hO, hu⟩
  have HS14 := Lib.hid (HS13.out.kept hu)
  have HOO := Lib.hid hO
  have hg2 : w.heap.size + 5 ≤ g := by have := lt_of_heap HS13.out.v; omega
  clear hO hg
  clear hu hA
  have hA := HS14.out.rd
  simp only []
  refine HK.out _ _ hA ?_
  clear HK
  simp only [List.setIfInBounds_toArray, List.set]
  refine wpG_tail_lit (k := 6) rfl rfl (by kernel_rfl) ?_
  simp only [List.drop]
  clear hA
  refine wpList_store_mid rfl 69 (.tmp 3) (.tmp 77) rfl (w.heap.size + 1) 0 [.slice Aa arr.length Ac, .slice (some ⟨g, 0, none⟩) (R.length + 1) c2, .int .i64 o1, .int .i64 a1, .int .i64 f1, .bool d1].toArray rfl rfl (show w14.there (w.heap.size + 1) 0 6 from there_block HS14.out.d) Try.size69q (by simp [Value.oneCell']) ?_
  have hs := HS14.out.setD [.slice Aa arr.length Ac, .slice (some ⟨g, 0, none⟩) (R.length + 1) c2, .int .i64 o1, .int .i64 a1, .int .i64 f1, .bool d1] rfl
  have ho2 : RowR (w14.setCells (w.heap.size + 1) 0 [.slice Aa arr.length Ac, .slice (some ⟨g, 0, none⟩) (R.length + 1) c2, .int .i64 o1, .int .i64 a1, .int .i64 f1, .bool d1]) (some ⟨g, 0, none⟩) c2 (R ++ [(j, fill c, nth)]) := ownsRow_any HOO.out (upd_setCells w14 (w.heap.size + 1) 0 _) (fun k hk e => by simp [Value.ownBlock] at hk; omega)
  have HO5 := Lib.hid ho2
  clear ho2 HOO
  refine (?_ : wpList _ _ _ _ _ (w14.setCells (w.heap.size + 1) 0 [.slice Aa arr.length Ac, .slice (some ⟨g, 0, none⟩) (R.length + 1) c2, .int .i64 o1, .int .i64 a1, .int .i64 f1, .bool d1]))
  generalize w14.setCells (w.heap.size + 1) 0 [.slice Aa arr.length Ac, .slice (some ⟨g, 0, none⟩) (R.length + 1) c2, .int .i64 o1, .int .i64 a1, .int .i64 f1, .bool d1] = w15 at *
  have HS15 := Lib.hid hs
  obtain ⟨x0, x1, x2, x3, x4⟩ := box_cells hs.x
  obtain ⟨y0, y1, y2, y3, y4, y5⟩ := cells6_of hs.d
  clear hs
  go_upto_region 23 with fail
  have hA : SRd w w15.drew k (j : Int) n c ka kn kc [.slice Aa arr.length Ac, .slice (some ⟨g, 0, none⟩) (R.length + 1) c2, .int .i64 o1, .int .i64 a1, .int .i64 f1, .bool d1] zb := (HS15.out.kept (Upd.refl _ w15).drew).rd
  clear x0 x1 x2 x3 x4 y0 y1 y2 y3 y4 y5
  refine wp_region_G 5 (fun W => SRd w W k (j : Int) n c ka kn kc [.slice Aa arr.length Ac, .slice (some ⟨g, 0, none⟩) (R.length + 1) c2, .int .i64 o1, .int .i64 a1, .int .i64 f1, .bool d1] zb) [false, false, false, false, false, false] rfl (by kernel_rfl) ?_
  have HS16 := Lib.hid (HS15.out.kept (Upd.refl _ w15).drew)
  refine wpG_take (i := 0) (v := .agg [.slice Aa arr.length Ac, .slice (some ⟨g, 0, none⟩) (R.length + 1) c2, .int .i64 o1, .int .i64 a1, .int .i64 f1, .bool d1].toArray) rfl (by kernel_rfl) (fun _ _ _ h => h) hA (.inl ⟨rfl, fun w9 q1 => ?_⟩) ?_
  · exact run_load_mid' rfl rfl [.slice Aa arr.length Ac, .slice (some ⟨g, 0, none⟩) (R.length + 1) c2, .int .i64 o1, .int .i64 a1, .int .i64 f1, .bool d1] (rangeAt_block (b := w.heap.size + 1) (cs := [.slice Aa arr.length Ac, .slice (some ⟨g, 0, none⟩) (R.length + 1) c2, .int .i64 o1, .int .i64 a1, .int .i64 f1, .bool d1]) q1.d) Try.underlying69 rfl Try.size69q
  simp only [Act.put, List.setIfInBounds_toArray, List.set]
  refine wpG_take (i := 1) (v := .agg (bcells zb).toArray) rfl (by kernel_rfl) (fun _ _ _ h => h) hA (.inl ⟨rfl, fun w9 q1 => ?_⟩) ?_
  · exact run_load_mid' rfl rfl (bcells zb) (rangeAt_block (b := w.heap.size + 1 + 1 + 1 + 1) (cs := (bcells zb)) q1.v) Try.underlying56 rfl (by rw [Try.info56p, bcells_length, HBL.out])
  simp only [Act.put, List.setIfInBounds_toArray, List.set]
  refine wpG_take (i := 2) (v := .int .i64 E) rfl (by kernel_rfl) (fun _ _ _ h => h) hA (.inl ⟨rfl, fun w9 q1 => ?_⟩) ?_
  · go_simp
  simp only [Act.put, List.setIfInBounds_toArray, List.set]
  obtain ⟨ot1, ot2, ot3, ot4⟩ := HS16.out.out [.slice Aa arr.length Ac, .slice (some ⟨g, 0, none⟩) (R.length + 1) c2, .int .i64 o1, .int .i64 a1, .int .i64 f1, .bool d1] rfl zb HBL.out
  have HO1 := Lib.hid ot1; have HO2 := Lib.hid ot2; have HO3 := Lib.hid ot3; have HO4 := Lib.hid ot4
  have u1 : Upd (fun j => j = w.heap.size + 1 + 1 ∨ j = w.heap.size + 1 + 1 + 1) w15.drew (w15.drew.setCells (w.heap.size + 1 + 1) 0 [.slice Aa arr.length Ac, .slice (some ⟨g, 0, none⟩) (R.length + 1) c2, .int .i64 o1, .int .i64 a1, .int .i64 f1, .bool d1]) := (upd_setCells w15.drew (w.heap.size + 1 + 1) 0 [.slice Aa arr.length Ac, .slice (some ⟨g, 0, none⟩) (R.length + 1) c2, .int .i64 o1, .int .i64 a1, .int .i64 f1, .bool d1]).mono (fun j _ e => .inl e)
  have u2 : Upd (fun j => j = w.heap.size + 1 + 1 ∨ j = w.heap.size + 1 + 1 + 1) (w15.drew.setCells (w.heap.size + 1 + 1) 0 [.slice Aa arr.length Ac, .slice (some ⟨g, 0, none⟩) (R.length + 1) c2, .int .i64 o1, .int .i64 a1, .int .i64 f1, .bool d1]) ((w15.drew.setCells (w.heap.size + 1 + 1) 0 [.slice Aa arr.length Ac, .slice (some ⟨g, 0, none⟩) (R.length + 1) c2, .int .i64 o1, .int .i64 a1, .int .i64 f1, .bool d1]).setCells (w.heap.size + 1 + 1 + 1) 0 (bcells zb)) := (upd_setCells (w15.drew.setCells (w.heap.size + 1 + 1) 0 [.slice Aa arr.length Ac, .slice (some ⟨g, 0, none⟩) (R.length + 1) c2, .int .i64 o1, .int .i64 a1, .int .i64 f1, .bool d1]) (w.heap.size + 1 + 1 + 1) 0 (bcells zb)).mono (fun j _ e => .inr e)
  have hA1 := hA.off u1
  have hA2 := hA1.off u2
  have ht1 : w15.drew.there (w.heap.size + 1 + 1) 0 6 := there_block HS16.out.r
  have ht2 : (w15.drew.setCells (w.heap.size + 1 + 1) 0 [.slice Aa arr.length Ac, .slice (some ⟨g, 0, none⟩) (R.length + 1) c2, .int .i64 o1, .int .i64 a1, .int .i64 f1, .bool d1]).there (w.heap.size + 1 + 1 + 1) 0 (bcells zb).toArray.size := by
    have := there_block (((upd_setCells w15.drew (w.heap.size + 1 + 1) 0 [.slice Aa arr.length Ac, .slice (some ⟨g, 0, none⟩) (R.length + 1) c2, .int .i64 o1, .int .i64 a1, .int .i64 f1, .bool d1]).block _ (lt_of_heap HS16.out.b) (by omega)).trans HS16.out.b)
    rwa [show (bcells zblk).toArray.size = (bcells zb).toArray.size by simp [bcells_length, HBL.out, zblk]] at this
  clear ot1 ot2 ot3 ot4
  refine wpG_do (i := 3) rfl (by kernel_rfl) rfl (fun K hK => ?_)
  have HK := Lib.hid hK
  clear hK
  refine wp_store_mid 69 (.tmp 4) (.tmp 89) rfl (w.heap.size + 1 + 1) 0 [.slice Aa arr.length Ac, .slice (some ⟨g, 0, none⟩) (R.length + 1) c2, .int .i64 o1, .int .i64 a1, .int .i64 f1, .bool d1].toArray rfl rfl ht1 Try.size69q (by simp [Value.oneCell']) ?_
  refine HK.out _ _ hA1 ?_
  clear HK
  simp only [Act.put, List.setIfInBounds_toArray, List.set]
  refine wpG_do (i := 4) rfl (by kernel_rfl) rfl (fun K hK => ?_)
  have HK := Lib.hid hK
  clear hK
  refine wp_store_mid 56 (.tmp 5) (.tmp 90) rfl (w.heap.size + 1 + 1 + 1) 0 (bcells zb).toArray rfl rfl ht2 (by rw [Try.info56p]; simp [bcells_length, HBL.out]) (all_oneCell_toArray (bcells_one _)) ?_
  refine HK.out _ _ hA2 ?_
  clear HK
  simp only [Act.put, List.setIfInBounds_toArray, List.set]
  refine wpG_tail_lit (k := 5) rfl rfl (by kernel_rfl) ?_
  simp only [List.drop]
  refine (?_ : wpList _ _ _ _ _ ((w15.drew.setCells (w.heap.size + 1 + 1) 0 [.slice Aa arr.length Ac, .slice (some ⟨g, 0, none⟩) (R.length + 1) c2, .int .i64 o1, .int .i64 a1, .int .i64 f1, .bool d1]).setCells (w.heap.size + 1 + 1 + 1) 0 (bcells zb)))
  clear hA hA1 hA2 u1 u2 ht1 ht2
  generalize ((w15.drew.setCells (w.heap.size + 1 + 1) 0 [.slice Aa arr.length Ac, .slice (some ⟨g, 0, none⟩) (R.length + 1) c2, .int .i64 o1, .int .i64 a1, .int .i64 f1, .bool d1]).setCells (w.heap.size + 1 + 1 + 1) 0 (bcells zb)) = wf at *
  go_wp2
  refine says_fin HO1.out rfl HO2.out HBL.out rfl rfl ⟨g, c2, by omega, rfl, ?_, HO4.out⟩
  exact ownsRow_any HO5.out HO3.out.undrew (fun k hk e => by simp [Value.ownBlock] at hk; omega)

end Go.Proofs.Ytbimkhdiplnbfaa
end

section
namespace Go.Proofs.Ytbimkhdiplnbfaa
open Go.RowKit Go.Deep

set_option maxRecDepth 100000 in
set_option maxHeartbeats 4000000 in
theorem says_fell (k i n c : Int) (ka : Option Addr) (kn kc : Nat) (Aa Ra : Option Addr) (Ac Rc : Nat) (arr : List (List Int)) (R : List (Nat × List Int × Int)) (o ar fl : Int) (dd : Bool) (w : World) {κ : Int} (hκ : kindOf k = κ) (hκr : 0 ≤ κ ∧ κ < 5) (hA0 : ArrS w Aa Ac arr) (hR : RowR w Ra Rc R) (hl : ∀ x ∈ R, x.2.1.length = 64) (hal : ∀ b ∈ arr, b.length = 64) (_hRl : R.length ≤ 1000000) (hAl : 1 ≤ arr.length ∧ arr.length ≤ 2048) (HNO : RowKit.Hid (whyE dd arr.length i = 0)) (ho : 0 ≤ o ∧ o ≤ 1000000) (ha : -1 ≤ ar ∧ ar ≤ 9223372036854775807) (hf : -1 ≤ fl ∧ fl ≤ 9223372036854775807) {o1 a1 f1 E : Int} {d1 : Bool}
    (HM : RowKit.Hid (MeetsAs true o ar fl dd o1 a1 f1 E d1)) (hE : E = 8) :
    Calls Try.prog 45 #[callV k i n c ka kn kc, refV Aa arr.length Ac Ra R.length Rc o ar fl dd] w fun e w' => e = .returned (.tuple #[.agg #[.slice Aa arr.length Ac, .slice Ra R.length Rc, .int .i64 o1, .int .i64 a1, .int .i64 f1, .bool d1], .agg (bcells zblk).toArray, .int .i64 E]) ∧ Upd (fun _ => False) w w' := by
  subst hE
  have HA := Lib.hid hA0; have HR := Lib.hid hR; have HL := Lib.hid hl; have HAL := Lib.hid hal
  clear hA0 hR hl hal
  obtain ⟨zb, hzb⟩ : ∃ zb, zb = zblk := ⟨_, rfl⟩
  try rw [← hzb]
  have HZB := Lib.hid hzb
  have HBL : RowKit.Hid (zb.length = 64) := Lib.hid (by rw [hzb]; simp [zblk])
  clear hzb
  unfold callV refV
  have n5 : ¬ 5 < κ := by omega
  have n9 : (κ == 9) = false := by simp; omega
  have n7 : (κ == 7) = false := by simp; omega
  have n8 : (κ == 8) = false := by simp; omega
  have m5 : (κ != 5) = true := by simp; omega
  have l5 : κ < 5 := hκr.2
  go_enter Try.func45, Try.ntmps45
  go_upto_region 2 with fail
  refine (?_ : Code.wp _ _ _ _ (((((w.alloc (.cells #[.int .i64 k, .int .i64 i, .int .i64 n, .int .u8 c, .slice ka kn kc] 51)).alloc (.cells #[.slice Aa arr.length Ac, .slice Ra R.length Rc, .int .i64 o, .int .i64 ar, .int .i64 fl, .bool dd] 69)).alloc (.cells #[.slice none 0 0, .slice none 0 0, .int .i64 0, .int .i64 0, .int .i64 0, .bool false] 69)).alloc (.cells (bcells zblk).toArray 56)).alloc (.cells (bcells zblk).toArray 56)))
  obtain ⟨w1, hw1⟩ : ∃ w1, w1 = (((((w.alloc (.cells #[.int .i64 k, .int .i64 i, .int .i64 n, .int .u8 c, .slice ka kn kc] 51)).alloc (.cells #[.slice Aa arr.length Ac, .slice Ra R.length Rc, .int .i64 o, .int .i64 ar, .int .i64 fl, .bool dd] 69)).alloc (.cells #[.slice none 0 0, .slice none 0 0, .int .i64 0, .int .i64 0, .int .i64 0, .bool false] 69)).alloc (.cells (bcells zblk).toArray 56)).alloc (.cells (bcells zblk).toArray 56)) := ⟨_, rfl⟩
  have hs : SBox w w1 k i n c ka kn kc [.slice Aa arr.length Ac, .slice Ra R.length Rc, .int .i64 o, .int .i64 ar, .int .i64 fl, .bool dd] zb := by rw [hw1, HZB.out]; exact SBox.start w k i n c ka kn kc [.slice Aa arr.length Ac, .slice Ra R.length Rc, .int .i64 o, .int .i64 ar, .int .i64 fl, .bool dd]
  rw [← hw1]
  clear hw1
  have HS1 := Lib.hid hs
  obtain ⟨x0, x1, x2, x3, x4⟩ := box_cells hs.x
  obtain ⟨y0, y1, y2, y3, y4, y5⟩ := cells6_of hs.d
  clear hs
  go_wp2_with fail
  refine (kind_run' hκ i n c ka kn kc _).mono ?_
  rintro e w2 ⟨rfl, hu⟩
  clear x0 x1 x2 x3 x4 y0 y1 y2 y3 y4 y5
  have hs := HS1.out.kept hu
  clear hu
  have HS2 := Lib.hid hs
  obtain ⟨x0, x1, x2, x3, x4⟩ := box_cells hs.x
  obtain ⟨y0, y1, y2, y3, y4, y5⟩ := cells6_of hs.d
  clear hs
  simp only []
  go_wp2_with fail
  refine (why_run' Aa arr.length Ac Ra R.length Rc o ar fl i dd _ hAl.2 HNO).mono ?_
  rintro e w3 ⟨rfl, hu⟩
  clear x0 x1 x2 x3 x4 y0 y1 y2 y3 y4 y5
  have hs := HS2.out.kept hu
  clear hu
  have HS3 := Lib.hid hs
  obtain ⟨x0, x1, x2, x3, x4⟩ := box_cells hs.x
  obtain ⟨y0, y1, y2, y3, y4, y5⟩ := cells6_of hs.d
  clear hs
  simp only []
  go_wp2_with fail
  refine (kind_run' hκ i n c ka kn kc _).mono ?_
  rintro e w4 ⟨rfl, hu⟩
  clear x0 x1 x2 x3 x4 y0 y1 y2 y3 y4 y5
  have hs := HS3.out.kept hu
  clear hu
  have HS4 := Lib.hid hs
  obtain ⟨x0, x1, x2, x3, x4⟩ := box_cells hs.x
  obtain ⟨y0, y1, y2, y3, y4, y5⟩ := cells6_of hs.d
  clear hs
  simp only []
  go_wp2_with fail
  refine (kind_run' hκ i n c ka kn kc _).mono ?_
  rintro e w5 ⟨rfl, hu⟩
  clear x0 x1 x2 x3 x4 y0 y1 y2 y3 y4 y5
  have hs := HS4.out.kept hu
  clear hu
  have HS5 := Lib.hid hs
  obtain ⟨x0, x1, x2, x3, x4⟩ := box_cells hs.x
  obtain ⟨y0, y1, y2, y3, y4, y5⟩ := cells6_of hs.d
  clear hs
  simp only []
  go_wp2_with fail
  refine (kind_run' hκ i n c ka kn kc _).mono ?_
  rintro e w6 ⟨rfl, hu⟩
  clear x0 x1 x2 x3 x4 y0 y1 y2 y3 y4 y5
  have hs := HS5.out.kept hu
  clear hu
  have HS6 := Lib.hid hs
  obtain ⟨x0, x1, x2, x3, x4⟩ := box_cells hs.x
  obtain ⟨y0, y1, y2, y3, y4, y5⟩ := cells6_of hs.d
  clear hs
  simp only []
  go_upto_region 16 with fail
  have hA : SRd w w6.drew k i n c ka kn kc [.slice Aa arr.length Ac, .slice Ra R.length Rc, .int .i64 o, .int .i64 ar, .int .i64 fl, .bool dd] zb := (HS6.out.kept (Upd.refl _ w6).drew).rd
  clear x0 x1 x2 x3 x4 y0 y1 y2 y3 y4 y5
  refine wp_region_G 8 (fun W => SRd w W k i n c ka kn kc [.slice Aa arr.length Ac, .slice Ra R.length Rc, .int .i64 o, .int .i64 ar, .int .i64 fl, .bool dd] zb) [false, false, false, false, false, false, false, false, false, false] rfl (by kernel_rfl) ?_
  have HS7 := Lib.hid (HS6.out.kept (Upd.refl _ w6).drew)
  refine wpG_take (i := 0) (v := .agg [.slice Aa arr.length Ac, .slice Ra R.length Rc, .int .i64 o, .int .i64 ar, .int .i64 fl, .bool dd].toArray) rfl (by kernel_rfl) (fun _ _ _ h => h) hA (.inl ⟨rfl, fun w9 q1 => ?_⟩) ?_
  · exact run_load_mid' rfl rfl [.slice Aa arr.length Ac, .slice Ra R.length Rc, .int .i64 o, .int .i64 ar, .int .i64 fl, .bool dd] (rangeAt_block (b := w.heap.size + 1) (cs := [.slice Aa arr.length Ac, .slice Ra R.length Rc, .int .i64 o, .int .i64 ar, .int .i64 fl, .bool dd]) q1.d) Try.underlying69 rfl Try.size69q
  simp only [Act.put, List.setIfInBounds_toArray, List.set]
  refine wpG_take (i := 1) (v := .agg [.int .i64 k, .int .i64 i, .int .i64 n, .int .u8 c, .slice ka kn kc].toArray) rfl (by kernel_rfl) (fun _ _ _ h => h) hA (.inl ⟨rfl, fun w9 q1 => ?_⟩) ?_
  · exact run_load_mid' rfl rfl [.int .i64 k, .int .i64 i, .int .i64 n, .int .u8 c, .slice ka kn kc] (rangeAt_block (b := w.heap.size) (cs := [.int .i64 k, .int .i64 i, .int .i64 n, .int .u8 c, .slice ka kn kc]) q1.x) Try.underlying51 rfl Try.size51
  simp only [Act.put, List.setIfInBounds_toArray, List.set]
  refine wpG_do (i := 2) rfl (by kernel_rfl) rfl (fun K hK => ?_)
  have HK := Lib.hid hK
  clear hK
  go_step
  refine (kind_run' hκ i n c ka kn kc _).mono ?_
  rintro e w8 ⟨rfl, hu⟩
  have HS8 := Lib.hid (HS7.out.kept hu)
  
  clear hu hA
  have hA := HS8.out.rd
  simp only []
  refine HK.out _ _ hA ?_
  clear HK
  simp only [List.setIfInBounds_toArray, List.set]
  refine wpG_take (i := 3) (v := .bool true) rfl (by kernel_rfl) (fun _ _ _ h => h) hA (.inl ⟨rfl, fun w9 q1 => ?_⟩) ?_
  · go_simp
  simp only [Act.put, List.setIfInBounds_toArray, List.set]
  refine wpG_do (i := 4) rfl (by kernel_rfl) rfl (fun K hK => ?_)
  have HK := Lib.hid hK
  clear hK
  go_step
  refine (meets_run' (o1 := o1) (a1 := a1) (f1 := f1) (E := 8) (d1 := d1) _ ho ha hf HM).mono ?_
  rintro e w9 ⟨rfl, hu⟩
  have HS9 := Lib.hid (HS8.out.kept hu)
  
  clear hu hA
  have hA := HS9.out.rd
  simp only []
  refine HK.out _ _ hA ?_
  clear HK
  simp only [List.setIfInBounds_toArray, List.set]
  refine wpG_take (i := 5) (v := .tuple #[.agg [.slice Aa arr.length Ac, .slice Ra R.length Rc, .int .i64 o1, .int .i64 a1, .int .i64 f1, .bool d1].toArray, .int .i64 8]) rfl (by kernel_rfl) (fun _ _ _ h => h) hA (.inl ⟨rfl, fun w9 q1 => ?_⟩) ?_
  · go_simp
  simp only [Act.put, List.setIfInBounds_toArray, List.set]
  refine wpG_take (i := 6) (v := .agg [.slice Aa arr.length Ac, .slice Ra R.length Rc, .int .i64 o1, .int .i64 a1, .int .i64 f1, .bool d1].toArray) rfl (by kernel_rfl) (fun _ _ _ h => h) hA (.inl ⟨rfl, fun w9 q1 => ?_⟩) ?_
  · go_simp
  simp only [Act.put, List.setIfInBounds_toArray, List.set]
  refine wpG_takeP (i := 7) (v := .int .i64 8) rfl (by kernel_rfl) (fun _ _ _ h => h) (fun _ => hA) (.inl ⟨rfl, fun w9 q1 => ?_⟩) ?_
  · go_simp
  simp only [Act.put, List.setIfInBounds_toArray, List.set]
  refine wpG_tail_lit (k := 8) rfl rfl (by kernel_rfl) ?_
  simp only [List.drop]
  clear hA
  refine wpList_store_mid rfl 69 (.tmp 3) (.tmp 60) rfl (w.heap.size + 1) 0 [.slice Aa arr.length Ac, .slice Ra R.length Rc, .int .i64 o1, .int .i64 a1, .int .i64 f1, .bool d1].toArray rfl rfl (show w9.there (w.heap.size + 1) 0 6 from there_block HS9.out.d) Try.size69q (by simp [Value.oneCell']) ?_
  have hs := HS9.out.setD [.slice Aa arr.length Ac, .slice Ra R.length Rc, .int .i64 o1, .int .i64 a1, .int .i64 f1, .bool d1] rfl
  refine (?_ : wpList _ _ _ _ _ (w9.setCells (w.heap.size + 1) 0 [.slice Aa arr.length Ac, .slice Ra R.length Rc, .int .i64 o1, .int .i64 a1, .int .i64 f1, .bool d1]))
  generalize w9.setCells (w.heap.size + 1) 0 [.slice Aa arr.length Ac, .slice Ra R.length Rc, .int .i64 o1, .int .i64 a1, .int .i64 f1, .bool d1] = w10 at *
  have HS10 := Lib.hid hs
  obtain ⟨x0, x1, x2, x3, x4⟩ := box_cells hs.x
  obtain ⟨y0, y1, y2, y3, y4, y5⟩ := cells6_of hs.d
  clear hs
  go_wp2_with fail
  refine (kind_run' hκ i n c ka kn kc _).mono ?_
  rintro e w11 ⟨rfl, hu⟩
  clear x0 x1 x2 x3 x4 y0 y1 y2 y3 y4 y5
  have hs := HS10.out.kept hu
  clear hu
  have HS11 := Lib.hid hs
  obtain ⟨x0, x1, x2, x3, x4⟩ := box_cells hs.x
  obtain ⟨y0, y1, y2, y3, y4, y5⟩ := cells6_of hs.d
  clear hs
  simp only []
  go_upto_region 23 with fail
  have hA : SRd w w11.drew k i n c ka kn kc [.slice Aa arr.length Ac, .slice Ra R.length Rc, .int .i64 o1, .int .i64 a1, .int .i64 f1, .bool d1] zb := (HS11.out.kept (Upd.refl _ w11).drew).rd
  clear x0 x1 x2 x3 x4 y0 y1 y2 y3 y4 y5
  refine wp_region_G 5 (fun W => SRd w W k i n c ka kn kc [.slice Aa arr.length Ac, .slice Ra R.length Rc, .int .i64 o1, .int .i64 a1, .int .i64 f1, .bool d1] zb) [false, false, false, false, false, false] rfl (by kernel_rfl) ?_
  have HS12 := Lib.hid (HS11.out.kept (Upd.refl _ w11).drew)
  refine wpG_take (i := 0) (v := .agg [.slice Aa arr.length Ac, .slice Ra R.length Rc, .int .i64 o1, .int .i64 a1, .int .i64 f1, .bool d1].toArray) rfl (by kernel_rfl) (fun _ _ _ h => h) hA (.inl ⟨rfl, fun w9 q1 => ?_⟩) ?_
  · exact run_load_mid' rfl rfl [.slice Aa arr.length Ac, .slice Ra R.length Rc, .int .i64 o1, .int .i64 a1, .int .i64 f1, .bool d1] (rangeAt_block (b := w.heap.size + 1) (cs := [.slice Aa arr.length Ac, .slice Ra R.length Rc, .int .i64 o1, .int .i64 a1, .int .i64 f1, .bool d1]) q1.d) Try.underlying69 rfl Try.size69q
  simp only [Act.put, List.setIfInBounds_toArray, List.set]
  refine wpG_take (i := 1) (v := .agg (bcells zb).toArray) rfl (by kernel_rfl) (fun _ _ _ h => h) hA (.inl ⟨rfl, fun w9 q1 => ?_⟩) ?_
  · exact run_load_mid' rfl rfl (bcells zb) (rangeAt_block (b := w.heap.size + 1 + 1 + 1 + 1) (cs := (bcells zb)) q1.v) Try.underlying56 rfl (by rw [Try.info56p, bcells_length, HBL.out])
  simp only [Act.put, List.setIfInBounds_toArray, List.set]
  refine wpG_take (i := 2) (v := .int .i64 8) rfl (by kernel_rfl) (fun _ _ _ h => h) hA (.inl ⟨rfl, fun w9 q1 => ?_⟩) ?_
  · go_simp
  simp only [Act.put, List.setIfInBounds_toArray, List.set]
  obtain ⟨ot1, ot2, ot3, ot4⟩ := HS12.out.out [.slice Aa arr.length Ac, .slice Ra R.length Rc, .int .i64 o1, .int .i64 a1, .int .i64 f1, .bool d1] rfl zb HBL.out
  have HO1 := Lib.hid ot1; have HO2 := Lib.hid ot2; have HO3 := Lib.hid ot3; have HO4 := Lib.hid ot4
  have u1 : Upd (fun j => j = w.heap.size + 1 + 1 ∨ j = w.heap.size + 1 + 1 + 1) w11.drew (w11.drew.setCells (w.heap.size + 1 + 1) 0 [.slice Aa arr.length Ac, .slice Ra R.length Rc, .int .i64 o1, .int .i64 a1, .int .i64 f1, .bool d1]) := (upd_setCells w11.drew (w.heap.size + 1 + 1) 0 [.slice Aa arr.length Ac, .slice Ra R.length Rc, .int .i64 o1, .int .i64 a1, .int .i64 f1, .bool d1]).mono (fun j _ e => .inl e)
  have u2 : Upd (fun j => j = w.heap.size + 1 + 1 ∨ j = w.heap.size + 1 + 1 + 1) (w11.drew.setCells (w.heap.size + 1 + 1) 0 [.slice Aa arr.length Ac, .slice Ra R.length Rc, .int .i64 o1, .int .i64 a1, .int .i64 f1, .bool d1]) ((w11.drew.setCells (w.heap.size + 1 + 1) 0 [.slice Aa arr.length Ac, .slice Ra R.length Rc, .int .i64 o1, .int .i64 a1, .int .i64 f1, .bool d1]).setCells (w.heap.size + 1 + 1 + 1) 0 (bcells zb)) := (upd_setCells (w11.drew.setCells (w.heap.size + 1 + 1) 0 [.slice Aa arr.length Ac, .slice Ra R.length Rc, .int .i64 o1, .int .i64 a1, .int .i64 f1, .bool d1]) (w.heap.size + 1 + 1 + 1) 0 (bcells zb)).mono (fun j _ e => .inr e)
  have hA1 := hA.off u1
  have hA2 := hA1.off u2
  have ht1 : w11.drew.there (w.heap.size + 1 + 1) 0 6 := there_block HS12.out.r
  have ht2 : (w11.drew.setCells (w.heap.size + 1 + 1) 0 [.slice Aa arr.length Ac, .slice Ra R.length Rc, .int .i64 o1, .int .i64 a1, .int .i64 f1, .bool d1]).there (w.heap.size + 1 + 1 + 1) 0 (bcells zb).toArray.size := by
    have := there_block (((upd_setCells w11.drew (w.heap.size + 1 + 1) 0 [.slice Aa arr.length Ac, .slice Ra R.length Rc, .int .i64 o1, .int .i64 a1, .int .i64 f1, .bool d1]).block _ (lt_of_heap HS12.out.b) (by omega)).trans HS12.out.b)
    rwa [show (bcells zblk).toArray.size = (bcells zb).toArray.size by simp [bcells_length, HBL.out, zblk]] at this
  clear ot1 ot2 ot3 ot4
  refine wpG_do (i := 3) rfl (by kernel_rfl) rfl (fun K hK => ?_)
  have HK := Lib.hid hK
  clear hK
  refine wp_store_mid 69 (.tmp 4) (.tmp 89) rfl (w.heap.size + 1 + 1) 0 [.slice Aa arr.length Ac, .slice Ra R.length Rc, .int .i64 o1, .int .i64 a1, .int .i64 f1, .bool d1].toArray rfl rfl ht1 Try.size69q (by simp [Value.oneCell']) ?_
  refine HK.out _ _ hA1 ?_
  clear HK
  simp only [Act.put, List.setIfInBounds_toArray, List.set]
  refine wpG_do (i := 4) rfl (by kernel_rfl) rfl (fun K hK => ?_)
  have HK := Lib.hid hK
  clear hK
  refine wp_store_mid 56 (.tmp 5) (.tmp 90) rfl (w.heap.size + 1 + 1 + 1) 0 (bcells zb).toArray rfl rfl ht2 (by rw [Try.info56p]; simp [bcells_length, HBL.out]) (all_oneCell_toArray (bcells_one _)) ?_
  refine HK.out _ _ hA2 ?_
  clear HK
  simp only [Act.put, List.setIfInBounds_toArray, List.set]
  refine wpG_tail_lit (k := 5) rfl rfl (by kernel_rfl) ?_
  simp only [List.drop]
  refine (?_ : wpList _ _ _ _ _ ((w11.drew.setCells (w.heap.size + 1 + 1) 0 [.slice Aa arr.length Ac, .slice Ra R.length Rc, .int .i64 o1, .int .i64 a1, .int .i64 f1, .bool d1]).setCells (w.heap.size + 1 + 1 + 1) 0 (bcells zb)))
  clear hA hA1 hA2 u1 u2 ht1 ht2
  generalize ((w11.drew.setCells (w.heap.size + 1 + 1) 0 [.slice Aa arr.length Ac, .slice Ra R.length Rc, .int .i64 o1, .int .i64 a1, .int .i64 f1, .bool d1]).setCells (w.heap.size + 1 + 1 + 1) 0 (bcells zb)) = wf at *
  go_wp2
  exact says_fin HO1.out rfl HO2.out HBL.out rfl rfl ⟨rfl, HO4.out⟩

end Go.Proofs.Ytbimkhdiplnbfaa
end

section
namespace Go.Proofs.Ytbimkhdiplnbfaa
open Go.RowKit Go.Deep

set_option maxRecDepth 100000 in
set_option maxHeartbeats 4000000 in
theorem says_stop5 (k i n c : Int) (ka : Option Addr) (kn kc : Nat) (Aa Ra : Option Addr) (Ac Rc : Nat) (arr : List (List Int)) (R : List (Nat × List Int × Int)) (o ar fl : Int) (dd : Bool) (w : World) (hκ : kindOf k = 5) (hA0 : ArrS w Aa Ac arr) (hR : RowR w Ra Rc R) (hl : ∀ x ∈ R, x.2.1.length = 64) (hal : ∀ b ∈ arr, b.length = 64) (_hRl : R.length ≤ 1000000) (hAl : 1 ≤ arr.length ∧ arr.length ≤ 2048) (HNO : RowKit.Hid (whyE dd arr.length i = 0)) (ho : 0 ≤ o ∧ o ≤ 1000000) (ha : -1 ≤ ar ∧ ar ≤ 9223372036854775807) (hf : -1 ≤ fl ∧ fl ≤ 9223372036854775807) {o1 a1 f1 E : Int} {d1 : Bool}
    (HM : RowKit.Hid (MeetsAs false o ar fl dd o1 a1 f1 E d1)) (hE : (E != 0) = true) :
    Calls Try.prog 45 #[callV k i n c ka kn kc, refV Aa arr.length Ac Ra R.length Rc o ar fl dd] w fun e w' => e = .returned (.tuple #[.agg #[.slice Aa arr.length Ac, .slice Ra R.length Rc, .int .i64 o1, .int .i64 a1, .int .i64 f1, .bool d1], .agg (bcells zblk).toArray, .int .i64 E]) ∧ Upd (fun _ => False) w w' := by
  have HA := Lib.hid hA0; have HR := Lib.hid hR; have HL := Lib.hid hl; have HAL := Lib.hid hal
  clear hA0 hR hl hal
  obtain ⟨zb, hzb⟩ : ∃ zb, zb = zblk := ⟨_, rfl⟩
  try rw [← hzb]
  have HZB := Lib.hid hzb
  have HBL : RowKit.Hid (zb.length = 64) := Lib.hid (by rw [hzb]; simp [zblk])
  clear hzb
  unfold callV refV
  go_enter Try.func45, Try.ntmps45
  go_upto_region 2 with fail
  refine (?_ : Code.wp _ _ _ _ (((((w.alloc (.cells #[.int .i64 k, .int .i64 i, .int .i64 n, .int .u8 c, .slice ka kn kc] 51)).alloc (.cells #[.slice Aa arr.length Ac, .slice Ra R.length Rc, .int .i64 o, .int .i64 ar, .int .i64 fl, .bool dd] 69)).alloc (.cells #[.slice none 0 0, .slice none 0 0, .int .i64 0, .int .i64 0, .int .i64 0, .bool false] 69)).alloc (.cells (bcells zblk).toArray 56)).alloc (.cells (bcells zblk).toArray 56)))
  obtain ⟨w1, hw1⟩ : ∃ w1, w1 = (((((w.alloc (.cells #[.int .i64 k, .int .i64 i, .int .i64 n, .int .u8 c, .slice ka kn kc] 51)).alloc (.cells #[.slice Aa arr.length Ac, .slice Ra R.length Rc, .int .i64 o, .int .i64 ar, .int .i64 fl, .bool dd] 69)).alloc (.cells #[.slice none 0 0, .slice none 0 0, .int .i64 0, .int .i64 0, .int .i64 0, .bool false] 69)).alloc (.cells (bcells zblk).toArray 56)).alloc (.cells (bcells zblk).toArray 56)) := ⟨_, rfl⟩
  have hs : SBox w w1 k i n c ka kn kc [.slice Aa arr.length Ac, .slice Ra R.length Rc, .int .i64 o, .int .i64 ar, .int .i64 fl, .bool dd] zb := by rw [hw1, HZB.out]; exact SBox.start w k i n c ka kn kc [.slice Aa arr.length Ac, .slice Ra R.length Rc, .int .i64 o, .int .i64 ar, .int .i64 fl, .bool dd]
  rw [← hw1]
  clear hw1
  have HS1 := Lib.hid hs
  obtain ⟨x0, x1, x2, x3, x4⟩ := box_cells hs.x
  obtain ⟨y0, y1, y2, y3, y4, y5⟩ := cells6_of hs.d
  clear hs
  go_wp2_with fail
  refine (kind_run' hκ i n c ka kn kc _).mono ?_
  rintro e w2 ⟨rfl, hu⟩
  clear x0 x1 x2 x3 x4 y0 y1 y2 y3 y4 y5
  have hs := HS1.out.kept hu
  clear hu
  have HS2 := Lib.hid hs
  obtain ⟨x0, x1, x2, x3, x4⟩ := box_cells hs.x
  obtain ⟨y0, y1, y2, y3, y4, y5⟩ := cells6_of hs.d
  clear hs
  simp only []
  go_wp2_with fail
  refine (why_run' Aa arr.length Ac Ra R.length Rc o ar fl i dd _ hAl.2 HNO).mono ?_
  rintro e w3 ⟨rfl, hu⟩
  clear x0 x1 x2 x3 x4 y0 y1 y2 y3 y4 y5
  have hs := HS2.out.kept hu
  clear hu
  have HS3 := Lib.hid hs
  obtain ⟨x0, x1, x2, x3, x4⟩ := box_cells hs.x
  obtain ⟨y0, y1, y2, y3, y4, y5⟩ := cells6_of hs.d
  clear hs
  simp only []
  go_wp2_with fail
  refine (kind_run' hκ i n c ka kn kc _).mono ?_
  rintro e w4 ⟨rfl, hu⟩
  clear x0 x1 x2 x3 x4 y0 y1 y2 y3 y4 y5
  have hs := HS3.out.kept hu
  clear hu
  have HS4 := Lib.hid hs
  obtain ⟨x0, x1, x2, x3, x4⟩ := box_cells hs.x
  obtain ⟨y0, y1, y2, y3, y4, y5⟩ := cells6_of hs.d
  clear hs
  simp only []
  go_wp2_with fail
  refine (kind_run' hκ i n c ka kn kc _).mono ?_
  rintro e w5 ⟨rfl, hu⟩
  clear x0 x1 x2 x3 x4 y0 y1 y2 y3 y4 y5
  have hs := HS4.out.kept hu
  clear hu
  have HS5 := Lib.hid hs
  obtain ⟨x0, x1, x2, x3, x4⟩ := box_cells hs.x
  obtain ⟨y0, y1, y2, y3, y4, y5⟩ := cells6_of hs.d
  clear hs
  simp only []
  go_wp2_with fail
  refine (kind_run' hκ i n c ka kn kc _).mono ?_
  rintro e w6 ⟨rfl, hu⟩
  clear x0 x1 x2 x3 x4 y0 y1 y2 y3 y4 y5
  have hs := HS5.out.kept hu
  clear hu
  have HS6 := Lib.hid hs
  obtain ⟨x0, x1, x2, x3, x4⟩ := box_cells hs.x
  obtain ⟨y0, y1, y2, y3, y4, y5⟩ := cells6_of hs.d
  clear hs
  simp only []
  go_upto_region 16 with fail
  have hA : SRd w w6.drew k i n c ka kn kc [.slice Aa arr.length Ac, .slice Ra R.length Rc, .int .i64 o, .int .i64 ar, .int .i64 fl, .bool dd] zb := (HS6.out.kept (Upd.refl _ w6).drew).rd
  clear x0 x1 x2 x3 x4 y0 y1 y2 y3 y4 y5
  refine wp_region_G 8 (fun W => SRd w W k i n c ka kn kc [.slice Aa arr.length Ac, .slice Ra R.length Rc, .int .i64 o, .int .i64 ar, .int .i64 fl, .bool dd] zb) [false, false, false, false, false, false, false, false, false, false] rfl (by kernel_rfl) ?_
  have HS7 := Lib.hid (HS6.out.kept (Upd.refl _ w6).drew)
  refine wpG_take (i := 0) (v := .agg [.slice Aa arr.length Ac, .slice Ra R.length Rc, .int .i64 o, .int .i64 ar, .int .i64 fl, .bool dd].toArray) rfl (by kernel_rfl) (fun _ _ _ h => h) hA (.inl ⟨rfl, fun w9 q1 => ?_⟩) ?_
  · exact run_load_mid' rfl rfl [.slice Aa arr.length Ac, .slice Ra R.length Rc, .int .i64 o, .int .i64 ar, .int .i64 fl, .bool dd] (rangeAt_block (b := w.heap.size + 1) (cs := [.slice Aa arr.length Ac, .slice Ra R.length Rc, .int .i64 o, .int .i64 ar, .int .i64 fl, .bool dd]) q1.d) Try.underlying69 rfl Try.size69q
  simp only [Act.put, List.setIfInBounds_toArray, List.set]
  refine wpG_take (i := 1) (v := .agg [.int .i64 k, .int .i64 i, .int .i64 n, .int .u8 c, .slice ka kn kc].toArray) rfl (by kernel_rfl) (fun _ _ _ h => h) hA (.inl ⟨rfl, fun w9 q1 => ?_⟩) ?_
  · exact run_load_mid' rfl rfl [.int .i64 k, .int .i64 i, .int .i64 n, .int .u8 c, .slice ka kn kc] (rangeAt_block (b := w.heap.size) (cs := [.int .i64 k, .int .i64 i, .int .i64 n, .int .u8 c, .slice ka kn kc]) q1.x) Try.underlying51 rfl Try.size51
  simp only [Act.put, List.setIfInBounds_toArray, List.set]
  refine wpG_do (i := 2) rfl (by kernel_rfl) rfl (fun K hK => ?_)
  have HK := Lib.hid hK
  clear hK
  go_step
  refine (kind_run' hκ i n c ka kn kc _).mono ?_
  rintro e w8 ⟨rfl, hu⟩
  have HS8 := Lib.hid (HS7.out.kept hu)
  
  clear hu hA
  have hA := HS8.out.rd
  simp only []
  refine HK.out _ _ hA ?_
  clear HK
  simp only [List.setIfInBounds_toArray, List.set]
  refine wpG_take (i := 3) (v := .bool false) rfl (by kernel_rfl) (fun _ _ _ h => h) hA (.inl ⟨rfl, fun w9 q1 => ?_⟩) ?_
  · go_simp
  simp only [Act.put, List.setIfInBounds_toArray, List.set]
  refine wpG_do (i := 4) rfl (by kernel_rfl) rfl (fun K hK => ?_)
  have HK := Lib.hid hK
  clear hK
  go_step
  refine (meets_run' (o1 := o1) (a1 := a1) (f1 := f1) (E := E) (d1 := d1) _ ho ha hf HM).mono ?_
  rintro e w9 ⟨rfl, hu⟩
  have HS9 := Lib.hid (HS8.out.kept hu)
  
  clear hu hA
  have hA := HS9.out.rd
  simp only []
  refine HK.out _ _ hA ?_
  clear HK
  simp only [List.setIfInBounds_toArray, List.set]
  refine wpG_take (i := 5) (v := .tuple #[.agg [.slice Aa arr.length Ac, .slice Ra R.length Rc, .int .i64 o1, .int .i64 a1, .int .i64 f1, .bool d1].toArray, .int .i64 E]) rfl (by kernel_rfl) (fun _ _ _ h => h) hA (.inl ⟨rfl, fun w9 q1 => ?_⟩) ?_
  · go_simp
  simp only [Act.put, List.setIfInBounds_toArray, List.set]
  refine wpG_take (i := 6) (v := .agg [.slice Aa arr.length Ac, .slice Ra R.length Rc, .int .i64 o1, .int .i64 a1, .int .i64 f1, .bool d1].toArray) rfl (by kernel_rfl) (fun _ _ _ h => h) hA (.inl ⟨rfl, fun w9 q1 => ?_⟩) ?_
  · go_simp
  simp only [Act.put, List.setIfInBounds_toArray, List.set]
  refine wpG_takeP (i := 7) (v := .int .i64 E) rfl (by kernel_rfl) (fun _ _ _ h => h) (fun _ => hA) (.inl ⟨rfl, fun w9 q1 => ?_⟩) ?_
  · go_simp
  simp only [Act.put, List.setIfInBounds_toArray, List.set]
  refine wpG_tail_lit (k := 8) rfl rfl (by kernel_rfl) ?_
  simp only [List.drop]
  clear hA
  refine wpList_store_mid rfl 69 (.tmp 3) (.tmp 60) rfl (w.heap.size + 1) 0 [.slice Aa arr.length Ac, .slice Ra R.length Rc, .int .i64 o1, .int .i64 a1, .int .i64 f1, .bool d1].toArray rfl rfl (show w9.there (w.heap.size + 1) 0 6 from there_block HS9.out.d) Try.size69q (by simp [Value.oneCell']) ?_
  have hs := HS9.out.setD [.slice Aa arr.length Ac, .slice Ra R.length Rc, .int .i64 o1, .int .i64 a1, .int .i64 f1, .bool d1] rfl
  refine (?_ : wpList _ _ _ _ _ (w9.setCells (w.heap.size + 1) 0 [.slice Aa arr.length Ac, .slice Ra R.length Rc, .int .i64 o1, .int .i64 a1, .int .i64 f1, .bool d1]))
  generalize w9.setCells (w.heap.size + 1) 0 [.slice Aa arr.length Ac, .slice Ra R.length Rc, .int .i64 o1, .int .i64 a1, .int .i64 f1, .bool d1] = w10 at *
  have HS10 := Lib.hid hs
  obtain ⟨x0, x1, x2, x3, x4⟩ := box_cells hs.x
  obtain ⟨y0, y1, y2, y3, y4, y5⟩ := cells6_of hs.d
  clear hs
  go_wp2_with fail
  refine (kind_run' hκ i n c ka kn kc _).mono ?_
  rintro e w11 ⟨rfl, hu⟩
  clear x0 x1 x2 x3 x4 y0 y1 y2 y3 y4 y5
  have hs := HS10.out.kept hu
  clear hu
  have HS11 := Lib.hid hs
  obtain ⟨x0, x1, x2, x3, x4⟩ := box_cells hs.x
  obtain ⟨y0, y1, y2, y3, y4, y5⟩ := cells6_of hs.d
  clear hs
  simp only []
  go_upto_region 23 with fail
  have hA : SRd w w11.drew k i n c ka kn kc [.slice Aa arr.length Ac, .slice Ra R.length Rc, .int .i64 o1, .int .i64 a1, .int .i64 f1, .bool d1] zb := (HS11.out.kept (Upd.refl _ w11).drew).rd
  clear x0 x1 x2 x3 x4 y0 y1 y2 y3 y4 y5
  refine wp_region_G 5 (fun W => SRd w W k i n c ka kn kc [.slice Aa arr.length Ac, .slice Ra R.length Rc, .int .i64 o1, .int .i64 a1, .int .i64 f1, .bool d1] zb) [false, false, false, false, false, false] rfl (by kernel_rfl) ?_
  have HS12 := Lib.hid (HS11.out.kept (Upd.refl _ w11).drew)
  refine wpG_take (i := 0) (v := .agg [.slice Aa arr.length Ac, .slice Ra R.length Rc, .int .i64 o1, .int .i64 a1, .int .i64 f1, .bool d1].toArray) rfl (by kernel_rfl) (fun _ _ _ h => h) hA (.inl ⟨rfl, fun w9 q1 => ?_⟩) ?_
  · exact run_load_mid' rfl rfl [.slice Aa arr.length Ac, .slice Ra R.length Rc, .int .i64 o1, .int .i64 a1, .int .i64 f1, .bool d1] (rangeAt_block (b := w.heap.size + 1) (cs := [.slice Aa arr.length Ac, .slice Ra R.length Rc, .int .i64 o1, .int .i64 a1, .int .i64 f1, .bool d1]) q1.d) Try.underlying69 rfl Try.size69q
  simp only [Act.put, List.setIfInBounds_toArray, List.set]
  refine wpG_take (i := 1) (v := .agg (bcells zb).toArray) rfl (by kernel_rfl) (fun _ _ _ h => h) hA (.inl ⟨rfl, fun w9 q1 => ?_⟩) ?_
  · exact run_load_mid' rfl rfl (bcells zb) (rangeAt_block (b := w.heap.size + 1 + 1 + 1 + 1) (cs := (bcells zb)) q1.v) Try.underlying56 rfl (by rw [Try.info56p, bcells_length, HBL.out])
  simp only [Act.put, List.setIfInBounds_toArray, List.set]
  refine wpG_take (i := 2) (v := .int .i64 E) rfl (by kernel_rfl) (fun _ _ _ h => h) hA (.inl ⟨rfl, fun w9 q1 => ?_⟩) ?_
  · go_simp
  simp only [Act.put, List.setIfInBounds_toArray, List.set]
  obtain ⟨ot1, ot2, ot3, ot4⟩ := HS12.out.out [.slice Aa arr.length Ac, .slice Ra R.length Rc, .int .i64 o1, .int .i64 a1, .int .i64 f1, .bool d1] rfl zb HBL.out
  have HO1 := Lib.hid ot1; have HO2 := Lib.hid ot2; have HO3 := Lib.hid ot3; have HO4 := Lib.hid ot4
  have u1 : Upd (fun j => j = w.heap.size + 1 + 1 ∨ j = w.heap.size + 1 + 1 + 1) w11.drew (w11.drew.setCells (w.heap.size + 1 + 1) 0 [.slice Aa arr.length Ac, .slice Ra R.length Rc, .int .i64 o1, .int .i64 a1, .int .i64 f1, .bool d1]) := (upd_setCells w11.drew (w.heap.size + 1 + 1) 0 [.slice Aa arr.length Ac, .slice Ra R.length Rc, .int .i64 o1, .int .i64 a1, .int .i64 f1, .bool d1]).mono (fun j _ e => .inl e)
  have u2 : Upd (fun j => j = w.heap.size + 1 + 1 ∨ j = w.heap.size + 1 + 1 + 1) (w11.drew.setCells (w.heap.size + 1 + 1) 0 [.slice Aa arr.length Ac, .slice Ra R.length Rc, .int .i64 o1, .int .i64 a1, .int .i64 f1, .bool d1]) ((w11.drew.setCells (w.heap.size + 1 + 1) 0 [.slice Aa arr.length Ac, .slice Ra R.length Rc, .int .i64 o1, .int .i64 a1, .int .i64 f1, .bool d1]).setCells (w.heap.size + 1 + 1 + 1) 0 (bcells zb)) := (upd_setCells (w11.drew.setCells (w.heap.size + 1 + 1) 0 [.slice Aa arr.length Ac, .slice Ra R.length Rc, .int .i64 o1, .int .i64 a1, .int .i64 f1, .bool d1]) (w.heap.size + 1 + 1 + 1) 0 (bcells zb)).mono (fun j _ e => .inr e)
  have hA1 := hA.off u1
  have hA2 := hA1.off u2
  have ht1 : w11.drew.there (w.heap.size + 1 + 1) 0 6 := there_block HS12.out.r
  have ht2 : (w11.drew.setCells (w.heap.size + 1 + 1) 0 [.slice Aa arr.length Ac, .slice Ra R.length Rc, .int .i64 o1, .int .i64 a1, .int .i64 f1, .bool d1]).there (w.heap.size + 1 + 1 + 1) 0 (bcells zb).toArray.size := by
    have := there_block (((upd_setCells w11.drew (w.heap.size + 1 + 1) 0 [.slice Aa arr.length Ac, .slice Ra R.length Rc, .int .i64 o1, .int .i64 a1, .int .i64 f1, .bool d1]).block _ (lt_of_heap HS12.out.b) (by omega)).trans HS12.out.b)
    rwa [show (bcells zblk).toArray.size = (bcells zb).toArray.size by simp [bcells_length, HBL.out, zblk]] at this
  clear ot1 ot2 ot3 ot4
  refine wpG_do (i := 3) rfl (by kernel_rfl) rfl (fun K hK => ?_)
  have HK := Lib.hid hK
  clear hK
  refine wp_store_mid 69 (.tmp 4) (.tmp 89) rfl (w.heap.size + 1 + 1) 0 [.slice Aa arr.length Ac, .slice Ra R.length Rc, .int .i64 o1, .int .i64 a1, .int .i64 f1, .bool d1].toArray rfl rfl ht1 Try.size69q (by simp [Value.oneCell']) ?_
  refine HK.out _ _ hA1 ?_
  clear HK
  simp only [Act.put, List.setIfInBounds_toArray, List.set]
  refine wpG_do (i := 4) rfl (by kernel_rfl) rfl (fun K hK => ?_)
  have HK := Lib.hid hK
  clear hK
  refine wp_store_mid 56 (.tmp 5) (.tmp 90) rfl (w.heap.size + 1 + 1 + 1) 0 (bcells zb).toArray rfl rfl ht2 (by rw [Try.info56p]; simp [bcells_length, HBL.out]) (all_oneCell_toArray (bcells_one _)) ?_
  refine HK.out _ _ hA2 ?_
  clear HK
  simp only [Act.put, List.setIfInBounds_toArray, List.set]
  refine wpG_tail_lit (k := 5) rfl rfl (by kernel_rfl) ?_
  simp only [List.drop]
  refine (?_ : wpList _ _ _ _ _ ((w11.drew.setCells (w.heap.size + 1 + 1) 0 [.slice Aa arr.length Ac, .slice Ra R.length Rc, .int .i64 o1, .int .i64 a1, .int .i64 f1, .bool d1]).setCells (w.heap.size + 1 + 1 + 1) 0 (bcells zb)))
  clear hA hA1 hA2 u1 u2 ht1 ht2
  generalize ((w11.drew.setCells (w.heap.size + 1 + 1) 0 [.slice Aa arr.length Ac, .slice Ra R.length Rc, .int .i64 o1, .int .i64 a1, .int .i64 f1, .bool d1]).setCells (w.heap.size + 1 + 1 + 1) 0 (bcells zb)) = wf at *
  go_wp2
  exact says_fin HO1.out rfl HO2.out HBL.out rfl rfl ⟨rfl, HO4.out⟩

end Go.Proofs.Ytbimkhdiplnbfaa
end

