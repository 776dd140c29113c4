/- Walks of the laws: slices.DeleteFunc at calm's closure. -/
import Derived.Test.YtbimkhdiplnbfaaN2
namespace Go.Proofs.Ytbimkhdiplnbfaa
open Go.RowKit Go.Deep

theorem run_exec_clear {o : Oper} {a : Act} {w w' : World} {s : Operand} {v u : Value} (ho : o.op = .call { callee := .builtin .clear, args := #[s], argTypes := #[65] }) (hs : a.eval s = v)
    (hr : (Builtin.clear_ #[65] o.type #[v]).run Try.prog w = .ok u w') : (execOp a.eval o).run Try.prog w = .ok (.value u) w' := by
  simp [execOp, ho, resolve, invoke, builtin, hs, hr, Result.andThen]

/-- What holds in DeleteFunc's loop: the first i stay. -/
structure DelAt (w wr : World) (g cap : Nat) (L M : List CallR) (i : Nat) : Prop where
  row : RowC wr g cap M
  len : M.length = L.length
  calm : ∀ p x, p < i → M[p]? = some x → kindOf x.k ≤ 6
  mem : ∀ x ∈ M, x ∈ L
  upd : Upd (fun k => k = g) w wr

theorem DelAt.kept {w wr W : World} {g cap : Nat} {L M : List CallR} {i : Nat} (h : DelAt w wr g cap L M i) (hu : Upd (fun _ => False) wr W) : DelAt w W g cap L M i :=
  ⟨h.row.kept hu (fun e => e), h.len, h.calm, h.mem, h.upd.trans (hu.mono (fun _ _ e => e.elim))⟩

theorem DelAt.store {w wr : World} {g cap : Nat} {L M : List CallR} {i : Nat} (h : DelAt w wr g cap L M i) (hi : i < M.length) {x : CallR} (hx : x ∈ M) (hk : kindOf x.k ≤ 6) :
    DelAt w (wr.setCells g (i * 5) (cells5 x)) g cap L (M.set i x) (i + 1) := by
  refine ⟨h.row.store hi x, by rw [List.length_set]; exact h.len, fun p y hp hy => ?_, fun y hy => ?_, h.upd.trans (upd_setCells _ _ _ _)⟩
  · by_cases hpi : p = i
    · subst hpi
      simp [hi] at hy
      subst hy; exact hk
    · rw [List.getElem?_set_ne (Ne.symm hpi)] at hy
      exact h.calm p y (by omega) hy
  · rcases List.mem_or_eq_of_mem_set hy with hy | rfl
    · exact h.mem y hy
    · exact h.mem _ hx

set_option maxRecDepth 8000 in
set_option maxHeartbeats 2000000 in
theorem delete_run {g cap : Nat} {L : List CallR} (w : World) (h : RowC w g cap L) (hL : L.length ≤ 1000) (hcap : L.length ≤ cap ∧ cap ≤ maxLen) :
    Calls Try.prog 98 #[.slice (some ⟨g, 0, none⟩) L.length cap, .func (.func 100) #[] #[]] w fun e w' =>
      ∃ L' : List CallR, e = .returned (.slice (some ⟨g, 0, none⟩) L'.length cap) ∧ RowC w' g cap L' ∧ L'.length ≤ L.length ∧ (∀ x ∈ L', kindOf x.k ≤ 6 ∧ x ∈ L) ∧ Upd (fun k => k = g) w w' := by
  have HR := Lib.hid h
  have hi0 := indexF_run w h hL
  have hml := hcap.2
  unfold maxLen at hml
  clear h
  go_enter Try.func98, Try.ntmps98
  go_wp2_with (go_at_call 118; fail)
  refine hi0.mono ?_
  rintro e w1 ⟨he, hu1⟩
  have HU1 := Lib.hid hu1
  clear hi0 hu1
  rcases he with ⟨rfl, hall⟩ | ⟨q, hq, rfl, hall⟩
  · have HALL := Lib.hid hall
    clear hall
    simp only []
    go_wp2
    go_ret
    exact ⟨L, rfl, HR.out.kept HU1.out (fun e => e), Nat.le_refl _, fun x hx => ⟨HALL.out x hx, hx⟩, HU1.out.mono (fun _ _ e => e.elim)⟩
  · have hq1 : ¬ ((q : Int) = -1) := by omega
    have HD : RowKit.Hid (DelAt w w1 g cap L L q) := Lib.hid ⟨HR.out.kept HU1.out (fun e => e), rfl, hall, fun x hx => hx, HU1.out.mono (fun _ _ e => e.elim)⟩
    clear hall HR HU1
    simp only []
    go_wp2
    go_loopg [5, 6] (L.length - (q + 1)) (fun gk i j wr => ∃ i' j' : Nat, ∃ M, i' < j' ∧ j' ≤ L.length ∧ gk = L.length - j' ∧ i = .int .i64 i' ∧ j = .int .i64 j' ∧ DelAt w wr g cap L M i')
    case atStart => exact ⟨q, q + 1, L, by omega, by omega, rfl, rfl, congrArg _ (by omega), HD.out⟩
    case round =>
      clear HD
      obtain ⟨i', j', M, hij, hjl, rfl, rfl, rfl, hd⟩ := hrel
      have hml2 := hd.len
      have HD := Lib.hid hd
      clear hd
      obtain ⟨wo, rfl⟩ : ∃ wo, wo = wr := ⟨_, rfl⟩
      by_cases hjn : j' < L.length
      · have hjn2 : (j' : Int) < L.length := by omega
        obtain ⟨x, hx⟩ : ∃ x, M[j']? = some x := ⟨M[j'], by simp [hml2, hjn]⟩
        have hr := HD.out.row
        have y0 : wo.cell? ⟨g, j' * 5, none⟩ = some (.int .i64 x.k) := hr.cell (t := 0) hx (by omega)
        have y1 : wo.cell? ⟨g, j' * 5 + 1, none⟩ = some (.int .i64 x.i) := hr.cell (t := 1) hx (by omega)
        have y2 : wo.cell? ⟨g, j' * 5 + 2, none⟩ = some (.int .i64 x.n) := hr.cell (t := 2) hx (by omega)
        have y3 : wo.cell? ⟨g, j' * 5 + 3, none⟩ = some (.int .u8 x.c) := hr.cell (t := 3) hx (by omega)
        have y4 : wo.cell? ⟨g, j' * 5 + 4, none⟩ = some (.slice x.ka x.kn x.kc) := hr.cell (t := 4) hx (by omega)
        have HX := Lib.hid hx
        clear hr hx
        go_wp2_with (go_at_call 100; fail)
        refine (calmF_run x _).mono ?_
        rintro e w2 ⟨rfl, hu2⟩
        have hbx : w2.heap[wo.heap.size]? = some (.cells (cells5 x).toArray 51 (0, 0)) := (hu2.block _ (by simp) (fun e => e)).trans (alloc_at rfl)
        have HD2 := Lib.hid (HD.out.kept (((Upd.refl _ wo).alloc _).trans hu2))
        have HBX := Lib.hid hbx
        clear hu2 hbx HD y0 y1 y2 y3 y4
        by_cases h6 : 6 < kindOf x.k
        · simp only [h6, decide_true]
          go_wp2
          go_roundg (L.length - (j' + 1))
          case measure => omega
          case rel => exact ⟨i', j' + 1, M, by omega, by omega, rfl, rfl, congrArg _ (by omega), HD2.out⟩
        · simp only [h6, decide_false]
          have hil : i' < M.length := by omega
          have hib : (i' : Int) < L.length := by omega
          go_upto_region 9 with fail
          iterate 7 go_step
          refine wpList_load_mid rfl 51 (.tmp 7) rfl wo.heap.size 0 rfl (cells5 x) _ (rangeAt_block HBX.out) Try.underlying51 rfl Try.size51c ?_
          iterate 3 go_step
          refine wpList_store_mid rfl 51 (.tmp 33) (.tmp 32) rfl g (i' * 5) (cells5 x).toArray rfl rfl (HD2.out.row.there hil) Try.size51c (all_oneCell_toArray (cells5_one x)) ?_
          have HD3 := Lib.hid (HD2.out.store hil (List.mem_of_getElem? HX.out) (by omega))
          refine (?_ : wpList _ _ _ _ _ (w2.setCells g (i' * 5) (cells5 x)))
          generalize w2.setCells g (i' * 5) (cells5 x) = w3 at *
          go_wp2
          go_roundg (L.length - (j' + 1))
          case measure => omega
          case rel => exact ⟨i' + 1, j' + 1, M.set i' x, by omega, by omega, rfl, congrArg _ (by omega), congrArg _ (by omega), HD3.out⟩
      · obtain rfl : j' = L.length := by omega
        have hi1 : (i' : Int) ≤ L.length := by omega
        have hi2 : (i' : Int) ≤ cap := by omega
        have hc2 : (L.length : Int) ≤ cap := by omega
        have hic : ¬ cap - i' = 0 := by omega
        go_upto_region 11 with fail
        iterate 10 go_step
        obtain ⟨vs, hvl, hcl⟩ := run_clear5 wo 0 HD.out.row (i := i') (by omega) (cap - i')
        have hcut := HD.out.row.cut (i := i') (by omega) vs (by rw [hvl]; omega)
        have hup := HD.out.upd.trans (upd_setCells wo g (i' * 5) vs)
        rw [hml2] at hcl
        refine wpList_exec rfl (run_exec_clear rfl rfl hcl) ?_
        have HCU := Lib.hid hcut; have HUP := Lib.hid hup
        clear hcl hcut hup hvl
        refine (?_ : wpList _ _ _ _ _ (wo.setCells g (i' * 5) vs))
        generalize wo.setCells g (i' * 5) vs = w3 at *
        go_wp2
        go_ret
        have htl : (M.take i').length = i' := by rw [List.length_take]; omega
        refine ⟨M.take i', by rw [htl]; rfl, HCU.out, by omega, fun x hx => ?_, HUP.out⟩
        obtain ⟨p, hp, hpx⟩ := List.getElem_of_mem hx
        rw [htl] at hp
        refine ⟨HD.out.calm p x hp ?_, HD.out.mem x (List.mem_of_mem_take hx)⟩
        rw [← hpx]
        simp

end Go.Proofs.Ytbimkhdiplnbfaa
