/- Walks of the disk: row, sorted. -/
import Derived.Test.YtbimkhdiplnbfaaGreatY13
import Derived.Test.YtbimkhdiplnbfaaGreatY30
set_option linter.unusedVariables false
set_option linter.unusedSimpArgs false
namespace Go.Proofs.YtbimkhdiplnbfaaGreat
set_option maxRecDepth 1000000
set_option maxHeartbeats 16000000
section
open Go.RowKit Go.Sort
structure RowS (w0 w : World) (b : Nat) (R : List (Nat × List Int × Int)) (v : Value) : Prop where
 upd : Upd (fun _ => False) w0 w
 cell : w.heap[b]? = some (.cells #[v] 219 (0, 0))
 row : (v = .slice none 0 0 ∧ R = []) ∨ ∃ gg cap, v = .slice (some ⟨gg, 0, none⟩) R.length cap ∧ w0.heap.size ≤ gg ∧ gg < w.heap.size ∧ gg ≠ b ∧ ∀ i x, R[i]? = some x → w.rangeAt gg (i * 66) (ecells x)
def okEl (x : Nat × List Int × Int) : Prop := x.2.1.length = 64 ∧ 0 ≤ x.2.2 ∧ x.2.2 ≤ 2199023255552
theorem els_of : ∀ (L : List (Nat × List Int × Int)), (∀ x ∈ L, okEl x) → ∃ M : List El, M.map (·.1) = L
 | [], _ => ⟨[], rfl⟩
 |x :: L, h => by
  obtain ⟨M, hM⟩ := els_of L (fun y hy => h y (List.mem_cons_of_mem _ hy))
  exact ⟨⟨x, h x List.mem_cons_self⟩ :: M, by rw [List.map_cons, hM]⟩
theorem els_flat (M : List El) : M.flatMap encE = (M.map (·.1)).flatMap ecells := by
 rw [List.flatMap_map]; rfl
theorem ltOf_cfE (x y : El) : ltOf cfE x y = decide (x.1.2.2 < y.1.2.2) := by
 unfold ltOf cfE
 by_cases h : x.1.2.2 < y.1.2.2
 ·simp [h]; omega
 ·simp [h]; omega
theorem swoE : SWO (ltOf cfE) where
 irrefl x := by rw [ltOf_cfE]; simp
 trans x y z h1 h2 := by rw [ltOf_cfE] at *; simp at *; omega
 ntrans x y z h1 h2 := by rw [ltOf_cfE] at *; simp at *; omega
theorem cmpLaysE (blk off size : Nat) (w : World) : CmpLays Tryz.prog 140 #[] encE 66 cfE blk off size w := fun m os dk _ x y => by
 refine (cmp_run (encE x) (encE y) x.1.2.2 y.1.2.2 (sortWorldK encE 66 w blk off m dk os) (ecells_nth _ x.2.1) (ecells_nth _ y.2.1) x.2.2 y.2.2).mono ?_
 rintro e w' ⟨rfl, rfl⟩
 exact ⟨rfl, 0, _, by rw [alloc_eq_grow, alloc_eq_grow, grow_grow]; rfl⟩
theorem sorted_list {d d' : Array El} (hp : PermIn 0 d.size d d') (hs : SortedIn (ltOf cfE) 0 d.size d') {L R : List (Nat × List Int × Int)} (hL : d.toList.map (·.1) = L) (hR : L.Perm R) (hsR : R.Pairwise (fun x y => x.2.2 < y.2.2)) :
  d'.toList.map (·.1) = R := by
 obtain ⟨h1, _, h3⟩ := hp
 have h4 : d'.toList.Perm d.toList := by
  have e1 : d'.extract 0 d.size = d' := by rw [← h1]; simp
  have e2 : d.extract 0 d.size = d := by simp
  rw [e1, e2] at h3; exact h3
 refine perm_sorted_eq _ _ ((h4.map _).trans (by rw [hL]; exact hR)) ?_ hsR
 rw [List.pairwise_map, List.pairwise_iff_getElem]
 intro i j hi hj hij
 have := hs i j (Nat.zero_le _) hij (by simpa [h1] using hj)
 rw [ltOf_cfE] at this
 have hi' : i < d'.size := by simpa using hi
 have hj' : j < d'.size := by simpa using hj
 rw [getElem!_pos d' i hi', getElem!_pos d' j hj'] at this
 simp at this ⊢
 omega
theorem sort_row {D : Dk} {K : Nat} {w0 w : World} {v : Value} (h : RowAt w0 w v (D.pile D.arr.length)) (hok : D.Ok K) (hK : K ≤ 1099511627774) :
  Calls Tryz.prog 139 #[v, .func (.func 140) #[] #[]] w fun e w' => e = .returned (.tuple #[]) ∧ RowS w0 w' w0.heap.size D.row v := by
 have hfl : D.row.filter (fun x => decide (x.1 < D.arr.length)) = D.row := by
  rw [List.filter_eq_self]
  intro x hx
  simpa using (hok.rblks x hx).2.1
 have hperm := pile_perm D D.arr.length
 rw [hfl] at hperm
 have hel : ∀ x ∈ D.pile D.arr.length, okEl x := fun x hx => by
  obtain ⟨h1, _, h3, h4⟩ := hok.rblks x (hperm.mem_iff.1 hx)
  have := hok.sent.2
  exact ⟨h1.1, by omega, by omega⟩
 have hlen := hperm.length_eq
 generalize hpl : D.pile D.arr.length = L at *
 have hcellb := h.cell
 rcases h.own.2 with ⟨hv, hn⟩ | ⟨gg, cap, cur, hv, hb, hh, hle, r⟩
 ·have hL : L = [] := List.length_eq_zero_iff.1 hn
  subst hv
  refine (AnyF.slices_SortFunc_none Tryz.sortSent none 0 _ w).mono ?_
  rintro e w' ⟨rfl, rfl⟩
  refine ⟨rfl, h.upd, h.cell, .inl ⟨rfl, ?_⟩⟩
  rw [hL] at hlen
  exact List.length_eq_zero_iff.1 hlen.symm
 ·subst hv
  obtain ⟨M, hM⟩ := els_of L hel
  have hml : M.length = L.length := by rw [← hM]; simp
  obtain ⟨d, hd⟩ : ∃ d : Array El, d = M.toArray := ⟨_, rfl⟩
  have hds : d.size = L.length := by rw [hd]; simp [hml]
  have hdl : d.toList = M := by rw [hd]
  have hH : HoldsK encE 66 w gg 0 d := by
   refine holdsK_of_own (B := w0.heap.size) (cap := cap) ?_
   rw [hds, hdl, els_flat, hM]
   exact h.own
  have hgne : gg ≠ w0.heap.size := fun e => h.ne (by rw [e]; rfl)
  have hrl := hok.rowlen
  have hcon := AnyQ.slices_SortFunc Tryz.sortSent 66 (fun w => by kernel_rfl) (fun w => by kernel_rfl) encE encE_length encE_one cfE swoE 140 #[] gg 0 cap d w callF_enters116 (cmpLaysE gg 0 d.size w) hH (lt_of_heap hh) (by omega)
  rw [hds] at hcon
  change Calls Tryz.prog 139 _ _ _ at hcon
  refine hcon.mono ?_
  rintro e w' ⟨rfl, d', n, os, hp, hs, rfl⟩
  rw [← hds] at hp hs
  have hu := upd_sort encE 66 w gg 0 n d' os
  have hsz : d'.size = d.size := hp.1
  have hR := sorted_list hp hs (by rw [hdl, hM]) hperm hok.sorted
  have hH2 : HoldsK encE 66 (sortWorldK encE 66 w gg 0 n d' os) gg 0 d' := by
   refine holdsK_grow encE 66 _ os gg 0 d' ?_ (holdsK_putRowK encE 66 (Sort.ahead w n) gg 0 d d' (holdsK_ahead encE 66 w n gg 0 d hH) hsz)
   have := lt_of_heap hh
   simpa [putRowK, putRow, mapBlock] using this
  refine ⟨rfl, ?_, ?_, .inr ⟨gg, cap, ?_, hb, Nat.lt_of_lt_of_le (lt_of_heap hh) hu.size, hgne, ?_⟩⟩
  ·exact ⟨hu.os.trans h.upd.os, hu.tape.trans h.upd.tape, hu.output.trans h.upd.output, Nat.le_trans h.upd.size hu.size, fun k hk _ =>
    (hu.block k (Nat.lt_of_lt_of_le hk h.upd.size) (fun e => by omega)).trans (h.upd.block k hk (fun e => e))⟩
  ·exact (hu.block _ (lt_of_heap h.cell) (fun e => hgne e.symm)).trans h.cell
  ·rw [hlen]
  ·intro i x hx
   have hi : i < d'.size := by
    have := (List.getElem?_eq_some_iff.1 hx).1
    rw [hsz, hds, hlen]; exact this
   have := rangeAt_holdsK hH2 hi encE_length
   have e : (d'[i]!).1 = x := by
    rw [← hR] at hx
    rw [getElem!_pos d' i hi]
    simp [hi] at hx
    exact hx
   rw [← e]
   exact this
end
end Go.Proofs.YtbimkhdiplnbfaaGreat
