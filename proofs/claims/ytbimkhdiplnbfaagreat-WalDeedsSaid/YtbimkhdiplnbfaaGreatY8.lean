/- Walks: Sectors; a sector sealed. -/
import Derived.Test.YtbimkhdiplnbfaaGreatY6
import Derived.Test.YtbimkhdiplnbfaaGreatY7
set_option linter.unusedVariables false
set_option linter.unusedSimpArgs false
namespace Go.Proofs.YtbimkhdiplnbfaaGreat
set_option maxRecDepth 1000000
set_option maxHeartbeats 16000000
section
open Go.RowKit
def secsI (n : Int) : Int := if n < 0 ∨ 40000 < n then 0 else (n + 51) / 48
theorem sectors_any (n : Int) (w : World) : Calls Tryz.prog 113 #[.int .i64 n] w fun e w' => e = .returned (.int .i64 (secsI n)) ∧ w = w' := by
 have hs : secsI n = if n < 0 ∨ 40000 < n then 0 else (n + 51) / 48 := rfl
 by_cases h1 : n < 0
 ·have e : secsI n = 0 := by rw [hs, if_pos (.inl h1)]
  rw [e]
  go_enter Tryz.func113, Tryz.ntmps113
  go_wp2
  go_ret
  exact ⟨rfl, rfl⟩
 ·by_cases h2 : 40000 < n
  ·have e : secsI n = 0 := by rw [hs, if_pos (.inr h2)]
   rw [e]
   have h3 : n > 40000 := h2
   go_enter Tryz.func113, Tryz.ntmps113
   go_wp2
   go_ret
   exact ⟨rfl, rfl⟩
  ·have e : secsI n = (n + 51) / 48 := by rw [hs, if_neg (by omega)]
   have e2 : (wrap64 (4 + n + 48) - 1).tdiv 48 = (n + 51) / 48 := by rw [IntWalk.wrap64_in _ (by omega), Int.tdiv_eq_ediv_of_nonneg (by omega)]; congr 1; omega
   have e3 : (4 + n + 48 - 1).tdiv 48 = (n + 51) / 48 := by rw [Int.tdiv_eq_ediv_of_nonneg (by omega)]; congr 1; omega
   rw [e]
   have h3 : ¬ n > 40000 := h2
   have h4 : 0 ≤ n := by omega
   have h5 : n ≤ 40000 := by omega
   clear hs e
   go_enter Tryz.func113, Tryz.ntmps113
   go_wp2
   go_ret
   exact ⟨rfl, rfl⟩
theorem array_any (g c : Nat) (w : World) : (Instr.arrayAt 48 (.slice (some ⟨g, 0, none⟩) 64 c)).run Tryz.prog w = .ok (.pointer (some ⟨g, 0, none⟩)) w := by
 simp [Instr.arrayAt, run_underlying Tryz.underlying48]
theorem sectorF_length {bs : List Int} (h : bs.length < 60) : (sectorF bs).length = 64 := by simp [sectorF, layF_length]; omega
theorem Bytes.append {a b : List Int} (ha : Bytes a) (hb : Bytes b) : Bytes (a ++ b) := fun x hx => (List.mem_append.1 hx).elim (ha x) (hb x)
theorem Bytes.zeros (m : Nat) : Bytes (List.replicate m 0) := fun x hx => by simp at hx; omega
theorem sumF_bound (bs : List Int) : 0 ≤ sumF bs ∧ sumF bs ≤ 4294967295 := by
 have := sumP_bound bs
 unfold sumF; omega
theorem rangeAt_own {w : World} {B g n c : Nat} {bs : List Int} (h : OwnB w B (.slice (some ⟨g, 0, none⟩) n c) bs) : w.rangeAt g 0 (bcells bs) := by
 intro j v hv
 have := World.ownsRow.cells h (g := g) rfl j v hv
 rwa [Addr.add_mid] at this
theorem OwnB.slice_of {w : World} {B : Nat} {v : Value} {bs : List Int} (h : OwnB w B v bs) (hne : bs ≠ []) : ∃ g c, v = .slice (some ⟨g, 0, none⟩) bs.length c := by
 rcases h.2 with ⟨_, h2⟩ | ⟨g, cap, cur, h1, _⟩
 ·exact absurd (List.length_eq_zero_iff.1 h2) hne
 ·exact ⟨g, cap, h1⟩
theorem OwnB.slice' {w : World} {B : Nat} {v : Value} {bs : List Int} (h : OwnB w B v bs) : ∃ sa c, v = .slice sa bs.length c := by
 rcases h.2 with ⟨h1, h2⟩ | ⟨g, cap, cur, h1, _⟩
 ·exact ⟨none, 0, by rw [h1, h2]⟩
 ·exact ⟨_, cap, h1⟩
theorem sector_any {B : Nat} {v : Value} {bs : List Int} (w : World) (hl : bs.length < 60) (hb : Bytes bs) (hB : B ≤ w.heap.size) (ho : OwnB w B v bs) :
  Calls Tryz.prog 191 #[v] w fun e w' => e = .returned (.agg (bcells (sectorF bs)).toArray) ∧ Upd (fun k => v.ownBlock = some k) w w' := by
 obtain ⟨sa, sc, rfl⟩ := ho.slice'
 have hlt := World.ownsRow.lt ho
 have hi : (Tryz.prog.info? 48).map (·.size) = some (bcells (sectorF bs)).length := by rw [Tryz.info56p]; simp [bcells, sectorF_length hl]
 have H1B := Lib.hid (all_oneCell_toArray (bcells_one (sectorF bs)))
 have HL : RowKit.Hid ((bcells (sectorF bs)).length = 64) := Lib.hid (by simp [bcells, sectorF_length hl])
 have HI := Lib.hid hi
 clear hi
 obtain ⟨w0, hw0⟩ : ∃ w0, w0 = w.alloc (.cells (bcells zblk).toArray 48) := ⟨_, rfl⟩
 have hb0 : w0.heap[w.heap.size]? = some (.cells (bcells zblk).toArray 48 (0, 0)) := by rw [hw0]; exact alloc_at rfl
 have hu0 : Upd (fun _ => False) w w0 := by rw [hw0]; exact (Upd.refl _ w).alloc _
 have ho0 : OwnB w0 B (.slice sa bs.length sc) bs := ho.keptF hu0 (fun _ _ e => e)
 obtain ⟨v', w1, hr, h1, h2, h3⟩ := run_append_zeros_own (ty := 39) (m := 60 - bs.length) ho0 (by omega) (by omega) (by have := hu0.size; omega)
 rw [show ((60 - bs.length : Nat) : Int) = 60 - (bs.length : Int) by omega] at hr
 have hu1 : Upd (fun k => (Value.slice sa bs.length sc).ownBlock = some k) w w1 := (hu0.mono (fun _ _ e => e.elim)).trans (Upd.of_grown h2 (fun k hk => hk))
 have hb1 : w1.heap[w.heap.size]? = some (.cells (bcells zblk).toArray 48 (0, 0)) := (h2.block _ (lt_of_heap hb0) (fun e => by have := (hlt _ e.symm).2; omega)).trans hb0
 have hlen : (bs ++ List.replicate (60 - bs.length) (0 : Int)).length = 60 := by simp; omega
 have hby : Bytes (bs ++ List.replicate (60 - bs.length) (0 : Int)) := hb.append (Bytes.zeros _)
 obtain ⟨cs, hcs⟩ : ∃ cs, cs = bs ++ List.replicate (60 - bs.length) (0 : Int) := ⟨_, rfl⟩
 have hsec : sectorF bs = cs ++ layF (sumF cs) 32 := by rw [hcs]; rfl
 rw [← hcs] at hlen hby h1
 obtain ⟨g1, c1, rfl⟩ := h1.slice_of (by intro e; rw [e] at hlen; simp at hlen)
 have HR := Lib.hid hr; have HO := Lib.hid h1; have HU := Lib.hid hu1; have HB := Lib.hid hb1; have HS := Lib.hid hsec; have HBY := Lib.hid hby; have HLN := Lib.hid hlen; have HW0 := Lib.hid hw0
 clear ho ho0 hr h1 h2 h3 hu0 hu1 hb0 hb1 hcs hsec hlen hby hlt hw0
 go_enter Tryz.func191, Tryz.ntmps191
 go_upto_region 1 with fail
 iterate 13 go_step
 refine Lib.wpList_append_run (w.alloc (.cells (bcells zblk).toArray 48)) rfl (.tmp 3) (.tmp 6) 39 3 rfl _ _ rfl rfl _ _ (by rw [← HW0.out]; exact HR.out) ?_
 clear HR HW0
 go_wp2_with (go_at_call 190; fail)
 refine (sum_any w1 (by have := HLN.out; omega) HO.out.bytesIn HBY.out).mono ?_
 rintro e w2 ⟨rfl, hu2⟩
 have HU2 : RowKit.Hid (Upd (fun _ => False) w1 w2) := Lib.hid hu2
 clear hu2
 simp only []
 go_wp2_with (go_at_call 189; fail)
 refine (put32_any w2 (by have := HLN.out; omega) (HO.out.bytesIn.kept HU2.out) (sumF_bound cs)).mono ?_
 rintro e w3 ⟨u3, rfl, ho3, hu3⟩
 rw [← HS.out] at ho3
 obtain ⟨g3, c3, rfl⟩ := ho3.slice_of (by intro e; have := sectorF_length hl; rw [e] at this; simp at this)
 have hs64 := sectorF_length hl
 have h3r := rangeAt_own ho3
 rw [hs64]
 have hu13 : Upd (fun _ => False) w1 w3 := HU2.out.trans hu3
 have hb3 := (hu13.block _ (lt_of_heap HB.out) (fun e => e)).trans HB.out
 have hu3' : Upd (fun k => (Value.slice sa bs.length sc).ownBlock = some k) w w3 := HU.out.trans (hu13.mono (fun _ _ e => e.elim))
 have hz : (bcells zblk).toArray.size = 64 := by simp [bcells, zblk]
 have hth : w3.there w.heap.size 0 (bcells (sectorF bs)).toArray.size := by
  have := there_block hb3
  rwa [show (bcells zblk).toArray.size = (bcells (sectorF bs)).toArray.size by rw [hz]; simp [HL.out]] at this
 have hw := heap_setCells_whole (vs := bcells (sectorF bs)) hb3 (by rw [hz, HL.out])
 have HTH := Lib.hid hth; have HW := Lib.hid hw; have HU3 := Lib.hid hu3'; have HR3 := Lib.hid h3r
 have hat := array_any g3 c3 w3
 clear ho3 hu3 hs64 h3r hu13 hb3 hu3' hz hth hw HU HO HB HS HBY HLN HU2
 simp only []
 iterate 4 go_step
 refine wpList_load_mid rfl 48 (.tmp 12) rfl g3 0 rfl (bcells (sectorF bs)) _ HR3.out Tryz.underlying48 rfl HI.out ?_
 refine wpList_store_mid rfl 48 (.tmp 2) (.tmp 13) rfl w.heap.size 0 (bcells (sectorF bs)).toArray rfl rfl HTH.out (by rw [HI.out]; simp) H1B.out ?_
 go_wp2
 have hl3 := run_loadVar_mid (P := Tryz.prog) (w3.setCells w.heap.size 0 (bcells (sectorF bs))) w.heap.size 0 48 (bcells (sectorF bs)) _ (rangeAt_block HW.out) Tryz.underlying48 rfl HI.out
 refine bodyPost_ret (results_cell1 Tryz.results191 rfl hl3) rfl ⟨rfl, ?_⟩
 exact (Upd.setCells (F := fun k => (Value.slice sa bs.length sc).ownBlock = some k ∨ w.heap.size ≤ k) (.inr (Nat.le_refl _)) (bcells (sectorF bs)) 0 (HU3.out.mono (fun _ _ e => .inl e))).mono (fun j hj e => e.elim id (fun e => by omega))
end
end Go.Proofs.YtbimkhdiplnbfaaGreat
