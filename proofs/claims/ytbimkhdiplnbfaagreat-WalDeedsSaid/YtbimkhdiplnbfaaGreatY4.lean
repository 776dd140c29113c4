/- Walks of the disk: Write over the disk as a value. -/
import Derived.Test.YtbimkhdiplnbfaaGreatY1
import Derived.Test.YtbimkhdiplnbfaaGreatY2
import Derived.Shelf.Abstract
set_option linter.unusedVariables false
set_option linter.unusedSimpArgs false
namespace Go.Proofs.YtbimkhdiplnbfaaGreat
set_option maxRecDepth 1000000
set_option maxHeartbeats 16000000
section
open Go.RowKit
def Left (w : World) (p : Nat) (D : Dk) (F : Nat → Prop) (w' : World) : Prop := ∃ F', Dsk w' p D F' ∧ (∀ k, F' k → F k ∨ w.heap.size ≤ k) ∧ Upd F w w'
theorem Left.same {w : World} {p : Nat} {D : Dk} {F : Nat → Prop} (h : Dsk w p D F) : Left w p D F w := ⟨F, h, fun _ hk => .inl hk, Upd.refl _ _⟩
theorem Left.main {w w' : World} {p s : Nat} {D D' : Dk} {g c : Nat → Nat} {F : Nat → Prop} (h : DiskAt w p D s g c) (hF : ∀ k, F k ↔ Fp p s g D.arr.length k) (ha : D'.arr = D.arr) (hr : D'.row = D.row)
  (hm : w'.heap[p]? = some (mainObj s D'.arr.length D'.sent D'.ops D'.arm D'.fail D'.dead)) (hu : Upd (fun k => k = p) w w') : Left w p D' F w' :=
 ⟨F, ⟨s, g, c, h.withMain ha hr hm hu, by rw [ha]; exact hF⟩, fun _ hk => .inl hk, hu.mono (fun k _ hk => (hF k).2 (.inl hk))⟩
theorem vers_length_le (D : Dk) (i : Nat) : (D.vers i).length ≤ D.row.length + 1 := by
 simp [Dk.vers]; exact List.length_filter_le _ _
theorem callF_enters81 : ∀ args w, (callFunc 185 args).run Tryz.prog w = .ok (.enter 185 args) w := enters_of Tryz.func185 (by kernel_rfl) rfl
theorem callF_enters90 : ∀ args w, (callFunc 80 args).run Tryz.prog w = .ok (.enter 80 args) w := enters_of Tryz.func80 (by kernel_rfl) rfl
theorem sends_any {p s : Nat} {D : Dk} {g c : Nat → Nat} {k bd bb : Nat} {b : List Int} (w : World) (h : DiskAt w p D s g c) (hk : k < D.arr.length) (hrl : D.row.length ≤ 1099511627774) (hsl : 0 ≤ D.sent ∧ D.sent ≤ 1099511627774)
  (hd : w.heap[bd]? = some (.cells #[.pointer (some ⟨p, 0, none⟩)] 25 (0, 0))) (hb : w.heap[bb]? = some (.cells (bcells b).toArray 48 (0, 0))) (hbl : b.length = 64)
  (nd : ¬ Fp p s g D.arr.length bd) (nb : ¬ Fp p s g D.arr.length bb) :
  Calls Tryz.prog 185 #[.pointer (some ⟨s, k, none⟩), .pointer (some ⟨bd, 0, none⟩), .pointer (some ⟨bb, 0, none⟩)] w fun e w' => e = .returned (.tuple #[]) ∧
   ∃ g' c', DiskAt w' p (D.send k b) s g' c' ∧ (∀ j, j < D.arr.length → g' j = g j ∨ w.heap.size ≤ g' j) ∧ Upd (fun j => j = p ∨ j = s ∨ j = g k) w w' := by
 have hrow := h.rows k hk
 have hl := vers_length_le D k
 refine (sends_run (k := k) (bs := bcells b) w h.main h.sec (by simp [hk]) hrow hd hb (by simp [bcells, hbl]) (bcells_one b) (by omega) ⟨hsl.1, by have := hsl.2; omega⟩ h.ps (h.gp k hk) (h.gs k hk)
  (fun e => nd (.inl e)) (fun e => nd (.inr (.inl e))) (fun e => nd (.inr (.inr ⟨k, hk, e⟩))) (fun e => nb (.inl e)) (fun e => nb (.inr (.inl e))) (fun e => nb (.inr (.inr ⟨k, hk, e⟩)))).mono ?_
 rintro e w' ⟨rfl, g', cap', h1, h2, h3, h4, h5⟩
 refine ⟨rfl, _, _, h.sent hk h1 h2 h3 h4 h5, fun j hj => ?_, h5⟩
 by_cases hjk : j = k
 ·subst hjk; simpa using h4
 ·simp [hjk]
theorem Left.of_upd {w w0 w' : World} {p : Nat} {D : Dk} {F : Nat → Prop} (h : Left w0 p D F w') (hu : Upd F w w0) (hs : w.heap.size ≤ w0.heap.size) : Left w p D F w' := by
 obtain ⟨F', h1, h2, h3⟩ := h
 exact ⟨F', h1, fun k hk => (h2 k hk).imp id (fun e => by omega), hu.trans h3⟩
theorem write_any {p : Nat} {D : Dk} {F : Nat → Prop} (i : Int) (b : List Int) (w : World) (h : Dsk w p D F) (hok : D.Ok 1099511627774) (hbl : b.length = 64) :
  Calls Tryz.prog 158 #[.pointer (some ⟨p, 0, none⟩), .int .i64 i, .agg (bcells b).toArray] w fun e w' => e = .returned (.int .i64 (D.callE i true)) ∧ Left w p (D.write i b) F w' := by
 have hlt := h.lt
 obtain ⟨s, g, c, hD, hF⟩ := h
 have hlen := hok.len
 -- the world behind both boxes
 have hD1 : DiskAt ((w.alloc (.cells #[.pointer (some ⟨p, 0, none⟩)] 25)).alloc (.cells (bcells b).toArray 48)) p D s g c :=
  hD.kept (G := fun _ => False) (((Upd.refl _ w).alloc _).alloc _) (fun _ _ h => h)
 have hU1 : Upd F w ((w.alloc (.cells #[.pointer (some ⟨p, 0, none⟩)] 25)).alloc (.cells (bcells b).toArray 48)) := ((Upd.refl _ w).alloc _).alloc _
 have hbd : ((w.alloc (.cells #[.pointer (some ⟨p, 0, none⟩)] 25)).alloc (.cells (bcells b).toArray 48)).heap[w.heap.size]? = some (.cells #[.pointer (some ⟨p, 0, none⟩)] 25 (0, 0)) := (alloc_lt (by simp)).trans (alloc_at rfl)
 have hbb : ((w.alloc (.cells #[.pointer (some ⟨p, 0, none⟩)] 25)).alloc (.cells (bcells b).toArray 48)).heap[w.heap.size + 1]? = some (.cells (bcells b).toArray 48 (0, 0)) := alloc_at (by simp)
 have hz : w.heap.size ≤ ((w.alloc (.cells #[.pointer (some ⟨p, 0, none⟩)] 25)).alloc (.cells (bcells b).toArray 48)).heap.size := by simp; omega
 have hcall : Calls Tryz.prog 79 #[.pointer (some ⟨p, 0, none⟩), .int .i64 i, .bool true, .func (.func 185) #[] #[.pointer (some ⟨w.heap.size, 0, none⟩), .pointer (some ⟨w.heap.size + 1, 0, none⟩)], .func (.func 185) #[] #[.pointer (some ⟨w.heap.size, 0, none⟩), .pointer (some ⟨w.heap.size + 1, 0, none⟩)]]
   ((w.alloc (.cells #[.pointer (some ⟨p, 0, none⟩)] 25)).alloc (.cells (bcells b).toArray 48)) fun e w' => e = .returned (.int .i64 (D.callE i true)) ∧ Left w p (D.write i b) F w' := by
  generalize (w.alloc (.cells #[.pointer (some ⟨p, 0, none⟩)] 25)).alloc (.cells (bcells b).toArray 48) = w0 at *
  have hm : w0.heap[p]? = some (mainObj s D.arr.length D.sent D.ops D.arm D.fail D.dead) := hD1.main
  cases hd : D.dead
  ·rw [hd] at hm
   by_cases ho : i < 0 ∨ (D.arr.length : Int) ≤ i
   ·refine (call_out i true _ _ w0 hm ho).mono ?_
    rintro e w' ⟨rfl, rfl⟩
    refine ⟨ret_int (by simp [Dk.callE, hd, ho]), ?_⟩
    have : D.write i b = D := by simp [Dk.write, Dk.callR, Dk.callD, hd, ho]
    rw [this]
    exact (Left.same ⟨s, g, c, hD1, hF⟩).of_upd hU1 hz
   ·obtain ⟨k, rfl⟩ : ∃ k : Nat, i = k := ⟨i.toNat, by omega⟩
    have hk : k < D.arr.length := by omega
    have hkt : (k : Int).toNat = k := by omega
    have closure : ∀ (D' : Dk) (W1 : World), D'.arr = D.arr → D'.row = D.row → D'.sent = D.sent → W1.heap[p]? = some (mainObj s D.arr.length D'.sent D'.ops D'.arm D'.fail D'.dead) → Upd (fun k => k = p) w0 W1 →
      Calls Tryz.prog 185 (#[.pointer (some ⟨s, k, none⟩)] ++ #[.pointer (some ⟨w.heap.size, 0, none⟩), .pointer (some ⟨w.heap.size + 1, 0, none⟩)]) W1 fun e w' => e = .returned (.tuple #[]) ∧ Left w p (D'.send k b) F w' := by
     intro D' W1 ha hr hs hm1 hu1
     have hA : DiskAt W1 p D' s g c := hD1.withMain ha hr (by rw [hm1, ha]; rfl) hu1
     have hz1 := hu1.size
     have ne0 : w.heap.size ≠ p := fun e => by have := hlt p ((hF p).2 (.inl rfl)); omega
     have ne1 : w.heap.size + 1 ≠ p := fun e => by have := hlt p ((hF p).2 (.inl rfl)); omega
     have hbd1 := (hu1.block _ (lt_of_heap hbd) ne0).trans hbd
     have hbb1 := (hu1.block _ (lt_of_heap hbb) ne1).trans hbb
     refine (sends_any (b := b) W1 hA (by rw [ha]; exact hk) (by rw [hr]; exact hok.rowlen) (by rw [hs]; exact hok.sent) hbd1 hbb1 hbl
      (fun e => by have := hlt _ ((hF _).2 (by rw [ha] at e; exact e)); omega) (fun e => by have := hlt _ ((hF _).2 (by rw [ha] at e; exact e)); omega)).mono ?_
     rintro e w' ⟨rfl, g', c', h1, h2, h3⟩
     refine ⟨rfl, _, ⟨s, g', c', h1, fun _ => Iff.rfl⟩, ?_, ?_⟩
     ·rintro j (rfl | rfl | ⟨i, hi, rfl⟩)
      ·exact .inl ((hF _).2 (.inl rfl))
      ·exact .inl ((hF _).2 (.inr (.inl rfl)))
      ·rcases h2 i hi with e | e
       ·exact .inl ((hF _).2 (.inr (.inr ⟨i, by have : (D'.send k b).arr.length = D.arr.length := by rw [← ha]; rfl
                                                omega, e⟩)))
       ·exact .inr (by omega)
     ·refine (hU1.trans (hu1.mono (fun _ _ e => (hF _).2 (.inl e)))).trans (h3.mono (fun j _ e => (hF _).2 ?_))
      rcases e with e | e | e
      ·exact .inl e
      ·exact .inr (.inl e)
      ·exact .inr (.inr ⟨k, hk, e⟩)
    have hk2 : ¬ (D.arr.length ≤ k) := by omega
    have hk3 : ¬ ((k : Int) < 0) := by omega
    by_cases ha0 : D.arm = 0
    ·rw [ha0] at hm
     have e1 : D.callE k true = 9 := by simp [Dk.callE, hd, hk2, hk3, ha0]
     have e2 : D.write k b = ({ D with fail := max (D.fail - 1) (-1), dead := true } : Dk).send k b := by
      simp [Dk.write, Dk.callR, Dk.callD, hd, hk2, hk3, ha0]
     rw [e1, e2]
     exact call_dies k _ 185 _ _ w0 hm hk callF_enters81 hok.fail (fun W1 h1 h2 => closure _ W1 rfl rfl rfl (by rw [ha0]; exact h1) h2)
    ·by_cases hf0 : D.fail = 0
     ·rw [hf0] at hm
      have e1 : D.callE k true = 8 := by simp [Dk.callE, hd, hk2, hk3, ha0, hf0]
      have e2 : D.write k b = ({ D with fail := -1 } : Dk) := by
       simp [Dk.write, Dk.callR, Dk.callD, hd, hk2, hk3, ha0, hf0]
      rw [e1, e2]
      refine (call_fails_t k _ _ w0 hm hk ha0).mono ?_
      rintro e w' ⟨rfl, h1, h2⟩
      exact ⟨rfl, (Left.main hD1 hF (D' := { D with fail := -1 }) rfl rfl (by rw [hd]; exact h1) h2).of_upd hU1 hz⟩
     ·have e1 : D.callE k true = 0 := by simp [Dk.callE, hd, hk2, hk3, ha0, hf0]
      have e2 : D.write k b = ({ D with fail := max (D.fail - 1) (-1), ops := D.ops + 1, arm := max (D.arm - 1) (-1) } : Dk).send k b := by
       simp [Dk.write, Dk.callR, Dk.callD, hd, hk2, hk3, ha0, hf0]
      rw [e1, e2]
      exact call_go_t k _ 185 _ _ w0 hm hk callF_enters81 ha0 hok.arm hf0 hok.fail ⟨hok.ops.1, by have := hok.ops.2; omega⟩ (fun W1 h1 h2 => closure { D with fail := max (D.fail - 1) (-1), ops := D.ops + 1, arm := max (D.arm - 1) (-1) } W1 rfl rfl rfl (by rw [hd]; exact h1) h2)
  ·rw [hd] at hm
   refine (call_dead i true _ _ w0 hm).mono ?_
   rintro e w' ⟨rfl, rfl⟩
   refine ⟨ret_int (by simp [Dk.callE, hd]), ?_⟩
   have : D.write i b = D := by simp [Dk.write, Dk.callR, Dk.callD, hd]
   rw [this]
   exact (Left.same ⟨s, g, c, hD1, hF⟩).of_upd hU1 hz
 have HC := Lib.hid hcall
 clear hcall hD1 hU1 hbd hbb hz hD hF hlt hlen
 go_enter Tryz.func158, Tryz.ntmps158
 go_wp2_with (go_at_call 79; refine HC.out.mono ?_; rintro e w' ⟨rfl, hl⟩)
 go_ret
 exact ⟨rfl, hl⟩
def Dk.shows (D : Dk) (i : Nat) : List Int := ((D.vers i).getLast?.getD (zblk, 0)).1
def Dk.reads (D : Dk) (i : Int) : List Int := if D.callR i false then D.shows i.toNat else zblk
theorem vcells_length {v : List Int × Int} (h : v.1.length = 64) : (vcells v).length = 65 := by simp [vcells, h]
theorem vcells_at : ∀ (L : List (List Int × Int)) (j : Nat) (v : List Int × Int), L[j]? = some v → (∀ v ∈ L, v.1.length = 64) → ((L.flatMap vcells).drop (j * 65)).take 64 = bcells v.1
 | [], j, v, h, _ => by simp at h
 |x :: L, 0, v, h, hl => by
  simp at h; subst h
  have := hl x (by simp)
  simp [vcells, bcells, this]
 |x :: L, j + 1, v, h, hl => by
  have h1 := vcells_length (hl x (by simp))
  have := vcells_at L j v (by simpa using h) (fun v hv => hl v (by simp [hv]))
  rw [List.flatMap_cons, List.drop_append, h1, show (j + 1) * 65 - 65 = j * 65 by omega, List.drop_eq_nil_of_le (by omega)]
  simpa using this
theorem vers_blk {D : Dk} {K : Nat} (h : D.Ok K) {i : Nat} (hi : i < D.arr.length) : ∀ v ∈ D.vers i, okBlk v.1 := by
 intro v hv
 simp only [Dk.vers, List.mem_cons, List.mem_map, List.mem_filter] at hv
 rcases hv with rfl | ⟨x, ⟨hx, _⟩, rfl⟩
 ·refine h.blks _ ?_
  simp [List.getD_eq_getElem?_getD, hi]
 ·exact (h.rblks x hx).1
theorem vers_ne (D : Dk) (i : Nat) : D.vers i ≠ [] := by simp [Dk.vers]
theorem shows_at (D : Dk) (i : Nat) : ∃ v, (D.vers i)[(D.vers i).length - 1]? = some v ∧ v ∈ D.vers i ∧ D.shows i = v.1 := by
 have hn := vers_ne D i
 have hl : (D.vers i).length - 1 < (D.vers i).length := by have := List.length_pos_iff.2 hn; omega
 refine ⟨(D.vers i)[(D.vers i).length - 1], by simp [hl], List.getElem_mem _, ?_⟩
 simp [Dk.shows, List.getLast?_eq_getElem?, hl]
theorem shows_blk {D : Dk} {K : Nat} (h : D.Ok K) {i : Nat} (hi : i < D.arr.length) : okBlk (D.shows i) := by
 obtain ⟨v, _, h2, h3⟩ := shows_at D i
 rw [h3]; exact vers_blk h hi v h2
theorem zblk_ok : okBlk zblk := by
 refine ⟨by simp [zblk], fun x hx => ?_⟩
 have : x = 0 := by simpa [zblk] using hx
 omega
theorem reads_blk {D : Dk} {K : Nat} (h : D.Ok K) (i : Int) : okBlk (D.reads i) := by
 unfold Dk.reads
 split
 ·rename_i hc
  refine shows_blk h ?_
  simp [Dk.callR] at hc; omega
 ·exact zblk_ok
theorem Dsk.withMain {w w' : World} {p s : Nat} {D D' : Dk} {g c : Nat → Nat} {F : Nat → Prop} (h : DiskAt w p D s g c) (hF : ∀ k, F k ↔ Fp p s g D.arr.length k) (ha : D'.arr = D.arr) (hr : D'.row = D.row)
  (hm : w'.heap[p]? = some (mainObj s D'.arr.length D'.sent D'.ops D'.arm D'.fail D'.dead)) (hu : Upd (fun k => k = p) w w') : Dsk w' p D' F :=
 ⟨s, g, c, h.withMain ha hr hm hu, by rw [ha]; exact hF⟩
theorem reads_any {p s : Nat} {D : Dk} {g c : Nat → Nat} {k bb : Nat} {old : List Value} (w : World) (h : DiskAt w p D s g c) (hk : k < D.arr.length) (hrl : D.row.length ≤ 1099511627774) (hvs : ∀ v ∈ D.vers k, okBlk v.1)
  (hb : w.heap[bb]? = some (.cells old.toArray 48 (0, 0))) (hol : old.length = 64) :
  Calls Tryz.prog 80 #[.pointer (some ⟨s, k, none⟩), .pointer (some ⟨bb, 0, none⟩)] w fun e w' => e = .returned (.tuple #[]) ∧
   w'.heap[bb]? = some (.cells (bcells (D.shows k)).toArray 48 (0, 0)) ∧ Upd (fun k => k = bb) w w' := by
 obtain ⟨v, h1, h2, h3⟩ := shows_at D k
 have hl := vers_length_le D k
 have hpos := List.length_pos_iff.2 (vers_ne D k)
 have hj : (D.vers k).length = (D.vers k).length - 1 + 1 := by omega
 have hr := h.rows k hk
 have hvb := hvs v h2
 generalize (D.vers k).length - 1 = j at *
 rw [h3]
 refine reads_run (secs := (List.range D.arr.length).map fun i => Value.slice (some ⟨g i, 0, none⟩) (D.vers i).length (c i)) (k := k) (j := j) (g := g k) (cap := c k) w h.sec (by simp [hk, hj]) (by rw [hj] at hr; exact hr) (vcells_at _ j v h1 (fun v hv => (hvs v hv).1)) hb hol
  (by simp [bcells, hvb.1]) (bcells_one _) (by omega)
theorem read_call {p : Nat} {D : Dk} {F : Nat → Prop} {bb : Nat} (i : Int) (w : World) (h : Dsk w p D F) (hok : D.Ok 1099511627774)
  (hb : w.heap[bb]? = some (.cells (bcells zblk).toArray 48 (0, 0))) (nb : ¬ F bb) :
  Calls Tryz.prog 79 #[.pointer (some ⟨p, 0, none⟩), .int .i64 i, .bool false, .func (.func 80) #[] #[.pointer (some ⟨bb, 0, none⟩)], .nilFunc] w fun e w' =>
   e = .returned (.int .i64 (D.callE i false)) ∧ Dsk w' p (D.callD i false) F ∧ w'.heap[bb]? = some (.cells (bcells (D.reads i)).toArray 48 (0, 0)) ∧ Upd (fun k => k = p ∨ k = bb) w w' := by
 have hm0 := h
 obtain ⟨s, g, c, hD, hF⟩ := h
 have hm : w.heap[p]? = some (mainObj s D.arr.length D.sent D.ops D.arm D.fail D.dead) := hD.main
 have nbp : bb ≠ p := fun e => nb ((hF bb).2 (.inl e))
 cases hd : D.dead
 ·rw [hd] at hm
  by_cases ho : i < 0 ∨ (D.arr.length : Int) ≤ i
  ·refine (call_out i false _ _ w hm ho).mono ?_
   rintro e w' ⟨rfl, rfl⟩
   have e1 : D.callD i false = D := by simp [Dk.callD, hd, ho]
   have e2 : D.reads i = zblk := by simp [Dk.reads, Dk.callR, hd, ho]
   rw [e1, e2]
   exact ⟨ret_int (by simp [Dk.callE, hd, ho]), hm0, hb, Upd.refl _ _⟩
  ·obtain ⟨k, rfl⟩ : ∃ k : Nat, i = k := ⟨i.toNat, by omega⟩
   have hk : k < D.arr.length := by omega
   have hk2 : ¬ (D.arr.length ≤ k) := by omega
   have hk3 : ¬ ((k : Int) < 0) := by omega
   by_cases hf0 : D.fail = 0
   ·rw [hf0] at hm
    refine (call_fails_f k _ _ w hm hk).mono ?_
    rintro e w' ⟨rfl, h1, h2⟩
    have e1 : D.callD k false = { D with fail := -1 } := by simp [Dk.callD, hd, hk2, hk3, hf0]
    have e2 : D.reads k = zblk := by simp [Dk.reads, Dk.callR, hf0]
    rw [e1, e2]
    exact ⟨ret_int (by simp [Dk.callE, hd, hk2, hk3, hf0]), Dsk.withMain hD hF rfl rfl (by rw [hd]; exact h1) h2, (h2.block _ (lt_of_heap hb) nbp).trans hb, h2.mono (fun _ _ e => .inl e)⟩
   ·have e1 : D.callD k false = { D with fail := max (D.fail - 1) (-1), ops := D.ops + 1 } := by simp [Dk.callD, hd, hk2, hk3, hf0]
    have e2 : D.reads k = D.shows k := by simp [Dk.reads, Dk.callR, hd, hk, hf0]
    have e3 : D.callE k false = 0 := by simp [Dk.callE, hd, hk2, hk3, hf0]
    rw [e1, e2, e3]
    refine call_go_f k _ 80 _ _ w hm hk callF_enters90 hf0 hok.fail ⟨hok.ops.1, by have := hok.ops.2; omega⟩ (fun W1 h1 h2 => ?_)
    have hA : DiskAt W1 p { D with fail := max (D.fail - 1) (-1), ops := D.ops + 1 } s g c := hD.withMain rfl rfl (by rw [hd]; exact h1) h2
    refine (reads_any W1 hA hk hok.rowlen (vers_blk hok hk) ((h2.block _ (lt_of_heap hb) nbp).trans hb) (by simp [bcells, zblk])).mono ?_
    rintro e w' ⟨rfl, q1, q2⟩
    refine ⟨rfl, Dsk.kept ⟨s, g, c, hA, hF⟩ q2 (fun k hk e => ?_), q1, (h2.mono (fun _ _ e => .inl e)).trans (q2.mono (fun _ _ e => .inr e))⟩
    rw [e] at hk; exact nb hk
 ·rw [hd] at hm
  refine (call_dead i false _ _ w hm).mono ?_
  rintro e w' ⟨rfl, rfl⟩
  have e1 : D.callD i false = D := by simp [Dk.callD, hd]
  have e2 : D.reads i = zblk := by simp [Dk.reads, Dk.callR, hd]
  rw [e1, e2]
  exact ⟨ret_int (by simp [Dk.callE, hd]), hm0, hb, Upd.refl _ _⟩
theorem results_cell_tmp {P : Program} {fn : Func} {ts : Array Value} {w : World} {a u : Nat} {t : TypeId} {p : Addr} {v : Value} (hr : fn.results = #[.cell a t, .tmp u]) (ha : ts.getD a undef = .pointer (some p)) (hl : (loadVar t p).run P w = .ok v w) :
  (Go.results fn ts).run P w = .ok (.tuple #[v, ts.getD u undef]) w := by
 unfold Go.results
 rw [hr]
 have ha' : ts[a]?.getD undef = .pointer (some p) := by simpa using ha
 simp [asAddr, ha', hl]
theorem read_any {p : Nat} {D : Dk} {F : Nat → Prop} (i : Int) (w : World) (h : Dsk w p D F) (hok : D.Ok 1099511627774) :
  Calls Tryz.prog 17 #[.pointer (some ⟨p, 0, none⟩), .int .i64 i] w fun e w' => e = .returned (.tuple #[.agg (bcells (D.reads i)).toArray, .int .i64 (D.callE i false)]) ∧ Dsk w' p (D.callD i false) F ∧ Upd F w w' := by
 have hlt := h.lt
 have hp := h.mem
 have hC := read_call i (w.alloc (.cells (bcells zblk).toArray 48)) (h.kept (G := fun _ => False) ((Upd.refl _ w).alloc _) (fun _ _ h => h)) hok (alloc_at rfl) (fun e => by have := hlt _ e; omega)
 have hbl : (bcells (D.reads i)).length = 64 := by simp [bcells, (reads_blk hok i).1]
 have hne : ∀ k, F k → k ≠ w.heap.size := fun k hk e => by have := hlt _ hk; omega
 have HC := Lib.hid hC; have HB := Lib.hid hbl; have HN := Lib.hid hne; have HL := Lib.hid hlt; have HP := Lib.hid hp
 clear hC hlt h hok hbl hne hp
 have H1B := Lib.hid (all_oneCell_toArray (bcells_one (D.reads i)))
 generalize bcells (D.reads i) = bs at *
 go_enter Tryz.func17, Tryz.ntmps17
 go_wp2_with fail
 refine HC.out.mono ?_; rintro e w' ⟨rfl, h1, h2, h3⟩
 have hi : (Tryz.prog.info? 48).map (·.size) = some bs.length := by rw [Tryz.info56p, HB.out]
 have H2 := Lib.hid h2; have HI := Lib.hid hi
 have HW := Lib.hid h1; have HW2 := Lib.hid h3
 clear h1 h2 h3 hi
 simp only []
 iterate 9 go_step
 refine wpList_load_mid rfl 48 (.tmp 4) rfl w.heap.size 0 rfl bs _ (rangeAt_block H2.out) Tryz.underlying48 rfl HI.out ?_
 iterate 3 go_step
 refine wpList_store_mid rfl 48 (.tmp 4) (.tmp 10) rfl w.heap.size 0 bs.toArray rfl rfl (there_block H2.out) (by rw [HI.out]; simp) H1B.out ?_
 go_wp2
 have hl3 := run_loadVar_mid (P := Tryz.prog) (w'.setCells w.heap.size 0 bs) w.heap.size 0 48 bs _ (rangeAt_block (heap_setCells_whole (vs := bs) H2.out (by simp))) Tryz.underlying48 rfl HI.out
 refine bodyPost_ret (results_cell_tmp Tryz.results17 rfl hl3) rfl ⟨rfl, ?_, ?_⟩
 ·exact HW.out.kept (G := fun k => k = w.heap.size) (Upd.setCells (F := fun k => k = w.heap.size) rfl bs 0 (Upd.refl _ w')) (fun k hk e => HN.out k hk e)
 ·have u1 : Upd (fun k => k = p ∨ k = w.heap.size) (w.alloc (.cells (bcells zblk).toArray 48)) (w'.setCells w.heap.size 0 bs) :=
   Upd.setCells (F := fun k => k = p ∨ k = w.heap.size) (.inr rfl) bs 0 HW2.out
  have u2 : Upd (fun k => k = p ∨ k = w.heap.size) w (w'.setCells w.heap.size 0 bs) := ((Upd.refl _ w).alloc _).trans u1
  refine u2.mono (fun k hk e => ?_)
  rcases e with rfl | e
  ·exact HP.out
  ·omega
end
end Go.Proofs.YtbimkhdiplnbfaaGreat
