/- Walks of the laws: calm. -/
import Derived.Test.YtbimkhdiplnbfaaN3
namespace Go.Proofs.Ytbimkhdiplnbfaa
open Go.RowKit Go.Deep

/-- A row of calls that comes in. -/
def CallsIn (w : World) (sa : Option Addr) (sc : Nat) (L : List CallR) : Prop := (sa = none ∧ L = [] ∧ sc = 0) ∨ ∃ a : Addr, sa = some a ∧ L.length ≤ sc ∧ sc ≤ maxLen ∧ ∀ j u, (L.flatMap cells5)[j]? = some u → w.cell? (a.add j) = some u

theorem CallsIn.kept {w w' : World} {sa : Option Addr} {sc : Nat} {L : List CallR} (h : CallsIn w sa sc L) (hu : Upd (fun _ => False) w w') : CallsIn w' sa sc L := by
  rcases h with h | ⟨a, h1, h2, h3, h4⟩
  · exact .inl h
  · exact .inr ⟨a, h1, h2, h3, fun j u hj => cell_kept hu (h4 j u hj)⟩

theorem flat5_take (L : List CallR) (m j : Nat) (u : Value) (h : ((L.take m).flatMap cells5)[j]? = some u) : (L.flatMap cells5)[j]? = some u := by
  have hl := (List.getElem?_eq_some_iff.1 h).1
  rw [← List.take_append_drop m L, List.flatMap_append, List.getElem?_append_left (by simpa [List.take_append_drop] using hl)]
  simpa [List.take_append_drop] using h

/-- What calm hands back. -/
def CalmAt (w w' : World) (v : Value) (L : List CallR) : Prop := (v = .slice none 0 0 ∧ L = []) ∨ ∃ g cap, v = .slice (some ⟨g, 0, none⟩) L.length cap ∧ RowC w' g cap L ∧ w.heap.size ≤ g

set_option maxRecDepth 8000 in
set_option maxHeartbeats 1000000 in
theorem cloneC_run {a : Addr} {cap : Nat} {L : List CallR} (w : World) (hL : L.length ≤ 1000) (hc : ∀ j u, (L.flatMap cells5)[j]? = some u → w.cell? (a.add j) = some u) :
    Calls Try.prog 99 #[.slice (some a) L.length cap] w fun e w' => ∃ g c, e = .returned (.slice (some ⟨g, 0, none⟩) L.length c) ∧ RowC w' g c L ∧ w.heap.size ≤ g ∧ L.length ≤ c ∧ c ≤ maxLen ∧ Upd (fun _ => False) w w' := by
  have HC := Lib.hid hc
  clear hc
  have q22 : (binOp .eql 65 (.slice (some a) L.length cap) (.slice none 0 0)).run Try.prog w = .ok (.bool false) w := Lib.run_eql_slice_nil w _ _ _ _ _ _ _ Try.underlying65
  go_enter Try.func99, Try.ntmps99
  go_upto_region 3 with fail
  clear q22
  iterate 7 go_step
  obtain ⟨i0, hi0, hz0, hz1, hz2⟩ := info_parts Try.info51p
  have hown0 : (w.alloc (.cells #[] 51)).ownsRow w.heap.size 51 5 (.slice (some ⟨w.heap.size, 0, none⟩) 0 0) 0 [] :=
    ⟨by simp, .inr ⟨w.heap.size, 0, #[], rfl, Nat.le_refl _, alloc_at rfl, Nat.le_refl _, Nat.zero_le _, rfl, rfl⟩⟩
  refine wpList_append_own _ rfl (.tmp 5) (.tmp 6) 65 rfl w.heap.size 51 i0 (.agg #[.int .i64 0, .int .i64 0, .int .i64 0, .int .u8 0, .slice none 0 0]) 5 56 Try.underlying65 hi0 hz0 hz1 hz2 rfl (by omega) _ 0 [] rfl hown0 a L.length cap (L.flatMap cells5) rfl (flat5_length L) (fun j u hj =>
    cell_kept ((Upd.refl _ w).alloc _) (HC.out j u hj)) (flat5_one L) (by unfold maxLen; omega) (by omega) (by simp) ?_
  intro v' w1 hown hgrow hnil
  have hv : ∃ g c, v' = .slice (some ⟨g, 0, none⟩) L.length c ∧ w.heap.size ≤ g ∧ L.length ≤ c ∧ c ≤ maxLen := by
    rcases hown.2 with ⟨e, _⟩ | ⟨g, c, cur, e, hb, _, h1, h2, _⟩
    · have he := (hnil.1 e).1
      cases he
    · exact ⟨g, c, by simpa using e, hb, by simpa using h1, h2⟩
  obtain ⟨g, c, rfl, hb, hc1, hc2⟩ := hv
  have HO := Lib.hid hown
  have HG := Lib.hid hgrow
  clear hown hgrow hnil hi0 hz0 hz1 hz2 hown0
  go_wp2
  go_ret
  refine ⟨g, c, rfl, ?_, hb, hc1, hc2, ?_⟩
  · have ho := HO.out
    simp only [Nat.zero_add, List.nil_append] at ho
    unfold RowC
    obtain ⟨h1, h2⟩ := ho
    refine ⟨h1, ?_⟩
    rcases h2 with ⟨e, _⟩ | ⟨g', c', cur, e, _, r⟩
    · cases e
    · exact .inr ⟨g', c', cur, e, Nat.zero_le _, r⟩
  · have h2 : Upd (fun j => w.heap.size ≤ j) w w1 := (((Upd.refl _ w).alloc _).step (Upd.of_grown (F := fun j => w.heap.size ≤ j) HG.out (fun k hk => Nat.le_of_eq (Option.some.inj hk))) (fun _ _ e => e))
    exact h2.mono (fun j hj e => by omega)

set_option maxHeartbeats 400000 in
theorem cloneC_nil (w : World) : Calls Try.prog 99 #[.slice none 0 0] w fun e w' => e = .returned (.slice none 0 0) ∧ w = w' := by
  have q22 : (binOp .eql 65 (.slice none 0 0) (.slice none 0 0)).run Try.prog w = .ok (.bool true) w := Lib.run_eql_slice_nil w _ _ _ _ _ _ _ Try.underlying65
  go_enter Try.func99, Try.ntmps99
  go_wp2
  go_ret
  exact ⟨rfl, rfl⟩

set_option maxHeartbeats 400000 in
theorem indexF_nil (w : World) : Calls Try.prog 118 #[.slice none 0 0, .func (.func 100) #[] #[]] w fun e w' => e = .returned (.int .i64 (-1)) ∧ w = w' := by
  go_enter Try.func118, Try.ntmps118
  go_wp2
  go_loopg [8] 0 (fun g i wr => g = 0 ∧ i = .int .i64 0 ∧ w = wr)
  case atStart => exact ⟨rfl, rfl, rfl⟩
  case round =>
    obtain ⟨rfl, rfl, rfl⟩ := hrel
    go_wp2
    go_ret
    exact ⟨rfl, rfl⟩

set_option maxHeartbeats 400000 in
theorem delete_nil (w : World) : Calls Try.prog 98 #[.slice none 0 0, .func (.func 100) #[] #[]] w fun e w' => e = .returned (.slice none 0 0) ∧ w = w' := by
  go_enter Try.func98, Try.ntmps98
  go_wp2_with (go_at_call 118; refine (indexF_nil _).mono ?_; rintro e w' ⟨rfl, rfl⟩)
  go_ret
  exact ⟨rfl, rfl⟩

set_option maxHeartbeats 400000 in
theorem calm_run {sa : Option Addr} {sc : Nat} {L : List CallR} (w : World) (h : CallsIn w sa sc L) :
    Calls Try.prog 54 #[.slice sa L.length sc] w fun e w' => ∃ (v : Value) (L' : List CallR), e = .returned v ∧ CalmAt w w' v L' ∧ L'.length ≤ 60 ∧ (∀ x ∈ L', kindOf x.k ≤ 6 ∧ x ∈ L) ∧ Upd (fun _ => False) w w' := by
  rcases h with ⟨rfl, rfl, rfl⟩ | ⟨a, rfl, hl, hm, hc⟩
  · go_enter Try.func54, Try.ntmps54
    go_wp2_with (first | (go_at_call 99; refine (cloneC_nil _).mono ?_; rintro e w' ⟨rfl, rfl⟩) | (go_at_call 98; refine (delete_nil _).mono ?_; rintro e w' ⟨rfl, rfl⟩))
    go_ret
    exact ⟨_, [], rfl, .inl ⟨rfl, rfl⟩, by simp, fun x hx => by simp at hx, Upd.refl _ _⟩
  · have hlt : (L.take 60).length = min L.length 60 := by rw [List.length_take, Nat.min_comm]
    have hcl := cloneC_run (a := a) (cap := sc) (L := L.take 60) w (by omega) (fun j u hj => hc j u (flat5_take L 60 j u hj))
    rw [hlt] at hcl
    have HCL := Lib.hid hcl
    have hm2 := hm
    unfold maxLen at hm2
    have HLT := Lib.hid hlt
    clear hcl hc hlt
    go_enter Try.func54, Try.ntmps54
    go_wp2_with fail
    have e60 : (min (L.length : Int) 60).toNat = min L.length 60 := by omega
    rw [e60]
    refine HCL.out.mono ?_
    rintro e w1 ⟨g, c, rfl, hr, hg, hc1, hc2, hu1⟩
    have hde := delete_run w1 hr (by rw [HLT.out]; omega) ⟨by rw [HLT.out]; exact hc1, hc2⟩
    rw [HLT.out] at hde
    have HDE := Lib.hid hde; have HU1 := Lib.hid hu1
    clear hde hr hu1 HCL
    simp only []
    go_wp2_with (go_at_call 98; fail)
    refine HDE.out.mono ?_
    rintro e w2 ⟨L', rfl, hr2, hl2, hall, hu2⟩
    have HR2 := Lib.hid hr2; have HA2 := Lib.hid hall; have HU2 : RowKit.Hid (Upd (fun _ => False) w w2) := Lib.hid (HU1.out.step hu2 (fun k hk e => by omega))
    clear hr2 hall hu2 HDE
    simp only []
    go_wp2
    go_ret
    exact ⟨_, L', rfl, .inr ⟨g, c, rfl, HR2.out, hg⟩, by omega, fun x hx => ⟨(HA2.out x hx).1, List.mem_of_mem_take (HA2.out x hx).2⟩, HU2.out⟩

end Go.Proofs.Ytbimkhdiplnbfaa
