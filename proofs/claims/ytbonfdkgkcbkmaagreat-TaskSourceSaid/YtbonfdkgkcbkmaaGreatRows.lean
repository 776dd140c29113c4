/-
  No cell of these rows narrows 'for every input' (looked for: loops, veiled, ifaces, maps, wideKeys, modest, calm, conditions, laid).
  DERIVED. THE GIVEN ROWS OF THIS SEAT. 6 by the template 'for every input the law returns true; each argument reads behind the call as it read before'; 0 by the template 'total and deterministic' (their statements: YtbonfdkgkcbkmaaGreatTotals.lean).
  GIVEN WITH THE SEED: the statements are not yours to turn. If you find one false, say at which input.
  Laid BY PROGRAM, IN A SANDBOX (cutbox-rows.mjs): the forced cells as the released guide's own fill.sh prints them over the translation 62b476836259f38c… (all of the seat's roots in one cut). By AI agents, Wed Nov 11 2026. No macro, syntax, notation, axiom, sorry.
-/
import Derived.Test.YtbonfdkgkcbkmaaGreatChecked
import GoSem.Claim
import GoSem.ClaimJoined
import GoSem.ClaimMapViews
import Derived.JoinedTies
import Derived.KernelRfl
namespace Go.Proofs.YtbonfdkgkcbkmaaGreat
/- THE CELL 'sum', in the pinned program and in every row, IS THE sha256 OF THE DUMP (.gsa) THAT YtbonfdkgkcbkmaaGreatProg.lean LOADS. Nothing in Lean hashes anything: it is a label: what it is worth is what the hold of that sum in a sandbox is worth. -/
noncomputable def Tryz.pinned : Pinned := { name := "ytbonfdkgkcbkmaagreat", sum := "62b476836259f38c516f76977823d5cb3baf32e8ec98ed0062590ff17e798b0e", checked := Tryz.checked }
namespace Rows
def none {H : Type} : Left H := { results := [], args := [] }

/-- 'headracelaw13.DenoStep': WHATEVER THE INPUT: true; the input reads as it did. -/
def denoStepSpec : ChangeSpec := { name := "denoStep", fn := fun _ => fun
  | [d1, d2, d3] => { results := [.lit (.bool true)], args := [d1, d2, d3] }
  | _ => none }
def denoStepRow : OpenClaim := { program := "ytbonfdkgkcbkmaagreat", sum := "62b476836259f38c516f76977823d5cb3baf32e8ec98ed0062590ff17e798b0e", func := "headrace/headracelaw13.DenoStep", spec := "denoStep", inPlace := ["slices.overlaps[headrace/api.KeyCell]"], unfollowed := true, recurses := true, apart := false }
def DenoStepSaid : Prop := denoStepRow.holds Tryz.pinned (OpenSpec.ofChange denoStepSpec)

/-- ITS FALSE NEIGHBOUR: 'it returns false'. Refute it at one input. -/
def denoStepWrong : ChangeSpec := { name := "denoStep", fn := fun _ => fun
  | [d1, d2, d3] => { results := [.lit (.bool false)], args := [d1, d2, d3] }
  | _ => none }
def DenoStepWrongFalsely : Prop := denoStepRow.holds Tryz.pinned (OpenSpec.ofChange denoStepWrong)

/-- 'headracelaw19.TaskTriggers': WHATEVER THE INPUT: true; the input reads as it did. -/
def taskTriggersSpec : ChangeSpec := { name := "taskTriggers", fn := fun _ => fun
  | [d1, d2, d3] => { results := [.lit (.bool true)], args := [d1, d2, d3] }
  | _ => none }
def taskTriggersRow : OpenClaim := { program := "ytbonfdkgkcbkmaagreat", sum := "62b476836259f38c516f76977823d5cb3baf32e8ec98ed0062590ff17e798b0e", func := "headrace/headracelaw19.TaskTriggers", spec := "taskTriggers", inPlace := ["slices.overlaps[headrace/api.KeyCell]"], unfollowed := true, recurses := true, apart := false }
def TaskTriggersSaid : Prop := taskTriggersRow.holds Tryz.pinned (OpenSpec.ofChange taskTriggersSpec)

/-- ITS FALSE NEIGHBOUR: 'it returns false'. Refute it at one input. -/
def taskTriggersWrong : ChangeSpec := { name := "taskTriggers", fn := fun _ => fun
  | [d1, d2, d3] => { results := [.lit (.bool false)], args := [d1, d2, d3] }
  | _ => none }
def TaskTriggersWrongFalsely : Prop := taskTriggersRow.holds Tryz.pinned (OpenSpec.ofChange taskTriggersWrong)

/-- 'headracelaw19.TaskSource': WHATEVER THE INPUT: true; the input reads as it did. -/
def taskSourceSpec : ChangeSpec := { name := "taskSource", fn := fun _ => fun
  | [d1, d2, d3] => { results := [.lit (.bool true)], args := [d1, d2, d3] }
  | _ => none }
def taskSourceRow : OpenClaim := { program := "ytbonfdkgkcbkmaagreat", sum := "62b476836259f38c516f76977823d5cb3baf32e8ec98ed0062590ff17e798b0e", func := "headrace/headracelaw19.TaskSource", spec := "taskSource", inPlace := ["slices.overlaps[headrace/api.KeyCell]"], unfollowed := true, recurses := true, apart := false }
def TaskSourceSaid : Prop := taskSourceRow.holds Tryz.pinned (OpenSpec.ofChange taskSourceSpec)

/-- ITS FALSE NEIGHBOUR: 'it returns false'. Refute it at one input. -/
def taskSourceWrong : ChangeSpec := { name := "taskSource", fn := fun _ => fun
  | [d1, d2, d3] => { results := [.lit (.bool false)], args := [d1, d2, d3] }
  | _ => none }
def TaskSourceWrongFalsely : Prop := taskSourceRow.holds Tryz.pinned (OpenSpec.ofChange taskSourceWrong)

/-- 'headracelaw19.TaskMerges': WHATEVER THE INPUT: true; the input reads as it did. -/
def taskMergesSpec : ChangeSpec := { name := "taskMerges", fn := fun _ => fun
  | [d] => { results := [.lit (.bool true)], args := [d] }
  | _ => none }
def taskMergesRow : OpenClaim := { program := "ytbonfdkgkcbkmaagreat", sum := "62b476836259f38c516f76977823d5cb3baf32e8ec98ed0062590ff17e798b0e", func := "headrace/headracelaw19.TaskMerges", spec := "taskMerges", inPlace := ["slices.overlaps[headrace/api.KeyCell]"], unfollowed := true, recurses := true, apart := false }
def TaskMergesSaid : Prop := taskMergesRow.holds Tryz.pinned (OpenSpec.ofChange taskMergesSpec)

/-- ITS FALSE NEIGHBOUR: 'it returns false'. Refute it at one input. -/
def taskMergesWrong : ChangeSpec := { name := "taskMerges", fn := fun _ => fun
  | [d] => { results := [.lit (.bool false)], args := [d] }
  | _ => none }
def TaskMergesWrongFalsely : Prop := taskMergesRow.holds Tryz.pinned (OpenSpec.ofChange taskMergesWrong)

/-- 'headracelaw19.TaskKeeps': WHATEVER THE INPUT: true; the input reads as it did. -/
def taskKeepsSpec : ChangeSpec := { name := "taskKeeps", fn := fun _ => fun
  | [d1, d2, d3] => { results := [.lit (.bool true)], args := [d1, d2, d3] }
  | _ => none }
def taskKeepsRow : OpenClaim := { program := "ytbonfdkgkcbkmaagreat", sum := "62b476836259f38c516f76977823d5cb3baf32e8ec98ed0062590ff17e798b0e", func := "headrace/headracelaw19.TaskKeeps", spec := "taskKeeps", inPlace := ["slices.overlaps[headrace/api.KeyCell]"], unfollowed := true, recurses := true, apart := false }
def TaskKeepsSaid : Prop := taskKeepsRow.holds Tryz.pinned (OpenSpec.ofChange taskKeepsSpec)

/-- ITS FALSE NEIGHBOUR: 'it returns false'. Refute it at one input. -/
def taskKeepsWrong : ChangeSpec := { name := "taskKeeps", fn := fun _ => fun
  | [d1, d2, d3] => { results := [.lit (.bool false)], args := [d1, d2, d3] }
  | _ => none }
def TaskKeepsWrongFalsely : Prop := taskKeepsRow.holds Tryz.pinned (OpenSpec.ofChange taskKeepsWrong)

/-- 'headracelaw19.TaskTakes': WHATEVER THE INPUT: true; the input reads as it did. -/
def taskTakesSpec : ChangeSpec := { name := "taskTakes", fn := fun _ => fun
  | [d1, d2, d3] => { results := [.lit (.bool true)], args := [d1, d2, d3] }
  | _ => none }
def taskTakesRow : OpenClaim := { program := "ytbonfdkgkcbkmaagreat", sum := "62b476836259f38c516f76977823d5cb3baf32e8ec98ed0062590ff17e798b0e", func := "headrace/headracelaw19.TaskTakes", spec := "taskTakes", inPlace := ["slices.overlaps[headrace/api.KeyCell]"], unfollowed := true, recurses := true, apart := false }
def TaskTakesSaid : Prop := taskTakesRow.holds Tryz.pinned (OpenSpec.ofChange taskTakesSpec)

/-- ITS FALSE NEIGHBOUR: 'it returns false'. Refute it at one input. -/
def taskTakesWrong : ChangeSpec := { name := "taskTakes", fn := fun _ => fun
  | [d1, d2, d3] => { results := [.lit (.bool false)], args := [d1, d2, d3] }
  | _ => none }
def TaskTakesWrongFalsely : Prop := taskTakesRow.holds Tryz.pinned (OpenSpec.ofChange taskTakesWrong)

/- THE SECOND FORM. 'bulk': how many values and letters a reading holds, each counted each time it is reached (what is shared counts as often as it is met; a slice's spare places count too). A statement '..UptoSaid' is the law's where the arguments, and the package variables that the reading takes, are together of bulk at most 1048576: NARROWER than '..Said'. Prove '..Said' where nothing that the law and all that it calls make is longer than what came in: it says more and counts as full. Else prove '..UptoSaid'. A law counts once. -/
mutual
def uptoBulk {H : Type} : DataW H → Nat
  | .lit (.string bytes) => bytes.length + 1
  | .lit _ => 1
  | .nil => 1
  | .ptr d => uptoBulk d + 1
  | .slice elems spare => uptoBulkAll elems + uptoBulkAll spare + 1
  | .agg parts => uptoBulkAll parts + 1
  | .iface _ d => uptoBulk d + 1
  | .map entries => uptoBulkEntries entries + 1
  | .held _ => 1
def uptoBulkAll {H : Type} : List (DataW H) → Nat
  | [] => 0
  | d :: r => uptoBulk d + uptoBulkAll r
def uptoBulkEntries {H : Type} : List (Lit × DataW H) → Nat
  | [] => 0
  | x :: r => uptoBulkEntry x + uptoBulkEntries r
def uptoBulkEntry {H : Type} : Lit × DataW H → Nat
  | (.string bytes, d) => bytes.length + uptoBulk d + 1
  | (_, d) => uptoBulk d + 1
 end
def uptoSmall : (H : Type) → List (DataW H) → Bool := fun _ ds => decide (uptoBulkAll ds ≤ 1048576)
def OpenSpec.upto (s : _root_.Go.ChangeSpec) : _root_.Go.OpenSpec := { _root_.Go.OpenSpec.ofChange s with cond := some uptoSmall }

/-- 'headracelaw13.DenoStep', WHERE WHAT IT READS IS OF BULK AT MOST 1048576: true; the input reads as it did. -/
def denoStepUptoRow : OpenClaim := { program := "ytbonfdkgkcbkmaagreat", sum := "62b476836259f38c516f76977823d5cb3baf32e8ec98ed0062590ff17e798b0e", func := "headrace/headracelaw13.DenoStep", spec := "denoStep", inPlace := ["slices.overlaps[headrace/api.KeyCell]"], unfollowed := true, recurses := true, apart := false, narrowed := true }
def DenoStepUptoSaid : Prop := denoStepUptoRow.holds Tryz.pinned (OpenSpec.upto denoStepSpec)

/-- 'headracelaw19.TaskTriggers', WHERE WHAT IT READS IS OF BULK AT MOST 1048576: true; the input reads as it did. -/
def taskTriggersUptoRow : OpenClaim := { program := "ytbonfdkgkcbkmaagreat", sum := "62b476836259f38c516f76977823d5cb3baf32e8ec98ed0062590ff17e798b0e", func := "headrace/headracelaw19.TaskTriggers", spec := "taskTriggers", inPlace := ["slices.overlaps[headrace/api.KeyCell]"], unfollowed := true, recurses := true, apart := false, narrowed := true }
def TaskTriggersUptoSaid : Prop := taskTriggersUptoRow.holds Tryz.pinned (OpenSpec.upto taskTriggersSpec)

/-- 'headracelaw19.TaskSource', WHERE WHAT IT READS IS OF BULK AT MOST 1048576: true; the input reads as it did. -/
def taskSourceUptoRow : OpenClaim := { program := "ytbonfdkgkcbkmaagreat", sum := "62b476836259f38c516f76977823d5cb3baf32e8ec98ed0062590ff17e798b0e", func := "headrace/headracelaw19.TaskSource", spec := "taskSource", inPlace := ["slices.overlaps[headrace/api.KeyCell]"], unfollowed := true, recurses := true, apart := false, narrowed := true }
def TaskSourceUptoSaid : Prop := taskSourceUptoRow.holds Tryz.pinned (OpenSpec.upto taskSourceSpec)

/-- 'headracelaw19.TaskMerges', WHERE WHAT IT READS IS OF BULK AT MOST 1048576: true; the input reads as it did. -/
def taskMergesUptoRow : OpenClaim := { program := "ytbonfdkgkcbkmaagreat", sum := "62b476836259f38c516f76977823d5cb3baf32e8ec98ed0062590ff17e798b0e", func := "headrace/headracelaw19.TaskMerges", spec := "taskMerges", inPlace := ["slices.overlaps[headrace/api.KeyCell]"], unfollowed := true, recurses := true, apart := false, narrowed := true }
def TaskMergesUptoSaid : Prop := taskMergesUptoRow.holds Tryz.pinned (OpenSpec.upto taskMergesSpec)

/-- 'headracelaw19.TaskKeeps', WHERE WHAT IT READS IS OF BULK AT MOST 1048576: true; the input reads as it did. -/
def taskKeepsUptoRow : OpenClaim := { program := "ytbonfdkgkcbkmaagreat", sum := "62b476836259f38c516f76977823d5cb3baf32e8ec98ed0062590ff17e798b0e", func := "headrace/headracelaw19.TaskKeeps", spec := "taskKeeps", inPlace := ["slices.overlaps[headrace/api.KeyCell]"], unfollowed := true, recurses := true, apart := false, narrowed := true }
def TaskKeepsUptoSaid : Prop := taskKeepsUptoRow.holds Tryz.pinned (OpenSpec.upto taskKeepsSpec)

/-- 'headracelaw19.TaskTakes', WHERE WHAT IT READS IS OF BULK AT MOST 1048576: true; the input reads as it did. -/
def taskTakesUptoRow : OpenClaim := { program := "ytbonfdkgkcbkmaagreat", sum := "62b476836259f38c516f76977823d5cb3baf32e8ec98ed0062590ff17e798b0e", func := "headrace/headracelaw19.TaskTakes", spec := "taskTakes", inPlace := ["slices.overlaps[headrace/api.KeyCell]"], unfollowed := true, recurses := true, apart := false, narrowed := true }
def TaskTakesUptoSaid : Prop := taskTakesUptoRow.holds Tryz.pinned (OpenSpec.upto taskTakesSpec)

end Rows
end Go.Proofs.YtbonfdkgkcbkmaaGreat
