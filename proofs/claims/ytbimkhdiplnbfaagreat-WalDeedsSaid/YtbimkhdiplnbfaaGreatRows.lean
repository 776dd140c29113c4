/-
  No cell of these rows narrows 'for every input' (looked for: loops, veiled, ifaces, maps, wideKeys, modest, calm, conditions, laid).
  DERIVED. THE GIVEN ROWS OF THIS SEAT. 9 by the template 'for every input the law returns true; each argument reads behind the call as it read before'; 0 by the template 'total and deterministic' (their statements: YtbimkhdiplnbfaaGreatTotals.lean).
  GIVEN WITH THE SEED: the statements are not yours to turn. If you find one false, say at which input.
  Laid BY PROGRAM, IN A SANDBOX (cutbox-rows.mjs): the forced cells as the released guide's own fill.sh prints them over the translation 23a1c941e17687aa… (all of the seat's roots in one cut). By AI agents, Wed Nov 11 2026. No macro, syntax, notation, axiom, sorry.
-/
import Derived.Test.YtbimkhdiplnbfaaGreatChecked
import GoSem.Claim
import GoSem.ClaimJoined
import GoSem.ClaimMapViews
import Derived.JoinedTies
import Derived.KernelRfl
namespace Go.Proofs.YtbimkhdiplnbfaaGreat
/- THE CELL 'sum', in the pinned program and in every row, IS THE sha256 OF THE DUMP (.gsa) THAT YtbimkhdiplnbfaaGreatProg.lean LOADS. Nothing in Lean hashes anything: it is a label: what it is worth is what the hold of that sum in a sandbox is worth. -/
noncomputable def Tryz.pinned : Pinned := { name := "ytbimkhdiplnbfaagreat", sum := "23a1c941e17687aa8e03acad5140c7364bffeae7f980581b2a64263a1f94b210", checked := Tryz.checked }
namespace Rows
def none {H : Type} : Left H := { results := [], args := [] }

/-- 'headracelaw04.WalDeeds': WHATEVER THE INPUT: true; the input reads as it did. -/
def walDeedsSpec : ChangeSpec := { name := "walDeeds", fn := fun _ => fun
  | [d1, d2] => { results := [.lit (.bool true)], args := [d1, d2] }
  | _ => none }
def walDeedsRow : OpenClaim := { program := "ytbimkhdiplnbfaagreat", sum := "23a1c941e17687aa8e03acad5140c7364bffeae7f980581b2a64263a1f94b210", func := "headrace/headracelaw04.WalDeeds", spec := "walDeeds", unfollowed := true, recurses := true, apart := false }
def WalDeedsSaid : Prop := walDeedsRow.holds Tryz.pinned (OpenSpec.ofChange walDeedsSpec)

/-- ITS FALSE NEIGHBOUR: 'it returns false'. Refute it at one input. -/
def walDeedsWrong : ChangeSpec := { name := "walDeeds", fn := fun _ => fun
  | [d1, d2] => { results := [.lit (.bool false)], args := [d1, d2] }
  | _ => none }
def WalDeedsWrongFalsely : Prop := walDeedsRow.holds Tryz.pinned (OpenSpec.ofChange walDeedsWrong)

/-- 'headracelaw20.RegisterCodes': WHATEVER THE INPUT: true; the input reads as it did. -/
def registerCodesSpec : ChangeSpec := { name := "registerCodes", fn := fun _ => fun
  | [d1, d2] => { results := [.lit (.bool true)], args := [d1, d2] }
  | _ => none }
def registerCodesRow : OpenClaim := { program := "ytbimkhdiplnbfaagreat", sum := "23a1c941e17687aa8e03acad5140c7364bffeae7f980581b2a64263a1f94b210", func := "headrace/headracelaw20.RegisterCodes", spec := "registerCodes", inPlace := ["maps.clone"], unfollowed := true, recurses := true, apart := false }
def RegisterCodesSaid : Prop := registerCodesRow.holds Tryz.pinned (OpenSpec.ofChange registerCodesSpec)

/-- ITS FALSE NEIGHBOUR: 'it returns false'. Refute it at one input. -/
def registerCodesWrong : ChangeSpec := { name := "registerCodes", fn := fun _ => fun
  | [d1, d2] => { results := [.lit (.bool false)], args := [d1, d2] }
  | _ => none }
def RegisterCodesWrongFalsely : Prop := registerCodesRow.holds Tryz.pinned (OpenSpec.ofChange registerCodesWrong)

/-- 'headracelaw20.RegisterFenced': WHATEVER THE INPUT: true; the input reads as it did. -/
def registerFencedSpec : ChangeSpec := { name := "registerFenced", fn := fun _ => fun
  | [d1, d2] => { results := [.lit (.bool true)], args := [d1, d2] }
  | _ => none }
def registerFencedRow : OpenClaim := { program := "ytbimkhdiplnbfaagreat", sum := "23a1c941e17687aa8e03acad5140c7364bffeae7f980581b2a64263a1f94b210", func := "headrace/headracelaw20.RegisterFenced", spec := "registerFenced", inPlace := ["maps.clone"], unfollowed := true, recurses := true, apart := false }
def RegisterFencedSaid : Prop := registerFencedRow.holds Tryz.pinned (OpenSpec.ofChange registerFencedSpec)

/-- ITS FALSE NEIGHBOUR: 'it returns false'. Refute it at one input. -/
def registerFencedWrong : ChangeSpec := { name := "registerFenced", fn := fun _ => fun
  | [d1, d2] => { results := [.lit (.bool false)], args := [d1, d2] }
  | _ => none }
def RegisterFencedWrongFalsely : Prop := registerFencedRow.holds Tryz.pinned (OpenSpec.ofChange registerFencedWrong)

/-- 'headracelaw20.RegisterRoom': WHATEVER THE INPUT: true; the input reads as it did. -/
def registerRoomSpec : ChangeSpec := { name := "registerRoom", fn := fun _ => fun
  | [d1, d2] => { results := [.lit (.bool true)], args := [d1, d2] }
  | _ => none }
def registerRoomRow : OpenClaim := { program := "ytbimkhdiplnbfaagreat", sum := "23a1c941e17687aa8e03acad5140c7364bffeae7f980581b2a64263a1f94b210", func := "headrace/headracelaw20.RegisterRoom", spec := "registerRoom", inPlace := ["maps.clone"], unfollowed := true, recurses := true, apart := false }
def RegisterRoomSaid : Prop := registerRoomRow.holds Tryz.pinned (OpenSpec.ofChange registerRoomSpec)

/-- ITS FALSE NEIGHBOUR: 'it returns false'. Refute it at one input. -/
def registerRoomWrong : ChangeSpec := { name := "registerRoom", fn := fun _ => fun
  | [d1, d2] => { results := [.lit (.bool false)], args := [d1, d2] }
  | _ => none }
def RegisterRoomWrongFalsely : Prop := registerRoomRow.holds Tryz.pinned (OpenSpec.ofChange registerRoomWrong)

/-- 'headracelaw20.RegisterBack': WHATEVER THE INPUT: true; the input reads as it did. -/
def registerBackSpec : ChangeSpec := { name := "registerBack", fn := fun _ => fun
  | [d1, d2] => { results := [.lit (.bool true)], args := [d1, d2] }
  | _ => none }
def registerBackRow : OpenClaim := { program := "ytbimkhdiplnbfaagreat", sum := "23a1c941e17687aa8e03acad5140c7364bffeae7f980581b2a64263a1f94b210", func := "headrace/headracelaw20.RegisterBack", spec := "registerBack", inPlace := ["maps.clone"], unfollowed := true, recurses := true, apart := false }
def RegisterBackSaid : Prop := registerBackRow.holds Tryz.pinned (OpenSpec.ofChange registerBackSpec)

/-- ITS FALSE NEIGHBOUR: 'it returns false'. Refute it at one input. -/
def registerBackWrong : ChangeSpec := { name := "registerBack", fn := fun _ => fun
  | [d1, d2] => { results := [.lit (.bool false)], args := [d1, d2] }
  | _ => none }
def RegisterBackWrongFalsely : Prop := registerBackRow.holds Tryz.pinned (OpenSpec.ofChange registerBackWrong)

/-- 'headracelaw20.RegisterKeeps': WHATEVER THE INPUT: true; the input reads as it did. -/
def registerKeepsSpec : ChangeSpec := { name := "registerKeeps", fn := fun _ => fun
  | [d1, d2, d3] => { results := [.lit (.bool true)], args := [d1, d2, d3] }
  | _ => none }
def registerKeepsRow : OpenClaim := { program := "ytbimkhdiplnbfaagreat", sum := "23a1c941e17687aa8e03acad5140c7364bffeae7f980581b2a64263a1f94b210", func := "headrace/headracelaw20.RegisterKeeps", spec := "registerKeeps", inPlace := ["maps.clone"], unfollowed := true, recurses := true, apart := false }
def RegisterKeepsSaid : Prop := registerKeepsRow.holds Tryz.pinned (OpenSpec.ofChange registerKeepsSpec)

/-- ITS FALSE NEIGHBOUR: 'it returns false'. Refute it at one input. -/
def registerKeepsWrong : ChangeSpec := { name := "registerKeeps", fn := fun _ => fun
  | [d1, d2, d3] => { results := [.lit (.bool false)], args := [d1, d2, d3] }
  | _ => none }
def RegisterKeepsWrongFalsely : Prop := registerKeepsRow.holds Tryz.pinned (OpenSpec.ofChange registerKeepsWrong)

/-- 'headracelaw20.RegisterOpens': WHATEVER THE INPUT: true; the input reads as it did. -/
def registerOpensSpec : ChangeSpec := { name := "registerOpens", fn := fun _ => fun
  | [d1, d2] => { results := [.lit (.bool true)], args := [d1, d2] }
  | _ => none }
def registerOpensRow : OpenClaim := { program := "ytbimkhdiplnbfaagreat", sum := "23a1c941e17687aa8e03acad5140c7364bffeae7f980581b2a64263a1f94b210", func := "headrace/headracelaw20.RegisterOpens", spec := "registerOpens", inPlace := ["maps.clone"], unfollowed := true, recurses := true, apart := false }
def RegisterOpensSaid : Prop := registerOpensRow.holds Tryz.pinned (OpenSpec.ofChange registerOpensSpec)

/-- ITS FALSE NEIGHBOUR: 'it returns false'. Refute it at one input. -/
def registerOpensWrong : ChangeSpec := { name := "registerOpens", fn := fun _ => fun
  | [d1, d2] => { results := [.lit (.bool false)], args := [d1, d2] }
  | _ => none }
def RegisterOpensWrongFalsely : Prop := registerOpensRow.holds Tryz.pinned (OpenSpec.ofChange registerOpensWrong)

/-- 'headracelaw20.RegisterNone': WHATEVER THE INPUT: true; the input reads as it did. -/
def registerNoneSpec : ChangeSpec := { name := "registerNone", fn := fun _ => fun
  | [d1, d2, d3] => { results := [.lit (.bool true)], args := [d1, d2, d3] }
  | _ => none }
def registerNoneRow : OpenClaim := { program := "ytbimkhdiplnbfaagreat", sum := "23a1c941e17687aa8e03acad5140c7364bffeae7f980581b2a64263a1f94b210", func := "headrace/headracelaw20.RegisterNone", spec := "registerNone", inPlace := ["maps.clone"], unfollowed := true, recurses := true, apart := false }
def RegisterNoneSaid : Prop := registerNoneRow.holds Tryz.pinned (OpenSpec.ofChange registerNoneSpec)

/-- ITS FALSE NEIGHBOUR: 'it returns false'. Refute it at one input. -/
def registerNoneWrong : ChangeSpec := { name := "registerNone", fn := fun _ => fun
  | [d1, d2, d3] => { results := [.lit (.bool false)], args := [d1, d2, d3] }
  | _ => none }
def RegisterNoneWrongFalsely : Prop := registerNoneRow.holds Tryz.pinned (OpenSpec.ofChange registerNoneWrong)

/-- 'headracelaw20.RegisterDoes': WHATEVER THE INPUT: true; the input reads as it did. -/
def registerDoesSpec : ChangeSpec := { name := "registerDoes", fn := fun _ => fun
  | [d1, d2] => { results := [.lit (.bool true)], args := [d1, d2] }
  | _ => none }
def registerDoesRow : OpenClaim := { program := "ytbimkhdiplnbfaagreat", sum := "23a1c941e17687aa8e03acad5140c7364bffeae7f980581b2a64263a1f94b210", func := "headrace/headracelaw20.RegisterDoes", spec := "registerDoes", inPlace := ["maps.clone"], unfollowed := true, recurses := true, apart := false }
def RegisterDoesSaid : Prop := registerDoesRow.holds Tryz.pinned (OpenSpec.ofChange registerDoesSpec)

/-- ITS FALSE NEIGHBOUR: 'it returns false'. Refute it at one input. -/
def registerDoesWrong : ChangeSpec := { name := "registerDoes", fn := fun _ => fun
  | [d1, d2] => { results := [.lit (.bool false)], args := [d1, d2] }
  | _ => none }
def RegisterDoesWrongFalsely : Prop := registerDoesRow.holds Tryz.pinned (OpenSpec.ofChange registerDoesWrong)

/- THE SECOND FORM. 'bulk': how many values and letters a reading holds, each counted each time it is reached (what is shared counts as often as it is met; a slice's spare places count too). A statement '..UptoSaid' is the law's where the arguments, and the package variables that the reading takes, are together of bulk at most 1048576: NARROWER than '..Said'. Prove '..Said' where nothing that the law and all that it calls make is longer than what came in: it says more and counts as full. Else prove '..UptoSaid'. A law counts once. -/
mutual
def uptoBulk {H : Type} : DataW H → Nat
  | .lit (.string bytes) => bytes.length + 1
  | .lit _ => 1
  | .nil => 1
  | .ptr d => uptoBulk d + 1
  | .slice elems spare => uptoBulkAll elems + uptoBulkAll spare + 1
  | .agg parts => uptoBulkAll parts + 1
  | .iface _ d => uptoBulk d + 1
  | .map entries => uptoBulkEntries entries + 1
  | .held _ => 1
def uptoBulkAll {H : Type} : List (DataW H) → Nat
  | [] => 0
  | d :: r => uptoBulk d + uptoBulkAll r
def uptoBulkEntries {H : Type} : List (Lit × DataW H) → Nat
  | [] => 0
  | x :: r => uptoBulkEntry x + uptoBulkEntries r
def uptoBulkEntry {H : Type} : Lit × DataW H → Nat
  | (.string bytes, d) => bytes.length + uptoBulk d + 1
  | (_, d) => uptoBulk d + 1
 end
def uptoSmall : (H : Type) → List (DataW H) → Bool := fun _ ds => decide (uptoBulkAll ds ≤ 1048576)
def OpenSpec.upto (s : _root_.Go.ChangeSpec) : _root_.Go.OpenSpec := { _root_.Go.OpenSpec.ofChange s with cond := some uptoSmall }

/-- 'headracelaw04.WalDeeds', WHERE WHAT IT READS IS OF BULK AT MOST 1048576: true; the input reads as it did. -/
def walDeedsUptoRow : OpenClaim := { program := "ytbimkhdiplnbfaagreat", sum := "23a1c941e17687aa8e03acad5140c7364bffeae7f980581b2a64263a1f94b210", func := "headrace/headracelaw04.WalDeeds", spec := "walDeeds", unfollowed := true, recurses := true, apart := false, narrowed := true }
def WalDeedsUptoSaid : Prop := walDeedsUptoRow.holds Tryz.pinned (OpenSpec.upto walDeedsSpec)

/-- 'headracelaw20.RegisterCodes', WHERE WHAT IT READS IS OF BULK AT MOST 1048576: true; the input reads as it did. -/
def registerCodesUptoRow : OpenClaim := { program := "ytbimkhdiplnbfaagreat", sum := "23a1c941e17687aa8e03acad5140c7364bffeae7f980581b2a64263a1f94b210", func := "headrace/headracelaw20.RegisterCodes", spec := "registerCodes", inPlace := ["maps.clone"], unfollowed := true, recurses := true, apart := false, narrowed := true }
def RegisterCodesUptoSaid : Prop := registerCodesUptoRow.holds Tryz.pinned (OpenSpec.upto registerCodesSpec)

/-- 'headracelaw20.RegisterFenced', WHERE WHAT IT READS IS OF BULK AT MOST 1048576: true; the input reads as it did. -/
def registerFencedUptoRow : OpenClaim := { program := "ytbimkhdiplnbfaagreat", sum := "23a1c941e17687aa8e03acad5140c7364bffeae7f980581b2a64263a1f94b210", func := "headrace/headracelaw20.RegisterFenced", spec := "registerFenced", inPlace := ["maps.clone"], unfollowed := true, recurses := true, apart := false, narrowed := true }
def RegisterFencedUptoSaid : Prop := registerFencedUptoRow.holds Tryz.pinned (OpenSpec.upto registerFencedSpec)

/-- 'headracelaw20.RegisterRoom', WHERE WHAT IT READS IS OF BULK AT MOST 1048576: true; the input reads as it did. -/
def registerRoomUptoRow : OpenClaim := { program := "ytbimkhdiplnbfaagreat", sum := "23a1c941e17687aa8e03acad5140c7364bffeae7f980581b2a64263a1f94b210", func := "headrace/headracelaw20.RegisterRoom", spec := "registerRoom", inPlace := ["maps.clone"], unfollowed := true, recurses := true, apart := false, narrowed := true }
def RegisterRoomUptoSaid : Prop := registerRoomUptoRow.holds Tryz.pinned (OpenSpec.upto registerRoomSpec)

/-- 'headracelaw20.RegisterBack', WHERE WHAT IT READS IS OF BULK AT MOST 1048576: true; the input reads as it did. -/
def registerBackUptoRow : OpenClaim := { program := "ytbimkhdiplnbfaagreat", sum := "23a1c941e17687aa8e03acad5140c7364bffeae7f980581b2a64263a1f94b210", func := "headrace/headracelaw20.RegisterBack", spec := "registerBack", inPlace := ["maps.clone"], unfollowed := true, recurses := true, apart := false, narrowed := true }
def RegisterBackUptoSaid : Prop := registerBackUptoRow.holds Tryz.pinned (OpenSpec.upto registerBackSpec)

/-- 'headracelaw20.RegisterKeeps', WHERE WHAT IT READS IS OF BULK AT MOST 1048576: true; the input reads as it did. -/
def registerKeepsUptoRow : OpenClaim := { program := "ytbimkhdiplnbfaagreat", sum := "23a1c941e17687aa8e03acad5140c7364bffeae7f980581b2a64263a1f94b210", func := "headrace/headracelaw20.RegisterKeeps", spec := "registerKeeps", inPlace := ["maps.clone"], unfollowed := true, recurses := true, apart := false, narrowed := true }
def RegisterKeepsUptoSaid : Prop := registerKeepsUptoRow.holds Tryz.pinned (OpenSpec.upto registerKeepsSpec)

/-- 'headracelaw20.RegisterOpens', WHERE WHAT IT READS IS OF BULK AT MOST 1048576: true; the input reads as it did. -/
def registerOpensUptoRow : OpenClaim := { program := "ytbimkhdiplnbfaagreat", sum := "23a1c941e17687aa8e03acad5140c7364bffeae7f980581b2a64263a1f94b210", func := "headrace/headracelaw20.RegisterOpens", spec := "registerOpens", inPlace := ["maps.clone"], unfollowed := true, recurses := true, apart := false, narrowed := true }
def RegisterOpensUptoSaid : Prop := registerOpensUptoRow.holds Tryz.pinned (OpenSpec.upto registerOpensSpec)

/-- 'headracelaw20.RegisterNone', WHERE WHAT IT READS IS OF BULK AT MOST 1048576: true; the input reads as it did. -/
def registerNoneUptoRow : OpenClaim := { program := "ytbimkhdiplnbfaagreat", sum := "23a1c941e17687aa8e03acad5140c7364bffeae7f980581b2a64263a1f94b210", func := "headrace/headracelaw20.RegisterNone", spec := "registerNone", inPlace := ["maps.clone"], unfollowed := true, recurses := true, apart := false, narrowed := true }
def RegisterNoneUptoSaid : Prop := registerNoneUptoRow.holds Tryz.pinned (OpenSpec.upto registerNoneSpec)

/-- 'headracelaw20.RegisterDoes', WHERE WHAT IT READS IS OF BULK AT MOST 1048576: true; the input reads as it did. -/
def registerDoesUptoRow : OpenClaim := { program := "ytbimkhdiplnbfaagreat", sum := "23a1c941e17687aa8e03acad5140c7364bffeae7f980581b2a64263a1f94b210", func := "headrace/headracelaw20.RegisterDoes", spec := "registerDoes", inPlace := ["maps.clone"], unfollowed := true, recurses := true, apart := false, narrowed := true }
def RegisterDoesUptoSaid : Prop := registerDoesUptoRow.holds Tryz.pinned (OpenSpec.upto registerDoesSpec)

end Rows
end Go.Proofs.YtbimkhdiplnbfaaGreat
