/-
  No cell of these rows narrows 'for every input' (looked for: loops, veiled, ifaces, maps, wideKeys, modest, calm, conditions, laid).
  DERIVED. THE GIVEN ROWS OF THIS SEAT. 11 by the template 'for every input the law returns true; each argument reads behind the call as it read before'; 0 by the template 'total and deterministic' (their statements: YtbimkhdiplnbfaaTotals.lean).
  GIVEN WITH THE SEED: the statements are not yours to turn. If you find one false, say at which input.
  Laid BY PROGRAM, IN A SANDBOX (cutbox-rows.mjs): the forced cells as the released guide's own fill.sh prints them over the translation 3d596d8961c5905c… (all of the seat's roots in one cut). By AI agents, Wed Nov 11 2026. No macro, syntax, notation, axiom, sorry.
-/
import Derived.Test.YtbimkhdiplnbfaaChecked
import GoSem.Claim
import GoSem.ClaimJoined
import GoSem.ClaimMapViews
import Derived.JoinedTies
import Derived.KernelRfl
namespace Go.Proofs.Ytbimkhdiplnbfaa
/- THE CELL 'sum', in the pinned program and in every row, IS THE sha256 OF THE DUMP (.gsa) THAT YtbimkhdiplnbfaaProg.lean LOADS. Nothing in Lean hashes anything: it is a label: what it is worth is what the hold of that sum in a sandbox is worth. -/
noncomputable def Try.pinned : Pinned := { name := "ytbimkhdiplnbfaa", sum := "3d596d8961c5905cef4aee8915c4a7c7a7604af93b2872b1c47d73130bf81cf1", checked := Try.checked }
namespace Rows
def none {H : Type} : Left H := { results := [], args := [] }

/-- 'headracelaw04.WalRounds': WHATEVER THE INPUT: true; the input reads as it did. -/
def walRoundsSpec : ChangeSpec := { name := "walRounds", fn := fun _ => fun
  | [d1, d2] => { results := [.lit (.bool true)], args := [d1, d2] }
  | _ => none }
def walRoundsRow : OpenClaim := { program := "ytbimkhdiplnbfaa", sum := "3d596d8961c5905cef4aee8915c4a7c7a7604af93b2872b1c47d73130bf81cf1", func := "headrace/headracelaw04.WalRounds", spec := "walRounds", unfollowed := true, recurses := true, apart := false }
def WalRoundsSaid : Prop := walRoundsRow.holds Try.pinned (OpenSpec.ofChange walRoundsSpec)

/-- ITS FALSE NEIGHBOUR: 'it returns false'. Refute it at one input. -/
def walRoundsWrong : ChangeSpec := { name := "walRounds", fn := fun _ => fun
  | [d1, d2] => { results := [.lit (.bool false)], args := [d1, d2] }
  | _ => none }
def WalRoundsWrongFalsely : Prop := walRoundsRow.holds Try.pinned (OpenSpec.ofChange walRoundsWrong)

/-- 'headracelaw04.WalNone': WHATEVER THE INPUT: true; the input reads as it did. -/
def walNoneSpec : ChangeSpec := { name := "walNone", fn := fun _ => fun
  | [d1, d2] => { results := [.lit (.bool true)], args := [d1, d2] }
  | _ => none }
def walNoneRow : OpenClaim := { program := "ytbimkhdiplnbfaa", sum := "3d596d8961c5905cef4aee8915c4a7c7a7604af93b2872b1c47d73130bf81cf1", func := "headrace/headracelaw04.WalNone", spec := "walNone", unfollowed := true, recurses := true, apart := false }
def WalNoneSaid : Prop := walNoneRow.holds Try.pinned (OpenSpec.ofChange walNoneSpec)

/-- ITS FALSE NEIGHBOUR: 'it returns false'. Refute it at one input. -/
def walNoneWrong : ChangeSpec := { name := "walNone", fn := fun _ => fun
  | [d1, d2] => { results := [.lit (.bool false)], args := [d1, d2] }
  | _ => none }
def WalNoneWrongFalsely : Prop := walNoneRow.holds Try.pinned (OpenSpec.ofChange walNoneWrong)

/-- 'headracelaw02.DiskOrder': WHATEVER THE INPUT: true; the input reads as it did. -/
def diskOrderSpec : ChangeSpec := { name := "diskOrder", fn := fun _ => fun
  | [d1, d2, d3] => { results := [.lit (.bool true)], args := [d1, d2, d3] }
  | _ => none }
def diskOrderRow : OpenClaim := { program := "ytbimkhdiplnbfaa", sum := "3d596d8961c5905cef4aee8915c4a7c7a7604af93b2872b1c47d73130bf81cf1", func := "headrace/headracelaw02.DiskOrder", spec := "diskOrder", unfollowed := true, recurses := true, apart := false }
def DiskOrderSaid : Prop := diskOrderRow.holds Try.pinned (OpenSpec.ofChange diskOrderSpec)

/-- ITS FALSE NEIGHBOUR: 'it returns false'. Refute it at one input. -/
def diskOrderWrong : ChangeSpec := { name := "diskOrder", fn := fun _ => fun
  | [d1, d2, d3] => { results := [.lit (.bool false)], args := [d1, d2, d3] }
  | _ => none }
def DiskOrderWrongFalsely : Prop := diskOrderRow.holds Try.pinned (OpenSpec.ofChange diskOrderWrong)

/-- 'headracelaw02.DiskCalls': WHATEVER THE INPUT: true; the input reads as it did. -/
def diskCallsSpec : ChangeSpec := { name := "diskCalls", fn := fun _ => fun
  | [d1, d2] => { results := [.lit (.bool true)], args := [d1, d2] }
  | _ => none }
def diskCallsRow : OpenClaim := { program := "ytbimkhdiplnbfaa", sum := "3d596d8961c5905cef4aee8915c4a7c7a7604af93b2872b1c47d73130bf81cf1", func := "headrace/headracelaw02.DiskCalls", spec := "diskCalls", unfollowed := true, recurses := true, apart := false }
def DiskCallsSaid : Prop := diskCallsRow.holds Try.pinned (OpenSpec.ofChange diskCallsSpec)

/-- ITS FALSE NEIGHBOUR: 'it returns false'. Refute it at one input. -/
def diskCallsWrong : ChangeSpec := { name := "diskCalls", fn := fun _ => fun
  | [d1, d2] => { results := [.lit (.bool false)], args := [d1, d2] }
  | _ => none }
def DiskCallsWrongFalsely : Prop := diskCallsRow.holds Try.pinned (OpenSpec.ofChange diskCallsWrong)

/-- 'headracelaw02.DiskTwins': WHATEVER THE INPUT: true; the input reads as it did. -/
def diskTwinsSpec : ChangeSpec := { name := "diskTwins", fn := fun _ => fun
  | [d1, d2, d3] => { results := [.lit (.bool true)], args := [d1, d2, d3] }
  | _ => none }
def diskTwinsRow : OpenClaim := { program := "ytbimkhdiplnbfaa", sum := "3d596d8961c5905cef4aee8915c4a7c7a7604af93b2872b1c47d73130bf81cf1", func := "headrace/headracelaw02.DiskTwins", spec := "diskTwins", unfollowed := true, recurses := true, apart := false }
def DiskTwinsSaid : Prop := diskTwinsRow.holds Try.pinned (OpenSpec.ofChange diskTwinsSpec)

/-- ITS FALSE NEIGHBOUR: 'it returns false'. Refute it at one input. -/
def diskTwinsWrong : ChangeSpec := { name := "diskTwins", fn := fun _ => fun
  | [d1, d2, d3] => { results := [.lit (.bool false)], args := [d1, d2, d3] }
  | _ => none }
def DiskTwinsWrongFalsely : Prop := diskTwinsRow.holds Try.pinned (OpenSpec.ofChange diskTwinsWrong)

/-- 'headracelaw02.DiskNone': WHATEVER THE INPUT: true; the input reads as it did. -/
def diskNoneSpec : ChangeSpec := { name := "diskNone", fn := fun _ => fun
  | [d1, d2] => { results := [.lit (.bool true)], args := [d1, d2] }
  | _ => none }
def diskNoneRow : OpenClaim := { program := "ytbimkhdiplnbfaa", sum := "3d596d8961c5905cef4aee8915c4a7c7a7604af93b2872b1c47d73130bf81cf1", func := "headrace/headracelaw02.DiskNone", spec := "diskNone", unfollowed := true, recurses := true, apart := false }
def DiskNoneSaid : Prop := diskNoneRow.holds Try.pinned (OpenSpec.ofChange diskNoneSpec)

/-- ITS FALSE NEIGHBOUR: 'it returns false'. Refute it at one input. -/
def diskNoneWrong : ChangeSpec := { name := "diskNone", fn := fun _ => fun
  | [d1, d2] => { results := [.lit (.bool false)], args := [d1, d2] }
  | _ => none }
def DiskNoneWrongFalsely : Prop := diskNoneRow.holds Try.pinned (OpenSpec.ofChange diskNoneWrong)

/-- 'headracelaw02.DiskAlone': WHATEVER THE INPUT: true; the input reads as it did. -/
def diskAloneSpec : ChangeSpec := { name := "diskAlone", fn := fun _ => fun
  | [d1, d2, d3] => { results := [.lit (.bool true)], args := [d1, d2, d3] }
  | _ => none }
def diskAloneRow : OpenClaim := { program := "ytbimkhdiplnbfaa", sum := "3d596d8961c5905cef4aee8915c4a7c7a7604af93b2872b1c47d73130bf81cf1", func := "headrace/headracelaw02.DiskAlone", spec := "diskAlone", unfollowed := true, recurses := true, apart := false }
def DiskAloneSaid : Prop := diskAloneRow.holds Try.pinned (OpenSpec.ofChange diskAloneSpec)

/-- ITS FALSE NEIGHBOUR: 'it returns false'. Refute it at one input. -/
def diskAloneWrong : ChangeSpec := { name := "diskAlone", fn := fun _ => fun
  | [d1, d2, d3] => { results := [.lit (.bool false)], args := [d1, d2, d3] }
  | _ => none }
def DiskAloneWrongFalsely : Prop := diskAloneRow.holds Try.pinned (OpenSpec.ofChange diskAloneWrong)

/-- 'headracelaw02.DiskCarries': WHATEVER THE INPUT: true; the input reads as it did. -/
def diskCarriesSpec : ChangeSpec := { name := "diskCarries", fn := fun _ => fun
  | [d1, d2, d3] => { results := [.lit (.bool true)], args := [d1, d2, d3] }
  | _ => none }
def diskCarriesRow : OpenClaim := { program := "ytbimkhdiplnbfaa", sum := "3d596d8961c5905cef4aee8915c4a7c7a7604af93b2872b1c47d73130bf81cf1", func := "headrace/headracelaw02.DiskCarries", spec := "diskCarries", unfollowed := true, recurses := true, apart := false }
def DiskCarriesSaid : Prop := diskCarriesRow.holds Try.pinned (OpenSpec.ofChange diskCarriesSpec)

/-- ITS FALSE NEIGHBOUR: 'it returns false'. Refute it at one input. -/
def diskCarriesWrong : ChangeSpec := { name := "diskCarries", fn := fun _ => fun
  | [d1, d2, d3] => { results := [.lit (.bool false)], args := [d1, d2, d3] }
  | _ => none }
def DiskCarriesWrongFalsely : Prop := diskCarriesRow.holds Try.pinned (OpenSpec.ofChange diskCarriesWrong)

/-- 'headracelaw02.DiskAges': WHATEVER THE INPUT: true; the input reads as it did. -/
def diskAgesSpec : ChangeSpec := { name := "diskAges", fn := fun _ => fun
  | [d1, d2, d3] => { results := [.lit (.bool true)], args := [d1, d2, d3] }
  | _ => none }
def diskAgesRow : OpenClaim := { program := "ytbimkhdiplnbfaa", sum := "3d596d8961c5905cef4aee8915c4a7c7a7604af93b2872b1c47d73130bf81cf1", func := "headrace/headracelaw02.DiskAges", spec := "diskAges", unfollowed := true, recurses := true, apart := false }
def DiskAgesSaid : Prop := diskAgesRow.holds Try.pinned (OpenSpec.ofChange diskAgesSpec)

/-- ITS FALSE NEIGHBOUR: 'it returns false'. Refute it at one input. -/
def diskAgesWrong : ChangeSpec := { name := "diskAges", fn := fun _ => fun
  | [d1, d2, d3] => { results := [.lit (.bool false)], args := [d1, d2, d3] }
  | _ => none }
def DiskAgesWrongFalsely : Prop := diskAgesRow.holds Try.pinned (OpenSpec.ofChange diskAgesWrong)

/-- 'headracelaw04.WalHarmless': WHATEVER THE INPUT: true; the input reads as it did. -/
def walHarmlessSpec : ChangeSpec := { name := "walHarmless", fn := fun _ => fun
  | [d1, d2, d3] => { results := [.lit (.bool true)], args := [d1, d2, d3] }
  | _ => none }
def walHarmlessRow : OpenClaim := { program := "ytbimkhdiplnbfaa", sum := "3d596d8961c5905cef4aee8915c4a7c7a7604af93b2872b1c47d73130bf81cf1", func := "headrace/headracelaw04.WalHarmless", spec := "walHarmless", unfollowed := true, recurses := true, apart := false }
def WalHarmlessSaid : Prop := walHarmlessRow.holds Try.pinned (OpenSpec.ofChange walHarmlessSpec)

/-- ITS FALSE NEIGHBOUR: 'it returns false'. Refute it at one input. -/
def walHarmlessWrong : ChangeSpec := { name := "walHarmless", fn := fun _ => fun
  | [d1, d2, d3] => { results := [.lit (.bool false)], args := [d1, d2, d3] }
  | _ => none }
def WalHarmlessWrongFalsely : Prop := walHarmlessRow.holds Try.pinned (OpenSpec.ofChange walHarmlessWrong)

/-- 'headracelaw04.WalKeeps': WHATEVER THE INPUT: true; the input reads as it did. -/
def walKeepsSpec : ChangeSpec := { name := "walKeeps", fn := fun _ => fun
  | [d] => { results := [.lit (.bool true)], args := [d] }
  | _ => none }
def walKeepsRow : OpenClaim := { program := "ytbimkhdiplnbfaa", sum := "3d596d8961c5905cef4aee8915c4a7c7a7604af93b2872b1c47d73130bf81cf1", func := "headrace/headracelaw04.WalKeeps", spec := "walKeeps", unfollowed := true, recurses := true, apart := false }
def WalKeepsSaid : Prop := walKeepsRow.holds Try.pinned (OpenSpec.ofChange walKeepsSpec)

/-- ITS FALSE NEIGHBOUR: 'it returns false'. Refute it at one input. -/
def walKeepsWrong : ChangeSpec := { name := "walKeeps", fn := fun _ => fun
  | [d] => { results := [.lit (.bool false)], args := [d] }
  | _ => none }
def WalKeepsWrongFalsely : Prop := walKeepsRow.holds Try.pinned (OpenSpec.ofChange walKeepsWrong)

/- THE SECOND FORM. 'bulk': how many values and letters a reading holds, each counted each time it is reached (what is shared counts as often as it is met; a slice's spare places count too). A statement '..UptoSaid' is the law's where the arguments, and the package variables that the reading takes, are together of bulk at most 1048576: NARROWER than '..Said'. Prove '..Said' where nothing that the law and all that it calls make is longer than what came in: it says more and counts as full. Else prove '..UptoSaid'. A law counts once. -/
mutual
def uptoBulk {H : Type} : DataW H → Nat
  | .lit (.string bytes) => bytes.length + 1
  | .lit _ => 1
  | .nil => 1
  | .ptr d => uptoBulk d + 1
  | .slice elems spare => uptoBulkAll elems + uptoBulkAll spare + 1
  | .agg parts => uptoBulkAll parts + 1
  | .iface _ d => uptoBulk d + 1
  | .map entries => uptoBulkEntries entries + 1
  | .held _ => 1
def uptoBulkAll {H : Type} : List (DataW H) → Nat
  | [] => 0
  | d :: r => uptoBulk d + uptoBulkAll r
def uptoBulkEntries {H : Type} : List (Lit × DataW H) → Nat
  | [] => 0
  | x :: r => uptoBulkEntry x + uptoBulkEntries r
def uptoBulkEntry {H : Type} : Lit × DataW H → Nat
  | (.string bytes, d) => bytes.length + uptoBulk d + 1
  | (_, d) => uptoBulk d + 1
 end
def uptoSmall : (H : Type) → List (DataW H) → Bool := fun _ ds => decide (uptoBulkAll ds ≤ 1048576)
def OpenSpec.upto (s : _root_.Go.ChangeSpec) : _root_.Go.OpenSpec := { _root_.Go.OpenSpec.ofChange s with cond := some uptoSmall }

/-- 'headracelaw04.WalRounds', WHERE WHAT IT READS IS OF BULK AT MOST 1048576: true; the input reads as it did. -/
def walRoundsUptoRow : OpenClaim := { program := "ytbimkhdiplnbfaa", sum := "3d596d8961c5905cef4aee8915c4a7c7a7604af93b2872b1c47d73130bf81cf1", func := "headrace/headracelaw04.WalRounds", spec := "walRounds", unfollowed := true, recurses := true, apart := false, narrowed := true }
def WalRoundsUptoSaid : Prop := walRoundsUptoRow.holds Try.pinned (OpenSpec.upto walRoundsSpec)

/-- 'headracelaw04.WalNone', WHERE WHAT IT READS IS OF BULK AT MOST 1048576: true; the input reads as it did. -/
def walNoneUptoRow : OpenClaim := { program := "ytbimkhdiplnbfaa", sum := "3d596d8961c5905cef4aee8915c4a7c7a7604af93b2872b1c47d73130bf81cf1", func := "headrace/headracelaw04.WalNone", spec := "walNone", unfollowed := true, recurses := true, apart := false, narrowed := true }
def WalNoneUptoSaid : Prop := walNoneUptoRow.holds Try.pinned (OpenSpec.upto walNoneSpec)

/-- 'headracelaw02.DiskOrder', WHERE WHAT IT READS IS OF BULK AT MOST 1048576: true; the input reads as it did. -/
def diskOrderUptoRow : OpenClaim := { program := "ytbimkhdiplnbfaa", sum := "3d596d8961c5905cef4aee8915c4a7c7a7604af93b2872b1c47d73130bf81cf1", func := "headrace/headracelaw02.DiskOrder", spec := "diskOrder", unfollowed := true, recurses := true, apart := false, narrowed := true }
def DiskOrderUptoSaid : Prop := diskOrderUptoRow.holds Try.pinned (OpenSpec.upto diskOrderSpec)

/-- 'headracelaw02.DiskCalls', WHERE WHAT IT READS IS OF BULK AT MOST 1048576: true; the input reads as it did. -/
def diskCallsUptoRow : OpenClaim := { program := "ytbimkhdiplnbfaa", sum := "3d596d8961c5905cef4aee8915c4a7c7a7604af93b2872b1c47d73130bf81cf1", func := "headrace/headracelaw02.DiskCalls", spec := "diskCalls", unfollowed := true, recurses := true, apart := false, narrowed := true }
def DiskCallsUptoSaid : Prop := diskCallsUptoRow.holds Try.pinned (OpenSpec.upto diskCallsSpec)

/-- 'headracelaw02.DiskTwins', WHERE WHAT IT READS IS OF BULK AT MOST 1048576: true; the input reads as it did. -/
def diskTwinsUptoRow : OpenClaim := { program := "ytbimkhdiplnbfaa", sum := "3d596d8961c5905cef4aee8915c4a7c7a7604af93b2872b1c47d73130bf81cf1", func := "headrace/headracelaw02.DiskTwins", spec := "diskTwins", unfollowed := true, recurses := true, apart := false, narrowed := true }
def DiskTwinsUptoSaid : Prop := diskTwinsUptoRow.holds Try.pinned (OpenSpec.upto diskTwinsSpec)

/-- 'headracelaw02.DiskNone', WHERE WHAT IT READS IS OF BULK AT MOST 1048576: true; the input reads as it did. -/
def diskNoneUptoRow : OpenClaim := { program := "ytbimkhdiplnbfaa", sum := "3d596d8961c5905cef4aee8915c4a7c7a7604af93b2872b1c47d73130bf81cf1", func := "headrace/headracelaw02.DiskNone", spec := "diskNone", unfollowed := true, recurses := true, apart := false, narrowed := true }
def DiskNoneUptoSaid : Prop := diskNoneUptoRow.holds Try.pinned (OpenSpec.upto diskNoneSpec)

/-- 'headracelaw02.DiskAlone', WHERE WHAT IT READS IS OF BULK AT MOST 1048576: true; the input reads as it did. -/
def diskAloneUptoRow : OpenClaim := { program := "ytbimkhdiplnbfaa", sum := "3d596d8961c5905cef4aee8915c4a7c7a7604af93b2872b1c47d73130bf81cf1", func := "headrace/headracelaw02.DiskAlone", spec := "diskAlone", unfollowed := true, recurses := true, apart := false, narrowed := true }
def DiskAloneUptoSaid : Prop := diskAloneUptoRow.holds Try.pinned (OpenSpec.upto diskAloneSpec)

/-- 'headracelaw02.DiskCarries', WHERE WHAT IT READS IS OF BULK AT MOST 1048576: true; the input reads as it did. -/
def diskCarriesUptoRow : OpenClaim := { program := "ytbimkhdiplnbfaa", sum := "3d596d8961c5905cef4aee8915c4a7c7a7604af93b2872b1c47d73130bf81cf1", func := "headrace/headracelaw02.DiskCarries", spec := "diskCarries", unfollowed := true, recurses := true, apart := false, narrowed := true }
def DiskCarriesUptoSaid : Prop := diskCarriesUptoRow.holds Try.pinned (OpenSpec.upto diskCarriesSpec)

/-- 'headracelaw02.DiskAges', WHERE WHAT IT READS IS OF BULK AT MOST 1048576: true; the input reads as it did. -/
def diskAgesUptoRow : OpenClaim := { program := "ytbimkhdiplnbfaa", sum := "3d596d8961c5905cef4aee8915c4a7c7a7604af93b2872b1c47d73130bf81cf1", func := "headrace/headracelaw02.DiskAges", spec := "diskAges", unfollowed := true, recurses := true, apart := false, narrowed := true }
def DiskAgesUptoSaid : Prop := diskAgesUptoRow.holds Try.pinned (OpenSpec.upto diskAgesSpec)

/-- 'headracelaw04.WalHarmless', WHERE WHAT IT READS IS OF BULK AT MOST 1048576: true; the input reads as it did. -/
def walHarmlessUptoRow : OpenClaim := { program := "ytbimkhdiplnbfaa", sum := "3d596d8961c5905cef4aee8915c4a7c7a7604af93b2872b1c47d73130bf81cf1", func := "headrace/headracelaw04.WalHarmless", spec := "walHarmless", unfollowed := true, recurses := true, apart := false, narrowed := true }
def WalHarmlessUptoSaid : Prop := walHarmlessUptoRow.holds Try.pinned (OpenSpec.upto walHarmlessSpec)

/-- 'headracelaw04.WalKeeps', WHERE WHAT IT READS IS OF BULK AT MOST 1048576: true; the input reads as it did. -/
def walKeepsUptoRow : OpenClaim := { program := "ytbimkhdiplnbfaa", sum := "3d596d8961c5905cef4aee8915c4a7c7a7604af93b2872b1c47d73130bf81cf1", func := "headrace/headracelaw04.WalKeeps", spec := "walKeeps", unfollowed := true, recurses := true, apart := false, narrowed := true }
def WalKeepsUptoSaid : Prop := walKeepsUptoRow.holds Try.pinned (OpenSpec.upto walKeepsSpec)

end Rows
end Go.Proofs.Ytbimkhdiplnbfaa
