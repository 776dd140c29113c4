/- The disk as a value: a crash. -/
import Derived.Test.YtbimkhdiplnbfaaC1
namespace Go.Proofs.Ytbimkhdiplnbfaa

/-- Is the block of number n kept? -/
def Dk.keepsAt (D : Dk) (keep : List Bool) (n : Int) : Bool := D.row.zipIdx.any fun x => x.1.2.2 == n && keep.getD x.2 false
def Dk.crash (D : Dk) (keep : List Bool) : Dk := { D.arrive (fun n => !D.keepsAt keep n) with dead := false, arm := -1, fail := -1 }

theorem Dk.Ok.crash {D : Dk} {K : Nat} (h : D.Ok K) (keep : List Bool) : (D.crash keep).Ok K := by
  have h1 := h.arrive (fun n => !D.keepsAt keep n)
  exact ⟨h1.len, h1.blks, h1.rblks, h1.sorted, h1.sent, h1.ops, ⟨by show (-1 : Int) ≤ -1; omega, by show (-1 : Int) ≤ 9223372036854775807; omega⟩, ⟨by show (-1 : Int) ≤ -1; omega, by show (-1 : Int) ≤ 9223372036854775807; omega⟩, h1.rowlen⟩

end Go.Proofs.Ytbimkhdiplnbfaa
