/- Numbers and texts as bytes: PutNum, GetNum, Sum, PutText, GetText. -/
import Derived.Test.YtppbonbghmdhhaaPFIn
import Derived.Test.YtppbonbghmdhhaaPFMark
namespace Go.Proofs.Ytppbonbghmdhhaa
open Go.VM Go
set_option maxRecDepth 100000
set_option linter.unusedSimpArgs false
set_option linter.unusedVariables false
attribute [local congr] vw_congr runV_congr runH_congr runW_congr runX_congr

/-- A number's bytes, the lowest first. -/
def putL (n : Nat) : List UInt8 := if h : 127 < n then UInt8.ofNat (n % 128 + 128) :: putL (n / 128) else [UInt8.ofNat n]
termination_by n
def putNum (n : Int) : List UInt8 := if inB n 0 1000000000 = true then putL n.toNat else []
/-! ### sums -/
def sumL (l : List UInt8) (x : Nat) : Nat := l.foldl (fun x b => (31 * x + b.toNat) % 1000003) x
def sumB (l : List UInt8) : Nat := sumL l 7
/-! ### numbers that are read -/
/-- A number read: its bytes, how many were read already, what they make. -/
def getF : Nat → List UInt8 → Nat → Nat → Option (Nat × Nat)
  | 0, _, _, _ => none
  | _ + 1, [], _, _ => none
  | f + 1, d :: l, k, n =>
    if d.toNat < 128 then (if (0 < k ∧ d.toNat = 0) ∨ 1000000000 < n + d.toNat % 128 * 2 ^ (7 * k) then none else some (n + d.toNat % 128 * 2 ^ (7 * k), k + 1))
    else getF f l (k + 1) (n + d.toNat % 128 * 2 ^ (7 * k))
def resF (o : Option (Nat × Nat)) (a : Nat) : Int × Int × Bool := match o with | some p => (((p.1 : Nat) : Int), ((a + p.2 : Nat) : Int), true) | none => (0, 0, false)
def getNum (l : List UInt8) (at' : Int) : Int × Int × Bool := if 0 ≤ at' ∧ at' ≤ l.length then resF (getF 5 (l.drop at'.toNat) 0 0) at'.toNat else (0, 0, false)
end Go.Proofs.Ytppbonbghmdhhaa
