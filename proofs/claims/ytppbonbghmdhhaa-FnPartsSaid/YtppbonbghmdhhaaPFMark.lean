/- Marks: their texts; lists of texts: size, copy, comparing, marking, and reading marks again. -/
import Derived.Test.YtppbonbghmdhhaaPFBase
import Derived.Test.YtppbonbghmdhhaaPVBk
namespace Go.Proofs.Ytppbonbghmdhhaa
open Go.VM
set_option maxRecDepth 100000
set_option linter.unusedSimpArgs false
set_option linter.unusedVariables false
attribute [local congr] vw_congr runV_congr runH_congr runW_congr runX_congr

theorem range1 : List.range 1 = [0] := rfl

def dig (k : Nat) : ByteArray := ⟨#[UInt8.ofNat (IntKind.wrap .u8 (IntKind.wrap .i64 (48 + (k : Int).tmod 10))).toNat]⟩
def mtL : Nat → Nat → ByteArray → ByteArray
  | 0, _, s => s
  | f + 1, k, s => if 0 < k then mtL f (k / 10) (dig k ++ s) else s
def mt (k : Int) : ByteArray := if k ≤ 0 then ⟨#[109, 48]⟩ else ⟨#[109]⟩ ++ mtL 64 k.toNat ⟨#[]⟩

/-! ### lists of texts -/

def sRow (s : ByteArray) : List T := [.str s]
/-! ### marks -/

def marks (k : Int) (n : Nat) : List ByteArray := (List.range n).map fun (j : Nat) => mt (k + (j : Int))
end Go.Proofs.Ytppbonbghmdhhaa
