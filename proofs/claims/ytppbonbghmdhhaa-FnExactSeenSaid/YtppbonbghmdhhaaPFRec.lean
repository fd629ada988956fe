/- Texts and records as bytes: PutText, GetText, RecOk, RecText, RecRead of the reference. -/
import Derived.Test.YtppbonbghmdhhaaPFNum
namespace Go.Proofs.Ytppbonbghmdhhaa
open Go.VM Go
set_option maxRecDepth 100000
set_option linter.unusedSimpArgs false
set_option linter.unusedVariables false
attribute [local congr] vw_congr runV_congr runH_congr runW_congr runX_congr

def putText (s : ByteArray) : List UInt8 := if 400 < s.size then [] else putNum s.size ++ s.data.toList
def getText (l : List UInt8) (a : Int) : ByteArray × Int × Bool :=
  if (getNum l a).2.2 = true ∧ (getNum l a).1 ≤ 400 ∧ (getNum l a).1 ≤ l.length - (getNum l a).2.1 then
    (⟨((l.drop (getNum l a).2.1.toNat).take (getNum l a).1.toNat).toArray⟩, (getNum l a).2.1 + (getNum l a).1, true) else (⟨#[]⟩, 0, false)
def recOkB (s q : Int) (d : ByteArray) : Bool := inB s 0 25 && (inB q 1 1000000000 && decide ((d.size : Int) ≤ 400))
def recBody (s q : Int) (d : ByteArray) : List UInt8 := (putNum s ++ putNum q) ++ putText d
def recText (s q : Int) (d : ByteArray) : ByteArray := if recOkB s q d = true then ⟨(putNum (sumB (recBody s q d)) ++ recBody s q d).toArray⟩ else ⟨#[]⟩
/-! ### records that are read -/
abbrev RecV := Int × Int × ByteArray
def zRec : RecV := (0, 0, ⟨#[]⟩)
/-- What the reference makes of what it read. -/
def recG (s : ByteArray) (g0 g1 g2 : Int × Int × Bool) (g3 : ByteArray × Int × Bool) : RecV × Bool :=
  if (g0.2.2 && (g1.2.2 && (g2.2.2 && (g3.2.2 && decide (recText g1.1 g2.1 g3.1 = s))))) = true then ((g1.1, g2.1, g3.1), true) else (zRec, false)
def recReadL (s : ByteArray) (b : List UInt8) : RecV × Bool :=
  recG s (getNum b 0) (getNum b (getNum b 0).2.1) (getNum b (getNum b (getNum b 0).2.1).2.1) (getText b (getNum b (getNum b (getNum b 0).2.1).2.1).2.1)
def recReadS (s : ByteArray) : RecV × Bool := recReadL s s.data.toList
end Go.Proofs.Ytppbonbghmdhhaa
