/- The library's IndexFunc, ContainsFunc, Index, Contains, Clone, Equal of texts and of numbers. Printed by slf.py. -/
import Derived.Test.YtppbonbghmdhhaaPFMark
namespace Go.Proofs.Ytppbonbghmdhhaa
open Go.VM Go
set_option maxRecDepth 100000
set_option linter.unusedSimpArgs false
set_option linter.unusedVariables false
attribute [local congr] vw_congr runV_congr runH_congr runW_congr runX_congr
abbrev nRow (n : Int) : List T := [.int .i64 n]
theorem nRow_r1 (x : Int) : (nRow x).map T.toRO = nRow x := by simp
theorem nRow_comp : List.map T.toRO ∘ nRow = nRow := funext nRow_r1
theorem sRow_comp : List.map T.toRO ∘ sRow = sRow := funext sRow_r1
theorem nRow_clean (l : List Int) : cleanRs (l.map nRow) = true := clean_map (fun x => rfl) l
end Go.Proofs.Ytppbonbghmdhhaa
