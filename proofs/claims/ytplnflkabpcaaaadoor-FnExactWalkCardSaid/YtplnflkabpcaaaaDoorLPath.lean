/- The law of PathOk. -/
import Derived.Test.YtplnflkabpcaaaaDoorFPath
namespace Go.Proofs.YtplnflkabpcaaaaDoor
open Go.VM
set_option maxRecDepth 100000
set_option linter.unusedSimpArgs false
set_option linter.unusedVariables false
attribute [local congr] vw_congr runV_congr runH_congr runW_congr runX_congr
theorem typed_9 {k : Nat} {ts : List T} (h : typed Tryd.prog (k + 1) 9 ts) : ∃ q : ByteArray, ts = [.str q] ∧ q.size < 2 ^ 63 := by
  simpa only [typed, Tryd.underlying9] using h
end Go.Proofs.YtplnflkabpcaaaaDoor
