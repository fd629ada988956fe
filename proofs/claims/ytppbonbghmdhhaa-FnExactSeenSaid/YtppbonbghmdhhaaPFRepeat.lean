/- The library's Repeat of one number, 26 times; Mul64 of 1 and 26. -/
import Derived.Test.YtppbonbghmdhhaaPFSlices
namespace Go.Proofs.Ytppbonbghmdhhaa
open Go.VM Go
set_option maxRecDepth 100000
set_option linter.unusedSimpArgs false
set_option linter.unusedVariables false
attribute [local congr] vw_congr runV_congr runH_congr runW_congr runX_congr
theorem b0 : binV Try.prog .and 246 (.c (.int .u64 1)) (.c (.int .u64 4294967295)) = some (.c (.int .u64 1)) := by kernel_rfl
theorem b1 : binV Try.prog .and 246 (.c (.int .u64 26)) (.c (.int .u64 4294967295)) = some (.c (.int .u64 26)) := by kernel_rfl
theorem b2 : binV Try.prog .and 246 (.c (.int .u64 0)) (.c (.int .u64 4294967295)) = some (.c (.int .u64 0)) := by kernel_rfl
theorem b3 : binV Try.prog .shr 246 (.c (.int .u64 1)) (.c (.int .u64 32)) = some (.c (.int .u64 0)) := by kernel_rfl
end Go.Proofs.Ytppbonbghmdhhaa
