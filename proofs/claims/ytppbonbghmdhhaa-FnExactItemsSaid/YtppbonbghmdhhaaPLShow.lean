/- The law FnExactChipText. -/
import Derived.Test.YtppbonbghmdhhaaPFShow
namespace Go.Proofs.Ytppbonbghmdhhaa
open Go.VM Go
set_option maxRecDepth 100000
set_option linter.unusedSimpArgs false
set_option linter.unusedVariables false
attribute [local congr] vw_congr runV_congr runH_congr runW_congr runX_congr
theorem typed_22 {k : Nat} {ts : List T} (h : typed Try.prog (k + 4) 22 ts) : ∃ l : List ByteArray, ts = [.list false 1 (l.map sRow)] ∧ l.length < 2 ^ 63 ∧ ∀ x ∈ l, x.size < 2 ^ 63 := by
  simp only [typed, Try.underlying22, Try.underlying9, cellsOf_9] at h
  obtain ⟨rows, rfl, hlen, hrows⟩ := h
  obtain ⟨l, rfl, hl⟩ := map_of (f := sRow) (Q := fun x => x.size < 2 ^ 63) (rows := rows) (fun r hr => by
    obtain ⟨s, rfl, hs⟩ := hrows r hr
    exact ⟨s, rfl, hs⟩)
  exact ⟨l, rfl, by simpa using hlen, hl⟩
end Go.Proofs.Ytppbonbghmdhhaa
