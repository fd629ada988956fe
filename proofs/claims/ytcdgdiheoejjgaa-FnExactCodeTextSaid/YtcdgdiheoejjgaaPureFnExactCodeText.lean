/- The program's CodeText returns what the reference's returns, at every i64. Both index one table of eight words when 0 ≤ code ≤ 7, and are empty elsewhere. No condition beyond the statement's own. -/
import Derived.Test.YtcdgdiheoejjgaaPFnExactCodeTextx1
namespace Go.Proofs.Ytcdgdiheoejjgaa.Pure
open Go.RowKit Go.Proofs.Ytcdgdiheoejjgaa.PFnExactCodeText Go.Proofs.YtcdgdiheoejjgaaW.PrintWords Go.Proofs.YtcdgdiheoejjgaaW.PrintLast

/-- The law's plain form holds: the two bodies are the same term, and it tells a text wherever it is asked. -/
theorem FnExactCodeText : laws_FnExactCodeText.Pure := by
  intro a h
  have same : impl_CodeText.f a = spec_CodeText.f a := rfl
  have told : ∃ r, spec_CodeText.f a = some r := by
    unfold spec_CodeText.f spec_l1In.f
    by_cases h0 : a ≥ 0
    · by_cases h7 : a ≤ 7
      · have h0' : (0 : Int) ≤ a := h0
        have h8 : a < 8 := by omega
        simp [h0', h7, h8]
      · have h0' : (0 : Int) ≤ a := h0
        simp [h0', h7]
    · have h0' : ¬ (0 : Int) ≤ a := h0
      simp [h0']
  obtain ⟨r, hr⟩ := told
  unfold laws_FnExactCodeText.f
  rw [same, hr]
  simp

end Go.Proofs.Ytcdgdiheoejjgaa.Pure
