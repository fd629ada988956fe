/- Arguments of Send and Told, opened. -/
import Derived.Test.YtcdgdiheoejjgaaFOp
import Derived.Test.YtcdgdiheoejjgaaFTell
namespace Go.Proofs.Ytcdgdiheoejjgaa
open Go.VM
set_option maxRecDepth 100000
set_option linter.unusedSimpArgs false
set_option linter.unusedVariables false
theorem typed_82 {k : Nat} {ts : List T} (h : typed Try.prog (k + 3) 82 ts) : ∃ o : OpV, ts = [.int .i64 o.kind, .str o.path, .str o.to, .str o.data] ∧ o.ok := by
  simp only [typed, Try.underlying82, typedF, Try.underlying3, Try.underlying9, List.map_cons, List.map_nil] at h
  obtain ⟨_, _, rfl, ⟨a, rfl, _⟩, _, _, rfl, ⟨b, rfl, hb⟩, _, _, rfl, ⟨c, rfl, hc⟩, _, _, rfl, ⟨d, rfl, hd⟩, rfl⟩ := h
  exact ⟨⟨a, b, c, d⟩, rfl, hb, hc, hd⟩
theorem typed_92 {k : Nat} {ts : List T} (h : typed Try.prog (k + 3) 92 ts) : ∃ o : TellV, ts = [.int .i64 o.code, .str o.text] ∧ o.ok := by
  simp only [typed, Try.underlying92, typedF, Try.underlying3, Try.underlying9, List.map_cons, List.map_nil] at h
  obtain ⟨_, _, rfl, ⟨a, rfl, _⟩, _, _, rfl, ⟨b, rfl, hb⟩, rfl⟩ := h
  exact ⟨⟨a, b⟩, rfl, hb⟩
end Go.Proofs.Ytcdgdiheoejjgaa
