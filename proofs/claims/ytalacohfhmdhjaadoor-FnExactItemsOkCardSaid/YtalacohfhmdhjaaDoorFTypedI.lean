import Derived.Test.YtalacohfhmdhjaaDoorFItem
import Derived.Test.YtalacohfhmdhjaaDoorVUse
namespace Go.Proofs.YtalacohfhmdhjaaDoor
open Go.VM
set_option maxRecDepth 100000
theorem typed_35 {ts : List T} (h : typed Tryd.prog 6 35 ts) : ∃ l : List It3, ts = [.list false 3 (l.map iRow)] ∧ l.length < 2 ^ 63 ∧ ∀ x ∈ l, x.1.size < 2 ^ 63 ∧ x.2.2.size < 2 ^ 63 := by
  simp only [typed, Tryd.underlying35, Tryd.underlying53, typedF, Tryd.underlying9, Tryd.underlying4, cellsOf_53, List.map_cons, List.map_nil] at h
  obtain ⟨rows, rfl, hlen, hrows⟩ := h
  obtain ⟨l, rfl, hl⟩ := map_of (f := iRow) (Q := fun x => x.1.size < 2 ^ 63 ∧ x.2.2.size < 2 ^ 63) (rows := rows) (fun r hr => by
    obtain ⟨_, _, rfl, ⟨p, rfl, hp⟩, _, _, rfl, ⟨d, rfl⟩, _, _, rfl, ⟨t, rfl, ht⟩, rfl⟩ := hrows r hr
    exact ⟨(p, d, t), rfl, hp, ht⟩)
  exact ⟨l, rfl, by simpa using hlen, hl⟩
end Go.Proofs.YtalacohfhmdhjaaDoor
