import Derived.Test.YtcdgdiheoejjgaaFItem
import Derived.Test.YtcdgdiheoejjgaaVUse
namespace Go.Proofs.Ytcdgdiheoejjgaa
open Go.VM
set_option maxRecDepth 100000
theorem typed_9 {ts : List T} (h : typed Try.prog 6 9 ts) : ∃ q : ByteArray, ts = [.str q] ∧ q.size < 2 ^ 63 := by
  simpa only [typed, Try.underlying9] using h
theorem typed_24 {ts : List T} (h : typed Try.prog 6 24 ts) : ∃ l : List It3, ts = [.list false 3 (l.map iRow)] ∧ l.length < 2 ^ 63 ∧ ∀ x ∈ l, x.1.size < 2 ^ 63 ∧ x.2.2.size < 2 ^ 63 := by
  simp only [typed, Try.underlying24, Try.underlying100, typedF, Try.underlying9, Try.underlying4, cellsOf_100, List.map_cons, List.map_nil] at h
  obtain ⟨rows, rfl, hlen, hrows⟩ := h
  obtain ⟨l, rfl, hl⟩ := map_of (f := iRow) (Q := fun x => x.1.size < 2 ^ 63 ∧ x.2.2.size < 2 ^ 63) (rows := rows) (fun r hr => by
    obtain ⟨_, _, rfl, ⟨p, rfl, hp⟩, _, _, rfl, ⟨d, rfl⟩, _, _, rfl, ⟨t, rfl, ht⟩, rfl⟩ := hrows r hr
    exact ⟨(p, d, t), rfl, hp, ht⟩)
  exact ⟨l, rfl, by simpa using hlen, hl⟩
end Go.Proofs.Ytcdgdiheoejjgaa
