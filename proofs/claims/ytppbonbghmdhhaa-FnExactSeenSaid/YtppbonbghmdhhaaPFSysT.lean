/- Systems as what a given argument is. -/
import Derived.Test.YtppbonbghmdhhaaPLSeen
namespace Go.Proofs.Ytppbonbghmdhhaa
open Go.VM Go
set_option maxRecDepth 100000
set_option linter.unusedSimpArgs false
set_option linter.unusedVariables false
theorem typed_3 {k : Nat} {ts : List T} (h : typed Try.prog (k + 1) 3 ts) : ∃ n : Int, ts = [.int .i64 n] := by
  rw [typed] at h
  simp only [Try.underlying3] at h
  obtain ⟨n, rfl, _⟩ := h
  exact ⟨n, rfl⟩
theorem typed_44 {k : Nat} {ts : List T} (h : typed Try.prog (k + 6) 44 ts) : ∃ l : List PartV, ts = [.list false 4 (l.map partRow)] ∧ l.length < 2 ^ 63 ∧ ∀ x ∈ l, x.ok := by
  rw [typed] at h
  simp only [Try.underlying44, cellsOf_164] at h
  obtain ⟨rows, rfl, hlen, hrows⟩ := h
  obtain ⟨l, rfl, hl⟩ := map_of (f := partRow) (Q := PartV.ok) (rows := rows) (fun r hr => by
    obtain ⟨x, hx, ho⟩ := typed_164 (hrows r hr)
    exact ⟨x, hx, ho⟩)
  exact ⟨l, rfl, by simpa using hlen, hl⟩
theorem typed_45 {k : Nat} {ts : List T} (h : typed Try.prog (k + 6) 45 ts) : ∃ l : List PortV, ts = [.list false 2 (l.map portRow)] ∧ l.length < 2 ^ 63 ∧ ∀ x ∈ l, x.ok := by
  rw [typed] at h
  simp only [Try.underlying45, cellsOf_168] at h
  obtain ⟨rows, rfl, hlen, hrows⟩ := h
  obtain ⟨l, rfl, hl⟩ := map_of (f := portRow) (Q := PortV.ok) (rows := rows) (fun r hr => by
    obtain ⟨x, hx, ho⟩ := typed_168 (hrows r hr)
    exact ⟨x, hx, ho⟩)
  exact ⟨l, rfl, by simpa using hlen, hl⟩
theorem typed_47 {k : Nat} {ts : List T} (h : typed Try.prog (k + 7) 47 ts) : ∃ x : SysV, ts = [.list false 1 (x.ftl.pages.map sRow), .list false 1 (x.ftl.wear.map nRow), .list false 1 (x.ftl.map.map nRow), .int .i64 x.ftl.seq, .list false 4 (x.parts.map partRow), .list false 2 (x.ports.map portRow), .int .i64 x.tick] ∧ x.ok := by
  rw [typed] at h
  simp only [Try.underlying47, typedF, List.map_cons, List.map_nil] at h
  obtain ⟨_, _, rfl, h1, _, _, rfl, h2, _, _, rfl, h3, _, _, rfl, h4, rfl⟩ := h
  obtain ⟨c, rfl, hc⟩ := typed_35 h1
  obtain ⟨a, rfl, ha⟩ := typed_44 h2
  obtain ⟨b, rfl, hb⟩ := typed_45 h3
  rw [typed] at h4
  simp only [Try.underlying3] at h4
  obtain ⟨n, rfl, _⟩ := h4
  exact ⟨⟨c, a, b, n⟩, rfl, hc, ha, hb⟩
end Go.Proofs.Ytppbonbghmdhhaa
