/- The law FnExactChipText. -/
import Derived.Test.YtppbonbghmdhhaaPFShow
namespace Go.Proofs.Ytppbonbghmdhhaa
open Go.VM Go
set_option maxRecDepth 100000
set_option linter.unusedSimpArgs false
set_option linter.unusedVariables false
attribute [local congr] vw_congr runV_congr runH_congr runW_congr runX_congr
theorem szLT_size : ∀ {l : List ByteArray} {left : Int}, 0 ≤ left → ¬ szLT l left < 0 → ∀ s ∈ l, (s.size : Int) ≤ left
  | [], left, h0, _, s, hs => by cases hs
  | x :: l, left, h0, h, s, hs => by
    simp only [szLT] at h
    split at h
    · exact absurd (by decide) h
    · rcases List.mem_cons.1 hs with rfl | hs
      · omega
      · have := szLT_size (l := l) (left := left - x.size) (by omega) h s hs
        omega
theorem szST_size {l : List ByteArray} {left : Int} (h0 : 0 ≤ left) (h : ¬ szST l left < 0) : ∀ s ∈ l, (s.size : Int) ≤ left := by
  intro s hs
  unfold szST at h
  split at h
  · exact absurd (by decide) h
  · have := szLT_size (by omega) h s hs
    omega
theorem szFtl_small {f : FtlV} (h : ¬ szFtl f 1048576 < 0) : f.small := by
  obtain ⟨a, b, c⟩ := szFtl_len (by decide) h
  refine ⟨by omega, by omega, by omega, fun s hs => ?_⟩
  unfold szFtl at h
  split at h
  · exact absurd (by decide) h
  · rename_i g
    unfold szChip at g
    split at g
    · exact absurd (by decide) g
    · rename_i g2
      have := szST_size (l := f.pages) (by decide) g2 s hs
      omega
theorem typed_22 {k : Nat} {ts : List T} (h : typed Try.prog (k + 4) 22 ts) : ∃ l : List ByteArray, ts = [.list false 1 (l.map sRow)] ∧ l.length < 2 ^ 63 ∧ ∀ x ∈ l, x.size < 2 ^ 63 := by
  simp only [typed, Try.underlying22, Try.underlying9, cellsOf_9] at h
  obtain ⟨rows, rfl, hlen, hrows⟩ := h
  obtain ⟨l, rfl, hl⟩ := map_of (f := sRow) (Q := fun x => x.size < 2 ^ 63) (rows := rows) (fun r hr => by
    obtain ⟨s, rfl, hs⟩ := hrows r hr
    exact ⟨s, rfl, hs⟩)
  exact ⟨l, rfl, by simpa using hlen, hl⟩
theorem typed_31 {k : Nat} {ts : List T} (h : typed Try.prog (k + 4) 31 ts) : ∃ l : List Int, ts = [.list false 1 (l.map nRow)] ∧ l.length < 2 ^ 63 := by
  simp only [typed, Try.underlying31, Try.underlying3, cellsOf_3] at h
  obtain ⟨rows, rfl, hlen, hrows⟩ := h
  obtain ⟨l, rfl, hl⟩ := map_of (f := nRow) (Q := fun _ => True) (rows := rows) (fun r hr => by
    obtain ⟨s, rfl, hs⟩ := hrows r hr
    exact ⟨s, rfl, trivial⟩)
  exact ⟨l, rfl, by simpa using hlen⟩
theorem typed_33 {k : Nat} {ts : List T} (h : typed Try.prog (k + 5) 33 ts) : ∃ x : ChipV, ts = [.list false 1 (x.pages.map sRow), .list false 1 (x.wear.map nRow)] ∧ x.ok := by
  rw [typed] at h
  simp only [Try.underlying33, typedF, List.map_cons, List.map_nil] at h
  obtain ⟨_, _, rfl, h1, _, _, rfl, h2, rfl⟩ := h
  obtain ⟨a, rfl, ha, hb⟩ := typed_22 h1
  obtain ⟨b, rfl, hc⟩ := typed_31 h2
  exact ⟨⟨a, b⟩, rfl, ⟨ha, hb⟩, hc⟩
theorem typed_35 {k : Nat} {ts : List T} (h : typed Try.prog (k + 6) 35 ts) : ∃ f : FtlV, ts = [.list false 1 (f.pages.map sRow), .list false 1 (f.wear.map nRow), .list false 1 (f.map.map nRow), .int .i64 f.seq] ∧ f.ok := by
  rw [typed] at h
  simp only [Try.underlying35, typedF, List.map_cons, List.map_nil] at h
  obtain ⟨_, _, rfl, h1, _, _, rfl, h2, _, _, rfl, h3, rfl⟩ := h
  obtain ⟨c, rfl, hc⟩ := typed_33 h1
  obtain ⟨m, rfl, hm⟩ := typed_31 h2
  rw [typed] at h3
  simp only [Try.underlying3] at h3
  obtain ⟨n, rfl, _⟩ := h3
  exact ⟨⟨c.pages, c.wear, m, n⟩, rfl, hc, hm⟩
end Go.Proofs.Ytppbonbghmdhhaa
