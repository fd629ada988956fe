/- The relation holds when a block of one's own is marked behind its end. -/
import Derived.Test.YtkijdbljnefeaaaGreatDoorPVMA
set_option linter.unusedSimpArgs false
set_option linter.unusedVariables false
namespace Go.VM
open Go
theorem RepT.refreeze {w w' : World} {ow : Own} {bs : Base} (k : Kept w ow w' ow)
    (hq : ∀ b ℓ c e z, ow b = some ℓ → w.heap[b]? = some (.cells c e z) → Unfrozen z c.size → ∃ z', w'.heap[b]? = some (.cells c e z') ∧ Unfrozen z' c.size) {ℓ : Loc} {x : T} {v : Value} (h : RepT w ow bs ℓ x v) :
    RepT w' ow bs ℓ x v := by
  induction h with
  | ro h => exact .ro (h.mono k)
  | nil base => exact .nil base
  | list base spot own blk free hlen hcap fits rows _ ih =>
    obtain ⟨z', h1, h2⟩ := hq _ _ _ _ _ own blk free
    exact .list base spot own h1 h2 hlen hcap fits rows ih
theorem Rel.refreeze {w w' : World} {ow bs st fr} (h : Rel w ow bs st fr) (hz : w'.heap.size = w.heap.size) (k : Kept w ow w' ow)
    (hq : ∀ b ℓ c e z, ow b = some ℓ → w.heap[b]? = some (.cells c e z) → Unfrozen z c.size → ∃ z', w'.heap[b]? = some (.cells c e z') ∧ Unfrozen z' c.size) : Rel w' ow bs st fr :=
  ⟨fun r R hr => (h.root r R hr).refreeze k hq, h.box, fun b ℓ hb => ⟨(h.own b ℓ hb).1, by rw [hz]; exact (h.own b ℓ hb).2⟩, h.free⟩
theorem Unfrozen.behind {z : Nat × Nat} {n : Nat} (h : Unfrozen z n) : Unfrozen (if z.1 == z.2 then (n, n + 1) else (min z.1 n, max z.2 (n + 1))) n := by
  obtain ⟨h1, h2⟩ := h
  split
  · exact ⟨by simp, fun k hk => by simp; omega⟩
  · rename_i hne
    have hne' : z.1 ≠ z.2 := by simpa using hne
    have : n ≤ z.1 := by
      rcases Nat.lt_or_ge z.1 n with hl | hl
      · exact absurd ⟨Nat.le_refl _, by omega⟩ (h2 z.1 hl)
      · exact hl
    refine ⟨?_, fun k hk => ?_⟩
    · simp only; omega
    · simp only; omega
/-- The mark itself. -/
theorem Rel.mark {w : World} {ow bs st fr} (h : Rel w ow bs st fr) {b : Nat} {ℓ : Loc} {c : Array Value} {e : TypeId} {z : Nat × Nat} (hb : ow b = some ℓ) (hc : w.heap[b]? = some (.cells c e z)) :
    Rel (w.freeze ⟨b, c.size, none⟩ 1) ow bs st fr ∧ Steady w ow (w.freeze ⟨b, c.size, none⟩ 1) ow := by
  have hs : (w.freeze ⟨b, c.size, none⟩ 1).heap.size = w.heap.size := by simp [World.freeze]
  have hk : Kept w ow (w.freeze ⟨b, c.size, none⟩ 1) ow := fun x hx hlt => ⟨by
    have : b ≠ x := fun e => by rw [e, hx] at hb; cases hb
    simp [World.freeze,Array.getElem?_modify,this], hx⟩
  refine ⟨h.refreeze hs hk (fun b' ℓ' c' e' z' hb' hc' hu => ?_), ⟨hk, by rw [hs]; exact Nat.le_refl _, by simp [World.freeze], by simp [World.freeze], by simp [World.freeze]⟩⟩
  by_cases e : b = b'
  · subst e
    rw [hc] at hc'
    cases hc'
    refine ⟨_, ?_, hu.behind⟩
    simp [World.freeze,Array.getElem?_modify,hc]
  · exact ⟨z', by simp [World.freeze,Array.getElem?_modify,e,hc'], hu⟩
theorem markBytes_sound {P : Program} {w ow bs st} {fr fr' : Nat → Prop} (hr : Rel w ow bs st fr) (hf : ∀ r, fr' r → fr r) {s : TypeId} {e : TypeId} (he : elemT P s = some e) (hu : intT P e = some .u8)
    {x : VV} {v : Value} (rx : RelV w ow bs st fr x v) (hal : isAl x = true) (hrow : hasRow (rowsOf st x) = true) :
    Does w ow bs st fr fr' ((do pure (Next.value (← convert s s v)) : Sem Next).run P w) x st := by
  cases x with
  | al r p m sz off len =>
    simp only [rowsOf] at hrow
    split at hrow
    · rename_i R sz' rows hs
      split at hrow
      · rename_i hc
        obtain ⟨hle, rfl⟩ := hc
        obtain ⟨hR, hfr, hn⟩ := seek_some hs
        have hex : ∃ (x : T) (row : List T), rows[off]? = some (x :: row) ∧ len ≠ 0 := by
          cases hd : (rows.drop off).take len with
          | nil => rw [hd] at hrow; cases hrow
          | cons row rest =>
            cases row with
            | nil => rw [hd] at hrow; cases hrow
            | cons x row =>
              have h0 : ((rows.drop off).take len)[0]? = some (x :: row) := by rw [hd]; rfl
              rw [List.getElem?_take] at h0
              split at h0
              · rw [List.getElem?_drop] at h0
                exact ⟨x, row, by simpa using h0, by omega⟩
              · cases h0
        obtain ⟨x, row, hx, hl0⟩ := hex
        obtain ⟨a, l, cap, c, ty, z, hb, hsp, hown, hheap, hun, _⟩ := hr.place hR hn hx (j := 0) rfl
        cases rx with
        | @al _ _ _ _ _ _ _ hnf hsub hv hm =>
          obtain ⟨h1, h2⟩ := hsub (seek_still hs)
          rw [hb] at h2
          rcases h2 with ⟨b, l', capb, o, cap', hbv, rfl, _⟩ | ⟨_, _, hbv, _⟩
          · simp only [Value.slice.injEq,Option.some.injEq] at hbv
            obtain ⟨rfl, _, _⟩ := hbv
            have hmk := hr.mark hown hheap
            refine ⟨.slice (some ⟨a.block, o, none⟩) len cap', w.freeze ⟨a.block, c.size, none⟩ 1, ow, bs, .inl ?_, hmk.1.shrink hf, ?_, hmk.2, Quiet.shrink hf⟩
            · have hsh : w.shape? a.block = some (ty, c.size) := by
                show (match w.heap[a.block]? with | some (.cells c elem _) => some (elem, c.size) | _ => none) = _
                rw [hheap]
              simp only [convert,Sem.run_bind,run_underlying (elemT_some he).1,run_underlying (intT_some hu),Result.andThen_ok,beq_self_eq_true,markStringish,run_shape,hsh,run_freeze,Sem.run_pure]
            · exact RelV.mono hmk.2.kept (Quiet.shrink hf) (.al hnf hsub hv hm)
          · cases hbv
      · cases hrow
    · cases hrow
  | _ => cases hal
end Go.VM
