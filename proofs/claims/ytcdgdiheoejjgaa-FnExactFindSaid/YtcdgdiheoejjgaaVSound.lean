/- Each operation does to memory what it does to the frame's values. -/
import Derived.Test.YtcdgdiheoejjgaaVConv
namespace Go.VM
set_option linter.unusedSimpArgs false
set_option linter.unusedVariables false

theorem minus_sub {fr : Nat → Prop} {fid : Nat} : ∀ y, (fr y ∧ ¬ Mine fid y) → fr y := fun _ h => h.1

/-- An operation that leaves memory as it is. -/
theorem does_same {P : Program} {w ow bs st} {fr : Nat → Prop} {fid : Nat} {v : VV} {s : Sem Value} (h : Rel w ow bs st fr) (hs : ∃ u, s.run P w = .ok u w ∧ RelV w ow bs st fr v u) :
    Does w ow bs st fr (fun y => fr y ∧ ¬ Mine fid y) ((do pure (Next.value (← s)) : Sem Next).run P w) v (st.ups []) := by
  obtain ⟨u, h1, h2⟩ := hs
  exact does_of h minus_sub h1 h2

theorem append_op_sound {P : Program} {w ow bs st} {fr : Nat → Prop} {fid : Nat} {sT xT ty : TypeId} {s x : VV} {vs vx : Value} {eff : Eff} (h : Rel w ow bs st fr) (hroom : Room fr fid) (rs : RelV w ow bs st fr s vs) (rx : RelV w ow bs st fr x vx)
    (hv : appendV P fid st sT xT s x = some eff) :
    Does w ow bs st fr (fun y => fr y ∧ ¬ Mine fid y) ((do pure (Next.value (← Builtin.append_ #[sT, xT] ty #[vs, vx])) : Sem Next).run P w) eff.v (st.ups eff.ups) := by
  have hf0 : fr fid := by have := hroom 0 (by omega); simpa using this
  unfold appendV at hv
  split at hv
  · cases hv
  · rename_i e he
    obtain ⟨hu, hne⟩ := elemT_some he
    split at hv
    · cases hv
    · rename_i szx xs hxs
      split at hv
      · cases hv
      · rename_i hno
        simp only [not_or, ne_eq, Decidable.not_not, Bool.not_eq_false] at hno
        obtain ⟨rfl, hno, hz, hend⟩ := hno
        split at hv
        · rename_i sz ys u htake
          split at hv
          · cases hv
          · rename_i hcond
            simp only [not_or, ne_eq, Decidable.not_not] at hcond
            obtain ⟨rfl, hmax⟩ := hcond
            simp only [Option.some.injEq] at hv
            subst hv
            -- what is appended
            obtain ⟨hxk, hlen, nv, hfirst, hnl, hrows, hcells⟩ : ((∃ e', P.underlying xT = some (.slice e')) ∨ P.underlying xT = some .string) ∧ (Builtin.lenOf vx).run P w = .ok xs.length w ∧ ∃ nv : List Value,
                (∀ w' : World, w'.heap = w.heap → (Builtin.firstCells (P.cellsOf e) xs.length vx).run P w' = .ok nv.toArray w') ∧ nv.length = xs.length * P.cellsOf e ∧ (∀ (i : Nat) (row : List T), xs[i]? = some row → row.length = P.cellsOf e) ∧
                ∀ (i : Nat) (row : List T) (j : Nat) (y : T), xs[i]? = some row → row[j]? = some y → RepR w ow y (nv.getD (i * P.cellsOf e + j) undef) ∧ y ≠ .dead := by
              split at hxs
              · rename_i b
                split at hxs
                · rename_i hc
                  simp only [Bool.and_eq_true, beq_iff_eq] at hc
                  simp only [Option.some.injEq, Prod.mk.injEq] at hxs
                  obtain ⟨h1, rfl⟩ := hxs
                  rw [rel_str rx, ← h1]
                  have hl : (strRows b).length = b.size := by simp only [strRows, List.length_map, Array.length_toList]; rfl
                  obtain ⟨nv, g1, g2, g3, g4⟩ := first_string (P := P) w ow b
                  refine ⟨.inr (strT_true hc.1), by simp [Builtin.lenOf, hl], nv, fun w' hw' => by rw [hl]; exact g1 w', g2, g3, fun i row j y hi hj => ⟨g4 i row j y hi hj, ?_⟩⟩
                  · simp only [strRows, List.getElem?_map] at hi
                    obtain ⟨c, _, rfl⟩ := Option.map_eq_some_iff.1 hi
                    cases j with
                    | zero => simp at hj; rw [← hj]; simp
                    | succ j => simp at hj
                · cases hxs
              · split at hxs
                · cases hxs
                · rename_i hxe
                  cases hxe2 : elemT P xT with
                  | none => exact absurd hxe2 hxe
                  | some e2 =>
                    obtain ⟨⟨a, cap, hvx⟩, nv, g1, g2, g3, g4⟩ := first_cells (P := P) h rx hxs hno
                    exact ⟨.inl ⟨_, (elemT_some hxe2).1⟩, by rw [hvx]; simp [Builtin.lenOf], nv, g1, g2, g3, fun i row j y hi hj => ⟨g4 i row j y hi hj, noOwn_live hno hi hj⟩⟩
            -- the slice that is grown, as a root of its own
            obtain ⟨owB, bsB, stB, k1, k2, k3, k4, k5, k6, k7⟩ := takeV_sound h hf0 (fun _ _ => rfl) (Quiet.refl _ _ _) (Kept.refl _ _) htake rs
            rcases k5 with ⟨hc1, _, _⟩ | ⟨sz', es', he', hst, hbv⟩
            · cases hc1
            · simp only [T.list.injEq, true_and] at he'
              obtain ⟨rfl, rfl⟩ := he'
              cases hzz : zeroT P e with
              | none => exact absurd hzz hz
              | some z =>
                obtain ⟨v, w', ow', bs', q1, q2, q3, q4, q5, q6, q7⟩ := append_core (P := P) (ty := ty) k1 hst hbv hu hxk hne rfl hzz hlen hfirst hnl hrows
                  (fun i row j y hi hj => ⟨(hcells i row j y hi hj).1.mono k2, (hcells i row j y hi hj).2⟩) (by omega)
                have hnf : ∀ x, ¬ fr x → x ≠ fid := fun x hx e => hx (by rw [e]; exact hf0)
                have hV : ∀ x R, (st.ups (u ++ [(fid, some ⟨false, P.cellsOf e, ys ++ xs, []⟩)])) x = some R → (stB.put fid (some ⟨false, P.cellsOf e, ys ++ xs, []⟩)) x = some R := by
                  intro x R hR
                  rw [St.ups_append, St.ups_cons, St.ups_nil] at hR
                  by_cases e' : x = fid
                  · subst e'; rw [St.put_eq] at hR ⊢; exact hR
                  · rw [St.put_ne _ _ e'] at hR ⊢
                    have hx : ¬ fr x := by
                      intro hfx
                      rw [ups_other (fun r R' hm e2 => k7 r R' hm (by rw [e2]; exact hfx)), h.free x hfx] at hR
                      cases hR
                    rw [k4 x hx]; exact hR
                have hsub : ∀ x, (fr x ∧ ¬ Mine fid x) → fr x ∧ x ≠ fid := fun x hx => ⟨hx.1, fun e => hx.2 (by rw [e]; exact ⟨Nat.le_refl _, by omega⟩)⟩
                refine ⟨v, w', ow', bs', .inl (by simp [q1]), (q2.sub hV).shrink hsub, ?_, ⟨fun b hb hlt => ?_, q3.size, q3.os, q3.tape, q3.output⟩, ?_⟩
                · exact .al (fun e => e.2 ⟨Nat.le_refl _, by omega⟩) (fun _ => by rw [q5]; exact ⟨rfl, q7⟩) q6 (fun R hR => Nat.zero_le _)
                · have e1 := k2 b hb hlt
                  have e2 := q3.kept b e1.2 hlt
                  exact ⟨e2.1, e2.2⟩
                · have hq1 : Quiet bs st fr bs' (st.ups (u ++ [(fid, some ⟨false, P.cellsOf e, ys ++ xs, []⟩)])) (fun x => fr x ∧ ¬ Mine fid x) := by
                    refine ⟨fun r hr => ?_, fun r p m hr hp hm hs => ?_, fun r R' hr hR' => ?_, fun r hr => hr.1⟩
                    · rw [q4 _ (by simp [hnf r hr])]; exact k3.base r hr
                    · have hs' : Still stB r p m := by
                        rcases hs with h0 | ⟨R, h1, h2⟩
                        · exact .inl h0
                        · have := hV r R h1
                          rw [St.put_ne _ _ (hnf r hr)] at this
                          exact .inr ⟨R, this, h2⟩
                      have := k3.still r p m hr hp hm hs'
                      exact ⟨this.1, by rw [q4 _ (by simp [hnf r hr])]; exact this.2⟩
                    · have := hV r R' hR'
                      rw [St.put_ne _ _ (hnf r hr)] at this
                      exact k3.log r R' hr this
                  exact hq1
        · cases hv

end Go.VM
