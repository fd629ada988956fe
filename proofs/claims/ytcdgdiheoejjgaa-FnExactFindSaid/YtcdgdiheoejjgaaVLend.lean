/- What is lent to be read by a call. -/
import Derived.Test.YtcdgdiheoejjgaaVHand
namespace Go.VM
set_option linter.unusedSimpArgs false
set_option linter.unusedVariables false

def lendC (st : St) : VV → Option CT
  | .c x => some (.v x.toRO)
  | .nils sz => some (.v (.list false sz []))
  | .al r p m sz off len =>
    match seek st r p m with
    | some (_, sz', rows) => if off + len ≤ rows.length ∧ sz = sz' then some (.v (.list false sz (((rows.drop off).take len).map (List.map T.toRO)))) else none
    | none => none
  | .ptr r p m i j =>
    match seek st r p m with
    | some (_, _, rows) => if i < rows.length ∧ j ≤ (rows.getD i []).length then some (.ref (((rows.getD i []).drop j).map T.toRO)) else none
    | none => none
  | .rop cs => some (.ref cs)
  | .fn f caps => some (.fn f caps)
  | _ => none

def mergeCs (st : St) : List (Option CT) → List VV → Option (List CT)
  | [], [] => some []
  | some c :: ys, _ :: xs => (mergeCs st ys xs).map (c :: ·)
  | none :: ys, x :: xs => (match lendC st x with | some c => (mergeCs st ys xs).map (c :: ·) | none => none)
  | _, _ => none

theorem RepR.sub {w ow sz rows bv off len v} (h : RepR w ow (.list false sz rows) bv) (hs : Sub sz bv off len v) (hle : off + len ≤ rows.length) : RepR w ow (.list false sz ((rows.drop off).take len)) v := by
  rcases hs with ⟨a, l, cap, o, cap', rfl, rfl, ho, hfit, hc⟩ | ⟨l, cap, rfl, rfl, rfl⟩
  · by_cases h0 : len = 0
    · subst h0; simp only [List.take_zero]; exact .nil
    · cases h with
      | nil => simp at hle; omega
      | @list _ _ _ _ _ c e fr spot own blk hlen hcap fits hrows cells =>
        have ho := ho.resolve_left h0
        refine .list (c := c) (e := e) (fr := fr) rfl own blk (by simp; omega) hc ?_ ?_ ?_
        · show o + len * sz ≤ c.size
          have : (off + len) * sz ≤ l * sz := Nat.mul_le_mul_right _ (by omega)
          rw [Nat.add_mul] at this
          omega
        · intro i row hi
          rw [List.getElem?_take] at hi
          split at hi
          · rw [List.getElem?_drop] at hi; exact hrows _ _ hi
          · cases hi
        · intro i row j x hi hj
          rw [List.getElem?_take] at hi
          split at hi
          · rw [List.getElem?_drop] at hi
            have := cells _ _ _ _ hi hj
            show RepR w ow x (c.getD (o + i * sz + j) undef)
            rwa [show a.off + (off + i) * sz + j = o + i * sz + j from by rw [Nat.add_mul]; omega] at this
          · cases hi
  · simp only [List.take_zero]; exact .nil

theorem lendC_rel {w owB bsB stB frB owC bsC stC frC} {x : VV} {v : Value} {c : CT} {k : Nat} (h : Rel w owB bsB stB frB) (rx : RelV w owB bsB stB frB x v) (hC : ∀ b, owB b = none → owC b = none)
    (hL : ∀ b r q R, owB b = some (r, q) → stB r = some R → (∀ p m i j, x = .ptr r p m i j → owC b = none) ∧ (∀ p m sz off len, x = .al r p m sz off len → owC b = none)) (hc : lendC stB x = some c) : RelV w owC bsC stC frC (c.vv k) v := by
  have hk : Kept w owB w owC := fun b hb _ => ⟨rfl, hC b hb⟩
  cases rx with
  | @c x v h1 =>
    simp only [lendC, Option.some.injEq] at hc
    subst hc
    have h2 := (h1.mono hk).lend
    have : CT.vv k (.v x.toRO) = .c x.toRO := by
      cases x with
      | list o sz es => rw [toRO_list]; rfl
      | _ => simp [CT.vv]
    rw [this]; exact .c h2
  | nils =>
    simp only [lendC, Option.some.injEq] at hc
    subst hc
    exact .c .nil
  | @al r p m sz off len v hf hs hv hm =>
    simp only [lendC] at hc
    split at hc
    · rename_i R sz' rows hseek
      split at hc
      · rename_i hcond
        simp only [Option.some.injEq] at hc
        subst hc
        obtain ⟨hr, hfresh, hn⟩ := seek_some hseek
        obtain ⟨e1, e2⟩ := hs (seek_still hseek)
        have hnav := (h.root r R hr).nav hn
        simp only [List.nil_append] at hnav
        have hlend := hnav.lend hk (fun b q hb => ⟨rfl, (hL b _ _ R hb hr).2 p m sz off len rfl⟩)
        rw [toRO_list] at hlend
        have := RepR.sub hlend (by rw [hcond.2] at e2; exact e2) (by simpa using hcond.1)
        rw [← List.map_drop, ← List.map_take] at this
        rw [hcond.2]
        exact .c this
      · cases hc
    · cases hc
  | @ptr r p m i j v hf hs hv hm =>
    simp only [lendC] at hc
    split at hc
    · rename_i R sz rows hseek
      split at hc
      · rename_i hcond
        simp only [Option.some.injEq] at hc
        subst hc
        obtain ⟨hr, hfresh, hn⟩ := seek_some hseek
        obtain ⟨a0, l0, cap0, e1, rfl⟩ := hs (seek_still hseek)
        have hnav := (h.root r R hr).nav hn
        simp only [List.nil_append] at hnav
        have hbase := hnav.base
        rw [hbase] at e1 ⊢
        simp only at e1
        generalize hbv : (bsB (r, p)).2 = bv at hnav hbase
        rw [hbv] at e1
        subst e1
        cases hnav with
        | ro h => cases h
        | @list _ a _ _ len cap c e z base spot own blk free hlen hcap fits hrows cells =>
          have hrow : rows[i]? = some (rows.getD i []) := by rw [List.getD_eq_getElem?_getD, List.getElem?_eq_getElem hcond.1]; rfl
          have hrl := hrows i _ hrow
          refine .rop (c := c) (e := e) (z := z) rfl ((hL _ _ _ R own hr).1 p m i j rfl) blk ?_ ?_
          · simp only [List.length_map, List.length_drop, hrl]
            have hj : j ≤ sz := by have := hcond.2; omega
            have hi := hcond.1
            have : (i + 1) * sz ≤ cap0 * sz := Nat.mul_le_mul_right _ (by omega)
            rw [Nat.add_mul] at this
            show a0.off + i * sz + j + (sz - j) ≤ c.size
            omega
          · intro k' x hx
            rw [List.getElem?_map] at hx
            obtain ⟨x0, hx0, rfl⟩ := Option.map_eq_some_iff.1 hx
            rw [List.getElem?_drop] at hx0
            have := (cells i _ _ _ hrow hx0).lend hk (fun b q hb => ⟨rfl, (hL b _ _ R (by simpa [Loc.at] using hb) hr).1 p m i j rfl⟩)
            show RepR w owC x0.toRO (c.getD (a0.off + i * sz + j + k') undef)
            rwa [show a0.off + i * sz + (j + k') = a0.off + i * sz + j + k' from by omega] at this
      · cases hc
    · cases hc
  | agg => cases hc
  | tup => cases hc
  | rop spot own blk fits cells =>
    simp only [lendC, Option.some.injEq] at hc
    subst hc
    exact .rop spot (hC _ own) blk fits (fun j x hx => (cells j x hx).mono hk)
  | @fn f caps vs hl hh =>
    simp only [lendC, Option.some.injEq] at hc
    subst hc
    refine .fn hl (fun k cs hk' => ?_)
    have := hh k cs hk'
    generalize vs.getD k undef = z at this
    cases this with
    | rop spot own blk fits cells => exact .rop spot (hC _ own) blk fits (fun j x hx => (cells j x hx).mono hk)
  | undef => cases hc

end Go.VM
