/- What is handed over to a call, or back from it: cells, taken out of the frame's roots. -/
import Derived.Test.YtcdgdiheoejjgaaVWp
namespace Go.VM
set_option linter.unusedSimpArgs false
set_option linter.unusedVariables false

/-- A cell that is handed over: a plain value, a variable of its own, a variable that is only read, a function. -/
inductive CT where
  | v (y : T)
  | box (xs : List T)
  | ref (cs : List T)
  | fn (f : Nat) (caps : List (List T))
  deriving Inhabited

def renOw (ow : Own) (r t : Nat) : Own := fun b => match ow b with | some (r', q) => if r' = r then some (t, q) else some (r', q) | none => none
def renBase (bs : Base) (r t : Nat) : Base := fun ℓ => if ℓ.1 = t then bs (r, ℓ.2) else bs ℓ

/-- A root under another number. -/
theorem Rel.rename {w ow bs st fr} (h : Rel w ow bs st fr) {r t : Nat} {R : Root} (hr : st r = some R) (ht : fr t) :
    Rel w (renOw ow r t) (renBase bs r t) ((st.put r none).put t (some { R with log := [] })) (fun x => fr x ∧ x ≠ t) ∧ Kept w ow w (renOw ow r t) ∧
    Quiet bs st fr (renBase bs r t) ((st.put r none).put t (some { R with log := [] })) (fun x => fr x ∧ x ≠ t) := by
  have hrt : r ≠ t := fun e => by rw [e, h.free t ht] at hr; cases hr
  have hk : Kept w ow w (renOw ow r t) := fun b hb _ => ⟨rfl, by simp [renOw, hb]⟩
  refine ⟨⟨fun x R' hx => ?_, fun x R' hx hb => ?_, fun b ℓ hb => ?_, fun x hx => ?_⟩, hk, ?_⟩
  · by_cases e : x = t
    · subst e
      simp only [St.put_eq, Option.some.injEq] at hx
      subst hx
      have := h.root r R hr
      have e2 : renBase bs r x (x, []) = bs (r, []) := by simp [renBase]
      rw [e2]
      exact this.move hk ⟨fun b p hb => ⟨rfl, by simp [renOw, hb]⟩, fun p => by simp [renBase]⟩
    · rw [St.put_ne _ _ e] at hx
      by_cases e1 : x = r
      · subst e1; simp at hx
      · rw [St.put_ne _ _ e1] at hx
        have e2 : renBase bs r t (x, []) = bs (x, []) := by simp [renBase, e]
        rw [e2]
        exact (h.root x R' hx).move hk ⟨fun b p hb => ⟨rfl, by simp [renOw, hb, e1]⟩, fun p => by simp [renBase, e]⟩
  · by_cases e : x = t
    · subst e
      simp only [St.put_eq, Option.some.injEq] at hx
      subst hx
      simpa [renBase] using h.box r R hr hb
    · rw [St.put_ne _ _ e] at hx
      by_cases e1 : x = r
      · subst e1; simp at hx
      · rw [St.put_ne _ _ e1] at hx
        simpa [renBase, e] using h.box x R' hx hb
  · simp only [renOw] at hb
    split at hb
    · rename_i r' q hq
      have := h.own b _ hq
      split at hb
      · simp only [Option.some.injEq] at hb; subst hb; exact ⟨fun x => x.2 rfl, this.2⟩
      · simp only [Option.some.injEq] at hb; subst hb; exact ⟨fun x => this.1 x.1, this.2⟩
    · cases hb
  · rw [St.put_ne _ _ hx.2]
    by_cases e1 : x = r
    · subst e1; simp
    · rw [St.put_ne _ _ e1]; exact h.free x hx.1
  · refine (Quiet.drop r).trans (Quiet.new ht (fun ℓ hℓ => by simp [renBase, hℓ]))

def takeC (st : St) : VV → Option (CT × Ups)
  | .ptr r [] _ 0 0 => (match st r with | some R => if R.box then (match R.rows with | [row] => some (.box row, [(r, none)]) | _ => none) else none | none => none)
  | .fn f [] => some (.fn f [], [])
  | x => (takeV st x).map fun yu => (.v yu.1, yu.2)

def takeCs (st : St) : List VV → Option (List CT × Ups)
  | [] => some ([], [])
  | x :: xs =>
    match takeC st x with
    | some (y, u) => (match takeCs (st.ups u) xs with | some (ys, us) => some (y :: ys, u ++ us) | none => none)
    | none => none

def HoldsC (w : World) (ow : Own) (bs : Base) (st : St) (t : Nat) (y : CT) (v : Value) : Prop :=
  match y with
  | .v y => Holds w ow bs st t y v
  | .box xs => st t = some ⟨true, xs.length, [xs], []⟩ ∧ ∃ (a : Addr) (l cap : Nat), (bs (t, [])).2 = .slice (some a) l cap ∧ v = .pointer (some ⟨a.block, a.off, none⟩)
  | .fn f caps => caps = [] ∧ v = .func (.func f) #[] #[]
  | .ref _ => False

theorem HoldsC.mono {w w' ow ow' bs bs' st st' t y v} (h : HoldsC w ow bs st t y v) (hk : Kept w ow w' ow') (hs : st' t = st t) (hb : bs' (t, []) = bs (t, [])) : HoldsC w' ow' bs' st' t y v := by
  cases y with
  | v y => exact Holds.mono h hk hs hb
  | box xs => obtain ⟨h1, h2⟩ := h; exact ⟨hs.trans h1, by rw [hb]; exact h2⟩
  | fn f caps => exact h
  | ref cs => exact h

theorem Rel.rowlen {w ow bs st fr} (h : Rel w ow bs st fr) {r R row} (hr : st r = some R) (hrow : R.rows = [row]) : row.length = R.sz := by
  have := h.root r R hr
  rw [hrow] at this
  generalize (bs (r, [])).2 = v at this
  cases this with
  | ro h => cases h
  | list base spot own blk free hlen hcap fits rows cells => exact rows 0 row rfl

theorem takeC_sound {w ow0 bs0 st0} {fr0 : Nat → Prop} {owA bsA stA} {frA : Nat → Prop} {stV : St} {x : VV} {v : Value} {y : CT} {u : Ups} {t : Nat} (h : Rel w owA bsA stA frA) (ht : frA t)
    (agree : ∀ r, ¬ fr0 r → stA r = stV r) (hq : Quiet bs0 st0 fr0 bsA stA frA) (hk : Kept w ow0 w owA) (hx : takeC stV x = some (y, u)) (rx : RelV w ow0 bs0 st0 fr0 x v) :
    ∃ owB bsB stB, Rel w owB bsB stB (fun x => frA x ∧ x ≠ t) ∧ Kept w owA w owB ∧ Quiet bsA stA frA bsB stB (fun x => frA x ∧ x ≠ t) ∧ (∀ r, ¬ fr0 r → stB r = (stV.ups u) r) ∧
      HoldsC w owB bsB stB t y v ∧ (∀ r, fr0 r → r ≠ t → stB r = stA r) ∧ (∀ r R', (r, R') ∈ u → ¬ fr0 r) := by
  unfold takeC at hx
  split at hx
  · rename_i r m
    split at hx
    · rename_i R hR
      split at hx
      · rename_i hbox
        split at hx
        · rename_i row hrow
          simp only [Option.some.injEq, Prod.mk.injEq] at hx
          obtain ⟨rfl, rfl⟩ := hx
          cases rx with
          | ptr hnf hsub hv hm =>
          have hrA : stA r = some R := (agree r hnf).trans hR
          obtain ⟨h1, h2, h3⟩ := h.rename hrA ht
          have hf0 : fr0 t := hq.free t ht
          have hrt : r ≠ t := fun e => hnf (by rw [e]; exact hf0)
          have hsz := h.rowlen hrA hrow
          refine ⟨_, _, _, h1, h2, h3, fun x hx => ?_, ⟨?_, ?_⟩, fun x hx hne => ?_, fun x R' hm => ?_⟩
          · have : x ≠ t := fun e => hx (by rw [e]; exact hf0)
            rw [St.put_ne _ _ this]
            simp only [St.ups_cons, St.ups_nil]
            by_cases e : x = r
            · subst e; simp
            · rw [St.put_ne _ _ e, St.put_ne _ _ e]; exact agree x hx
          · rw [St.put_eq]
            cases R
            simp_all
          · obtain ⟨a, l, cap, e1, e2⟩ := hsub (.inl rfl)
            refine ⟨a, l, cap, ?_, ?_⟩
            · have := hq.base r hnf
              simp only [renBase, if_true]
              rw [this]; exact e1
            · rw [e2]; simp
          · rw [St.put_ne _ _ hne]
            have : x ≠ r := fun e => hnf (by rw [← e]; exact hx)
            rw [St.put_ne _ _ this]
          · simp only [List.mem_singleton, Prod.mk.injEq] at hm
            rw [hm.1]; exact hnf
        · cases hx
      · cases hx
    · cases hx
  · rename_i f
    simp only [Option.some.injEq, Prod.mk.injEq] at hx
    obtain ⟨rfl, rfl⟩ := hx
    cases rx with
    | @fn _ _ vs hl hh =>
      have : vs = #[] := by
        have : vs.size = 0 := by simpa using hl.symm
        exact Array.eq_empty_of_size_eq_zero this
      subst this
      exact ⟨owA, bsA, stA, h.shrink (fun _ h => h.1), Kept.refl _ _, Quiet.shrink (fun _ h => h.1), agree, ⟨rfl, rfl⟩, fun _ _ _ => rfl, fun _ _ hm => by cases hm⟩
  · rw [Option.map_eq_some_iff] at hx
    obtain ⟨⟨y', u'⟩, h1, h2⟩ := hx
    simp only [Prod.mk.injEq] at h2
    obtain ⟨rfl, rfl⟩ := h2
    exact takeV_sound h ht agree hq hk h1 rx

theorem takeCs_sound {w ow0 bs0 st0} {fr0 : Nat → Prop} : ∀ (xs : List VV) (vs : List Value) (ys : List CT) (u : Ups) (t0 : Nat) {owA bsA stA} {frA : Nat → Prop} {stV : St}, Rel w owA bsA stA frA → (∀ k, k < xs.length → frA (t0 + k)) →
    (∀ r, ¬ fr0 r → stA r = stV r) → Quiet bs0 st0 fr0 bsA stA frA → Kept w ow0 w owA → takeCs stV xs = some (ys, u) → xs.length = vs.length →
    (∀ (k : Nat) (x : VV) (v : Value), xs[k]? = some x → vs[k]? = some v → RelV w ow0 bs0 st0 fr0 x v) →
    ∃ owB bsB stB, Rel w owB bsB stB (fun x => frA x ∧ ¬ (t0 ≤ x ∧ x < t0 + xs.length)) ∧ Kept w owA w owB ∧ Quiet bsA stA frA bsB stB (fun x => frA x ∧ ¬ (t0 ≤ x ∧ x < t0 + xs.length)) ∧
      (∀ r, ¬ fr0 r → stB r = (stV.ups u) r) ∧ ys.length = xs.length ∧ (∀ (k : Nat) (y : CT) (v : Value), ys[k]? = some y → vs[k]? = some v → HoldsC w owB bsB stB (t0 + k) y v) ∧
      (∀ r, fr0 r → ¬ (t0 ≤ r ∧ r < t0 + xs.length) → stB r = stA r) ∧ (∀ r R', (r, R') ∈ u → ¬ fr0 r)
  | [], vs, ys, u, t0, owA, bsA, stA, frA, stV, h, ht, agree, hq, hk, hx, hl, rx => by
    simp only [takeCs, Option.some.injEq, Prod.mk.injEq] at hx
    obtain ⟨rfl, rfl⟩ := hx
    exact ⟨owA, bsA, stA, h.shrink (fun _ h => h.1), Kept.refl _ _, Quiet.shrink (fun _ h => h.1), agree, rfl, fun k y v hk' => by simp at hk', fun _ _ _ => rfl, fun _ _ hm => by cases hm⟩
  | x :: xs, vs, ys, u, t0, owA, bsA, stA, frA, stV, h, ht, agree, hq, hk, hx, hl, rx => by
    cases vs with
    | nil => simp at hl
    | cons v vs =>
    simp only [takeCs] at hx
    cases h1 : takeC stV x with
    | none => rw [h1] at hx; cases hx
    | some yu =>
      obtain ⟨y, u1⟩ := yu
      rw [h1] at hx
      simp only at hx
      cases h2 : takeCs (stV.ups u1) xs with
      | none => rw [h2] at hx; cases hx
      | some yus =>
        obtain ⟨ys', u2⟩ := yus
        rw [h2] at hx
        simp only [Option.some.injEq, Prod.mk.injEq] at hx
        obtain ⟨rfl, rfl⟩ := hx
        have ht0 := ht 0 (by simp)
        simp only [Nat.add_zero] at ht0
        obtain ⟨owB, bsB, stB, g1, g2, g3, g4, g5, g6, g7⟩ := takeC_sound h ht0 agree hq hk h1 (rx 0 x v (by simp) (by simp))
        have hq' := hq.trans g3
        have hk' : Kept w ow0 w owB := fun b hb hlt => g2 b (hk b hb hlt).2 hlt |>.imp (fun e => e.trans rfl) id
        obtain ⟨owC, bsC, stC, k1, k2, k3, k4, k5, k6, k7, k8⟩ := takeCs_sound xs vs ys' u2 (t0 + 1) g1 (fun k hk => ⟨by have := ht (k + 1) (by simp; omega); rwa [show t0 + 1 + k = t0 + (k + 1) from by omega], by omega⟩) g4 hq'
          hk' h2 (by simpa using hl) (fun k x' v' hx' hv' => rx (k + 1) x' v' (by simpa using hx') (by simpa using hv'))
        have hsub : ∀ r, (frA r ∧ ¬ (t0 ≤ r ∧ r < t0 + (x :: xs).length)) → (frA r ∧ r ≠ t0) ∧ ¬ (t0 + 1 ≤ r ∧ r < t0 + 1 + xs.length) := by
          intro r hr
          simp only [List.length_cons] at hr
          exact ⟨⟨hr.1, by omega⟩, by omega⟩
        have hf0 : fr0 t0 := hq.free t0 ht0
        refine ⟨owC, bsC, stC, k1.shrink hsub, fun b hb hlt => ?_, (g3.trans k3).trans (Quiet.shrink hsub), fun r hr => by rw [k4 r hr, St.ups_append], by simp [k5], fun k y' v' hy hv => ?_, fun r hr hne => ?_, fun r R' hm => ?_⟩
        · have e1 := g2 b hb hlt
          exact k2 b e1.2 hlt
        · cases k with
          | zero =>
            simp only [List.getElem?_cons_zero, Option.some.injEq] at hy hv
            subst hy; subst hv
            refine g5.mono k2 (k7 _ (by simpa using hf0) (by omega)) ?_
            exact k3.base _ (fun e => e.2 rfl)
          | succ k =>
            have := k6 k y' v' (by simpa using hy) (by simpa using hv)
            rwa [show t0 + 1 + k = t0 + (k + 1) from by omega] at this
        · simp only [List.length_cons] at hne
          rw [k7 r hr (by omega), g6 r hr (by omega)]
        · rcases List.mem_append.1 hm with hm | hm
          · exact g7 r R' hm
          · exact k8 r R' hm

end Go.VM
