/- Values that go into memory: their lists are taken out of their places, and laid into new ones. -/
import Derived.Test.YtcdgdiheoejjgaaVAddr
namespace Go.VM
set_option linter.unusedSimpArgs false
set_option linter.unusedVariables false

theorem takenSt_eq (st : St) (r : Nat) (R : Root) (p : Path) : takenSt st r R p = st.put r (takenUp R p) := by
  simp only [takenSt, takenUp]
  cases p.getLast? <;> rfl

@[simp] theorem St.ups_nil (st : St) : st.ups [] = st := rfl
@[simp] theorem St.ups_cons (st : St) (r R u) : st.ups ((r, R) :: u) = (st.put r R).ups u := rfl
theorem St.ups_append (st : St) (u v : Ups) : st.ups (u ++ v) = (st.ups u).ups v := by
  induction u generalizing st with
  | nil => rfl
  | cons a u ih => obtain ⟨r, R⟩ := a; simp [ih]

/-- The value 'v' is 'y': a plain one, or a root of its own. -/
def Holds (w : World) (ow : Own) (bs : Base) (st : St) (t : Nat) (y : T) (v : Value) : Prop :=
  (isOwn y = false ∧ y ≠ .dead ∧ RepR w ow y v) ∨ (∃ sz es, y = .list true sz es ∧ st t = some ⟨false, sz, es, []⟩ ∧ (bs (t, [])).2 = v)

theorem Holds.mono {w w' ow ow' bs bs' st st' t y v} (h : Holds w ow bs st t y v) (hk : Kept w ow w' ow') (hs : st' t = st t) (hb : bs' (t, []) = bs (t, [])) : Holds w' ow' bs' st' t y v := by
  rcases h with ⟨h1, h2, h3⟩ | ⟨sz, es, h1, h2, h3⟩
  · exact .inl ⟨h1, h2, h3.mono hk⟩
  · exact .inr ⟨sz, es, h1, hs.trans h2, by rw [hb]; exact h3⟩

/-- A nil list gets a root. -/
theorem Rel.nilroot {w ow bs st fr} (h : Rel w ow bs st fr) {t : Nat} (ht : fr t) (sz : Nat) :
    Rel w ow (fun ℓ => if ℓ.1 = t then (sz, .slice none 0 0) else bs ℓ) (st.put t (some ⟨false, sz, [], []⟩)) (fun x => fr x ∧ x ≠ t) ∧
    Quiet bs st fr (fun ℓ => if ℓ.1 = t then (sz, .slice none 0 0) else bs ℓ) (st.put t (some ⟨false, sz, [], []⟩)) (fun x => fr x ∧ x ≠ t) := by
  refine ⟨⟨fun r R hr => ?_, fun r R hr hb => ?_, fun b ℓ hb => ?_, fun r hr => ?_⟩, Quiet.new ht (fun ℓ h => by simp [h])⟩
  · by_cases e : r = t
    · subst e
      simp only [St.put_eq, Option.some.injEq] at hr
      subst hr
      simp only [if_true]
      exact .nil (by simp)
    · rw [St.put_ne _ _ e] at hr
      simp only [e, if_false]
      exact (h.root r R hr).move (Kept.refl _ _) ⟨fun b q hq => ⟨rfl, hq⟩, fun q => by simp [e]⟩
  · by_cases e : r = t
    · subst e
      simp only [St.put_eq, Option.some.injEq] at hr
      subst hr
      cases hb
    · rw [St.put_ne _ _ e] at hr
      simp only [e, if_false]
      exact h.box r R hr hb
  · have := h.own b ℓ hb
    exact ⟨fun x => this.1 x.1, this.2⟩
  · rw [St.put_ne _ _ hr.2]; exact h.free r hr.1

theorem takeV_sound {w ow0 bs0 st0} {fr0 : Nat → Prop} {owA bsA stA} {frA : Nat → Prop} {stV : St} {x : VV} {v : Value} {y : T} {u : Ups} {t : Nat} (h : Rel w owA bsA stA frA) (ht : frA t)
    (agree : ∀ r, ¬ fr0 r → stA r = stV r) (hq : Quiet bs0 st0 fr0 bsA stA frA) (hk : Kept w ow0 w owA) (hx : takeV stV x = some (y, u)) (rx : RelV w ow0 bs0 st0 fr0 x v) :
    ∃ owB bsB stB, Rel w owB bsB stB (fun x => frA x ∧ x ≠ t) ∧ Kept w owA w owB ∧ Quiet bsA stA frA bsB stB (fun x => frA x ∧ x ≠ t) ∧ (∀ r, ¬ fr0 r → stB r = (stV.ups u) r) ∧
      Holds w owB bsB stB t y v ∧ (∀ r, fr0 r → r ≠ t → stB r = stA r) ∧ (∀ r R', (r, R') ∈ u → ¬ fr0 r) := by
  unfold takeV at hx
  split at hx
  · rename_i x
    have plain : isOwn x = false → x ≠ .dead → RepR w ow0 x v → some (x, ([] : Ups)) = some (y, u) → ∃ owB bsB stB, Rel w owB bsB stB (fun x => frA x ∧ x ≠ t) ∧ Kept w owA w owB ∧ Quiet bsA stA frA bsB stB (fun x => frA x ∧ x ≠ t) ∧
        (∀ r, ¬ fr0 r → stB r = (stV.ups u) r) ∧ Holds w owB bsB stB t y v ∧ (∀ r, fr0 r → r ≠ t → stB r = stA r) ∧ (∀ r R', (r, R') ∈ u → ¬ fr0 r) := by
      intro h1 h2 h3 h4
      simp only [Option.some.injEq, Prod.mk.injEq] at h4
      obtain ⟨rfl, rfl⟩ := h4
      exact ⟨owA, bsA, stA, h.shrink (fun _ h => h.1), Kept.refl _ _, Quiet.shrink (fun _ h => h.1), agree, .inl ⟨h1, h2, h3.mono hk⟩, fun _ _ _ => rfl, fun _ _ hm => by cases hm⟩
    cases rx with
    | c rx =>
    cases rx with
    | dead => cases hx
    | int => exact plain rfl (by simp) .int hx
    | bool => exact plain rfl (by simp) .bool hx
    | str => exact plain rfl (by simp) .str hx
    | nil => exact plain rfl (by simp) .nil hx
    | list spot own blk hlen hcap fits rows cells => exact plain rfl (by simp) (.list spot own blk hlen hcap fits rows cells) hx
  · rename_i sz
    simp only [Option.some.injEq, Prod.mk.injEq] at hx
    obtain ⟨rfl, rfl⟩ := hx
    cases rx
    obtain ⟨h1, h2⟩ := h.nilroot ht sz
    have hf0 : fr0 t := hq.free t ht
    refine ⟨owA, _, _, h1, Kept.refl _ _, h2, fun r hr => ?_, .inr ⟨sz, [], rfl, by simp, by simp⟩, fun r _ hne => by rw [St.put_ne _ _ hne], fun _ _ hm => by cases hm⟩
    have : r ≠ t := fun e => hr (by rw [e]; exact hf0)
    rw [St.put_ne _ _ this]; exact agree r hr
  · rename_i r p m sz off len
    split at hx
    · rename_i R sz' rows hs
      split at hx
      · rename_i hc
        obtain ⟨hbx, hle, rfl⟩ := hc
        simp only [Option.some.injEq, Prod.mk.injEq] at hx
        obtain ⟨rfl, rfl⟩ := hx
        obtain ⟨hr, hf, hn⟩ := seek_some hs
        cases rx with
        | @al _ _ _ _ _ _ _ hnf hsub hv hm =>
        have hrA : stA r = some R := (agree r hnf).trans hr
        obtain ⟨hst0, hbeq⟩ := hq.at hnf hm (.inr ⟨R, hrA, hf⟩)
        obtain ⟨hb, hsb⟩ := hsub hst0
        have hsb' : Sub (bsA (r, p)).1 (bsA (r, p)).2 off len v := by rw [hbeq, hb]; exact hsb
        obtain ⟨h1, h2, h3⟩ := h.take hrA hbx hn ht hsb' hle
        have hf0 : fr0 t := hq.free t ht
        have hrt : r ≠ t := fun e => hnf (by rw [e]; exact hf0)
        refine ⟨_, _, _, h1, h2, h3, fun x hx => ?_, .inr ⟨sz, _, rfl, by simp, ?_⟩, fun x hx hne => ?_, fun x R' hm => ?_⟩
        · have : x ≠ t := fun e => hx (by rw [e]; exact hf0)
          rw [St.put_ne _ _ this, takenSt_eq]
          simp only [St.ups_cons, St.ups_nil]
          by_cases e : x = r
          · subst e; simp
          · rw [St.put_ne _ _ e, St.put_ne _ _ e]; exact agree x hx
        · simp [takenBase]
        · rw [St.put_ne _ _ hne, takenSt_eq]
          have : x ≠ r := fun e => hnf (by rw [← e]; exact hx)
          rw [St.put_ne _ _ this]
        · simp only [List.mem_singleton, Prod.mk.injEq] at hm
          rw [hm.1]; exact hnf
      · cases hx
    · cases hx
  · cases hx

theorem takeVs_sound {w ow0 bs0 st0} {fr0 : Nat → Prop} : ∀ (xs : List VV) (vs : List Value) (ys : List T) (u : Ups) (t0 : Nat) {owA bsA stA} {frA : Nat → Prop} {stV : St}, Rel w owA bsA stA frA → (∀ k, k < xs.length → frA (t0 + k)) →
    (∀ r, ¬ fr0 r → stA r = stV r) → Quiet bs0 st0 fr0 bsA stA frA → Kept w ow0 w owA → takeVs stV xs = some (ys, u) → xs.length = vs.length →
    (∀ (k : Nat) (x : VV) (v : Value), xs[k]? = some x → vs[k]? = some v → RelV w ow0 bs0 st0 fr0 x v) →
    ∃ owB bsB stB, Rel w owB bsB stB (fun x => frA x ∧ ¬ (t0 ≤ x ∧ x < t0 + xs.length)) ∧ Kept w owA w owB ∧ Quiet bsA stA frA bsB stB (fun x => frA x ∧ ¬ (t0 ≤ x ∧ x < t0 + xs.length)) ∧
      (∀ r, ¬ fr0 r → stB r = (stV.ups u) r) ∧ ys.length = xs.length ∧ (∀ (k : Nat) (y : T) (v : Value), ys[k]? = some y → vs[k]? = some v → Holds w owB bsB stB (t0 + k) y v) ∧
      (∀ r, fr0 r → ¬ (t0 ≤ r ∧ r < t0 + xs.length) → stB r = stA r) ∧ (∀ r R', (r, R') ∈ u → ¬ fr0 r)
  | [], vs, ys, u, t0, owA, bsA, stA, frA, stV, h, ht, agree, hq, hk, hx, hl, rx => by
    simp only [takeVs, Option.some.injEq, Prod.mk.injEq] at hx
    obtain ⟨rfl, rfl⟩ := hx
    exact ⟨owA, bsA, stA, h.shrink (fun _ h => h.1), Kept.refl _ _, Quiet.shrink (fun _ h => h.1), agree, rfl, fun k y v hk' => by simp at hk', fun _ _ _ => rfl, fun _ _ hm => by cases hm⟩
  | x :: xs, vs, ys, u, t0, owA, bsA, stA, frA, stV, h, ht, agree, hq, hk, hx, hl, rx => by
    cases vs with
    | nil => simp at hl
    | cons v vs =>
    simp only [takeVs] at hx
    cases h1 : takeV stV x with
    | none => rw [h1] at hx; cases hx
    | some yu =>
      obtain ⟨y, u1⟩ := yu
      rw [h1] at hx
      simp only at hx
      cases h2 : takeVs (stV.ups u1) xs with
      | none => rw [h2] at hx; cases hx
      | some yus =>
        obtain ⟨ys', u2⟩ := yus
        rw [h2] at hx
        simp only [Option.some.injEq, Prod.mk.injEq] at hx
        obtain ⟨rfl, rfl⟩ := hx
        have ht0 := ht 0 (by simp)
        simp only [Nat.add_zero] at ht0
        obtain ⟨owB, bsB, stB, g1, g2, g3, g4, g5, g6, g7⟩ := takeV_sound h ht0 agree hq hk h1 (rx 0 x v (by simp) (by simp))
        have hq' := hq.trans g3
        have hk' : Kept w ow0 w owB := fun b hb hlt => g2 b (hk b hb hlt).2 hlt |>.imp (fun e => e.trans rfl) id
        obtain ⟨owC, bsC, stC, k1, k2, k3, k4, k5, k6, k7, k8⟩ := takeVs_sound xs vs ys' u2 (t0 + 1) g1 (fun k hk => ⟨by have := ht (k + 1) (by simp; omega); rwa [show t0 + 1 + k = t0 + (k + 1) from by omega], by omega⟩) g4 hq'
          hk' h2 (by simpa using hl) (fun k x' v' hx' hv' => rx (k + 1) x' v' (by simpa using hx') (by simpa using hv'))
        have hsub : ∀ r, (frA r ∧ ¬ (t0 ≤ r ∧ r < t0 + (x :: xs).length)) → (frA r ∧ r ≠ t0) ∧ ¬ (t0 + 1 ≤ r ∧ r < t0 + 1 + xs.length) := by
          intro r hr
          simp only [List.length_cons] at hr
          exact ⟨⟨hr.1, by omega⟩, by omega⟩
        have hf0 : fr0 t0 := hq.free t0 ht0
        refine ⟨owC, bsC, stC, k1.shrink hsub, fun b hb hlt => ?_, (g3.trans k3).trans (Quiet.shrink hsub), fun r hr => by rw [k4 r hr, St.ups_append], by simp [k5], fun k y' v' hy hv => ?_, fun r hr hne => ?_, fun r R' hm => ?_⟩
        · have e1 := g2 b hb hlt
          exact k2 b e1.2 hlt
        · cases k with
          | zero =>
            simp only [List.getElem?_cons_zero, Option.some.injEq] at hy hv
            subst hy; subst hv
            refine g5.mono k2 (k7 _ (by simpa using hf0) (by omega)) ?_
            exact k3.base _ (fun e => e.2 rfl)
          | succ k =>
            have := k6 k y' v' (by simpa using hy) (by simpa using hv)
            rwa [show t0 + 1 + k = t0 + (k + 1) from by omega] at this
        · simp only [List.length_cons] at hne
          rw [k7 r hr (by omega), g6 r hr (by omega)]
        · rcases List.mem_append.1 hm with hm | hm
          · exact g7 r R' hm
          · exact k8 r R' hm

end Go.VM
