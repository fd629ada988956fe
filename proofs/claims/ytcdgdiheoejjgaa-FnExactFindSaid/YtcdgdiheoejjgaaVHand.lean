/- Handing over to a call: what is moved, what is lent. -/
import Derived.Test.YtcdgdiheoejjgaaVRet
namespace Go.VM
set_option linter.unusedSimpArgs false
set_option linter.unusedVariables false

/-- Only read; moved for good; moved, and given back. -/
inductive Md where
  | ro
  | own
  | back
  deriving Inhabited

def handBack (st : St) : VV → Option (Option CT × Ups × Option Nat)
  | .al r [] _ sz 0 len => (match st r with | some R => if R.box = false ∧ R.sz = sz ∧ R.rows.length = len then some (some (.v (.list true sz R.rows)), [(r, none)], some r) else none | none => none)
  | .ptr r [] _ 0 0 => (match st r with | some R => if R.box then (match R.rows with | [row] => some (some (.box row), [(r, none)], some r) | _ => none) else none | none => none)
  | _ => none

def handC (st : St) : Md → VV → Option (Option CT × Ups × Option Nat)
  | .ro, _ => some (none, [], none)
  | .own, x => (takeC st x).map fun p => (some p.1, p.2, none)
  | .back, x => handBack st x

def handCs (st : St) : List (Md × VV) → Option (List (Option CT) × Ups × List (Option Nat))
  | [] => some ([], [], [])
  | x :: xs =>
    match handC st x.1 x.2 with
    | some (y, u, b) => (match handCs (st.ups u) xs with | some (ys, us, bs) => some (y :: ys, u ++ us, b :: bs) | none => none)
    | none => none

def CT.rooted (st : St) (t : Nat) : CT → Prop
  | .v (.list true sz es) => st t = some ⟨false, sz, es, []⟩
  | .box xs => st t = some ⟨true, xs.length, [xs], []⟩
  | _ => True

def HoldsA (w : World) (ow : Own) (bs : Base) (st : St) (fr : Nat → Prop) (t : Nat) (y : Option CT) (v : Value) : Prop :=
  ∀ c, y = some c → RelV w ow bs st fr (c.vv t) v ∧ c.rooted st t

theorem HoldsA.mono {w w' ow ow' bs bs' st st' fr fr' t y v} (h : HoldsA w ow bs st fr t y v) (hk : Kept w ow w' ow') (hq : Quiet bs st fr bs' st' fr') (hs : st' t = st t) : HoldsA w' ow' bs' st' fr' t y v := by
  intro c hc
  obtain ⟨h1, h2⟩ := h c hc
  refine ⟨h1.mono hk hq, ?_⟩
  cases c with
  | v y => cases y with
    | list o sz es => cases o <;> first | exact trivial | exact hs.trans h2
    | _ => trivial
  | box xs => exact hs.trans h2
  | _ => trivial

theorem rooted_of_holds {w ow bs st t c v} (h : HoldsC w ow bs st t c v) : c.rooted st t := by
  cases c with
  | v y =>
    rcases h with ⟨h1, h2, h3⟩ | ⟨sz, es, rfl, h2, _⟩
    · cases y with
      | list o sz es => cases o <;> first | trivial | simp [isOwn] at h1
      | _ => trivial
    · exact h2
  | box xs => exact h.1
  | _ => trivial

theorem rop_fr {w ow bs st fr st' fr'} {cs : List T} {v : Value} (h : RelV w ow bs st fr (.rop cs) v) : RelV w ow bs st' fr' (.rop cs) v := by
  cases h with | rop a b c d e => exact .rop a b c d e

theorem RelV.fr {w ow bs st fr st' fr'} {c : CT} {t : Nat} {v : Value} (h : RelV w ow bs st fr (c.vv t) v) (hf : ¬ fr' t) : RelV w ow bs st' fr' (c.vv t) v := by
  cases c with
  | v y =>
    cases y with
    | list o sz es =>
      cases o with
      | true =>
        cases h with
        | al h1 h2 h3 h4 => exact .al hf (fun _ => h2 (.inl rfl)) h3 (fun _ _ => Nat.zero_le _)
      | false => cases h with | c h => exact .c h
    | _ => cases h with | c h => exact .c h
  | box xs => cases h with | ptr h1 h2 h3 h4 => exact .ptr hf (fun _ => h2 (.inl rfl)) h3 (fun _ _ => Nat.zero_le _)
  | ref cs => cases h with | rop a b c d e => exact .rop a b c d e
  | fn f caps =>
    cases h with
    | fn hl hh => exact .fn hl (fun k cs hk => rop_fr (hh k cs hk))

theorem handC_sound {w ow0 bs0 st0'} {fr0 : Nat → Prop} {owA bsA stA} {frA : Nat → Prop} {stV : St} {md : Md} {x : VV} {v : Value} {y : Option CT} {u : Ups} {b : Option Nat} {t : Nat} (h : Rel w owA bsA stA frA) (ht : frA t)
    (agree : ∀ r, ¬ fr0 r → stA r = stV r) (hq : Quiet bs0 st0' fr0 bsA stA frA) (hk : Kept w ow0 w owA) (hx : handC stV md x = some (y, u, b)) (rx : RelV w ow0 bs0 st0' fr0 x v) :
    ∃ owB bsB stB, Rel w owB bsB stB (fun x => frA x ∧ x ≠ t) ∧ Kept w owA w owB ∧ Quiet bsA stA frA bsB stB (fun x => frA x ∧ x ≠ t) ∧ (∀ r, ¬ fr0 r → stB r = (stV.ups u) r) ∧
      HoldsA w owB bsB stB (fun x => frA x ∧ x ≠ t) t y v ∧ (∀ r, fr0 r → r ≠ t → stB r = stA r) ∧ (∀ r R', (r, R') ∈ u → ¬ fr0 r) ∧ (∀ r0, b = some r0 → ¬ fr0 r0 ∧ bsB (t, []) = bs0 (r0, []) ∧ (∃ R, stV r0 = some R) ∧ y ≠ none) := by
  cases md with
  | ro =>
    simp only [handC, Option.some.injEq, Prod.mk.injEq] at hx
    obtain ⟨rfl, rfl, rfl⟩ := hx
    refine ⟨owA, bsA, stA, h.shrink (fun _ h => h.1), Kept.refl _ _, Quiet.shrink (fun _ h => h.1), agree, ?_, fun _ _ _ => rfl, ?_, ?_⟩
    · intro c hc; cases hc
    · intro r R' hm; cases hm
    · intro r hb; cases hb
  | own =>
    simp only [handC, Option.map_eq_some_iff] at hx
    obtain ⟨⟨c, u'⟩, h1, h2⟩ := hx
    simp only [Prod.mk.injEq] at h2
    obtain ⟨rfl, rfl, rfl⟩ := h2
    obtain ⟨owB, bsB, stB, g1, g2, g3, g4, g5, g6, g7⟩ := takeC_sound h ht agree hq hk h1 rx
    refine ⟨owB, bsB, stB, g1, g2, g3, g4, fun c' hc => ?_, g6, g7, fun _ hb => by cases hb⟩
    simp only [Option.some.injEq] at hc
    subst hc
    exact ⟨(holdsC_rel (stF := stB) g1 g5).fr (fun e => e.2 rfl), rooted_of_holds g5⟩
  | back =>
    have key : ∀ (r : Nat) (R : Root), ¬ fr0 r → stV r = some R → ∀ (c : CT), u = [(r, none)] → y = some c → b = some r → (c.rooted (((stA.put r none).put t (some { R with log := [] }))) t) →
        RelV w (renOw owA r t) (renBase bsA r t) ((stA.put r none).put t (some { R with log := [] })) (fun x => frA x ∧ x ≠ t) (c.vv t) v →
        ∃ owB bsB stB, Rel w owB bsB stB (fun x => frA x ∧ x ≠ t) ∧ Kept w owA w owB ∧ Quiet bsA stA frA bsB stB (fun x => frA x ∧ x ≠ t) ∧ (∀ r, ¬ fr0 r → stB r = (stV.ups u) r) ∧
          HoldsA w owB bsB stB (fun x => frA x ∧ x ≠ t) t y v ∧ (∀ r, fr0 r → r ≠ t → stB r = stA r) ∧ (∀ r R', (r, R') ∈ u → ¬ fr0 r) ∧ (∀ r0, b = some r0 → ¬ fr0 r0 ∧ bsB (t, []) = bs0 (r0, []) ∧ (∃ R, stV r0 = some R) ∧ y ≠ none) := by
      intro r R hnf hR c hu hy hb hroot hrel
      subst hu hy hb
      have hrA : stA r = some R := (agree r hnf).trans hR
      obtain ⟨h1, h2, h3⟩ := h.rename hrA ht
      have hf0 : fr0 t := hq.free t ht
      have hrt : r ≠ t := fun e => hnf (by rw [e]; exact hf0)
      refine ⟨_, _, _, h1, h2, h3, fun x hx => ?_, fun c' hc => ?_, fun x hx hne => ?_, fun x R' hm => ?_, fun r0 hr0 => ?_⟩
      · have : x ≠ t := fun e => hx (by rw [e]; exact hf0)
        rw [St.put_ne _ _ this]
        simp only [St.ups_cons, St.ups_nil]
        by_cases e : x = r
        · subst e; simp
        · rw [St.put_ne _ _ e, St.put_ne _ _ e]; exact agree x hx
      · simp only [Option.some.injEq] at hc
        subst hc
        exact ⟨hrel, hroot⟩
      · rw [St.put_ne _ _ hne]
        have : x ≠ r := fun e => hnf (by rw [← e]; exact hx)
        rw [St.put_ne _ _ this]
      · simp only [List.mem_singleton, Prod.mk.injEq] at hm
        rw [hm.1]; exact hnf
      · simp only [Option.some.injEq] at hr0
        subst hr0
        refine ⟨hnf, ?_, ⟨R, hR⟩, by simp⟩
        simp only [renBase, if_true]
        exact hq.base r hnf
    have base : ∀ r, ¬ fr0 r → renBase bsA r t (t, []) = bs0 (r, []) := fun r hnf => by simp only [renBase, if_true]; exact hq.base r hnf
    simp only [handC] at hx
    unfold handBack at hx
    split at hx
    · rename_i r m sz len
      split at hx
      · rename_i R hR
        split at hx
        · rename_i hc
          obtain ⟨c1, c2, c3⟩ := hc
          simp only [Option.some.injEq, Prod.mk.injEq] at hx
          obtain ⟨rfl, rfl, rfl⟩ := hx
          cases rx with
          | al hnf hsub hv hm =>
          refine key r R hnf hR _ rfl rfl rfl ?_ ?_
          · simp only [CT.rooted, St.put_eq]
            cases R
            simp_all
          · obtain ⟨e1, e2⟩ := hsub (.inl rfl)
            subst c3
            refine .al (fun e => e.2 rfl) (fun _ => ?_) hv (fun _ _ => Nat.zero_le _)
            rw [base r hnf]
            exact ⟨e1, e2⟩
        · cases hx
      · cases hx
    · rename_i r m
      split at hx
      · rename_i R hR
        split at hx
        · rename_i hbox
          split at hx
          · rename_i row hrow
            simp only [Option.some.injEq, Prod.mk.injEq] at hx
            obtain ⟨rfl, rfl, rfl⟩ := hx
            cases rx with
            | ptr hnf hsub hv hm =>
            have hsz := h.rowlen ((agree r hnf).trans hR) hrow
            refine key r R hnf hR _ rfl rfl rfl ?_ ?_
            · simp only [CT.rooted, St.put_eq]
              cases R
              simp_all
            · obtain ⟨a, l, cap, e1, e2⟩ := hsub (.inl rfl)
              refine .ptr (fun e => e.2 rfl) (fun _ => ⟨a, l, cap, ?_, ?_⟩) hv (fun _ _ => Nat.zero_le _)
              · rw [base r hnf]; exact e1
              · rw [e2]; simp
          · cases hx
        · cases hx
      · cases hx
    · cases hx

theorem handCs_sound {w ow0 bs0 st0'} {fr0 : Nat → Prop} : ∀ (xs : List (Md × VV)) (vs : List Value) (ys : List (Option CT)) (u : Ups) (bk : List (Option Nat)) (t0 : Nat) {owA bsA stA} {frA : Nat → Prop} {stV : St}, Rel w owA bsA stA frA → (∀ k, k < xs.length → frA (t0 + k)) →
    (∀ r, ¬ fr0 r → stA r = stV r) → Quiet bs0 st0' fr0 bsA stA frA → Kept w ow0 w owA → handCs stV xs = some (ys, u, bk) → xs.length = vs.length →
    (∀ (k : Nat) (x : Md × VV) (v : Value), xs[k]? = some x → vs[k]? = some v → RelV w ow0 bs0 st0' fr0 x.2 v) →
    ∃ owB bsB stB, Rel w owB bsB stB (fun x => frA x ∧ ¬ (t0 ≤ x ∧ x < t0 + xs.length)) ∧ Kept w owA w owB ∧ Quiet bsA stA frA bsB stB (fun x => frA x ∧ ¬ (t0 ≤ x ∧ x < t0 + xs.length)) ∧
      (∀ r, ¬ fr0 r → stB r = (stV.ups u) r) ∧ ys.length = xs.length ∧ (∀ (k : Nat) (y : Option CT) (v : Value), ys[k]? = some y → vs[k]? = some v → HoldsA w owB bsB stB (fun x => frA x ∧ ¬ (t0 ≤ x ∧ x < t0 + xs.length)) (t0 + k) y v) ∧
      (∀ r, fr0 r → ¬ (t0 ≤ r ∧ r < t0 + xs.length) → stB r = stA r) ∧ (∀ r R', (r, R') ∈ u → ¬ fr0 r) ∧
      (∀ (k : Nat) (r0 : Nat), bk[k]? = some (some r0) → ¬ fr0 r0 ∧ bsB (t0 + k, []) = bs0 (r0, []) ∧ ∃ c, ys[k]? = some (some c)) ∧ bk.length = xs.length
  | [], vs, ys, u, bk, t0, owA, bsA, stA, frA, stV, h, ht, agree, hq, hk, hx, hl, rx => by
    simp only [handCs, Option.some.injEq, Prod.mk.injEq] at hx
    obtain ⟨rfl, rfl, rfl⟩ := hx
    refine ⟨owA, bsA, stA, h.shrink (fun _ h => h.1), Kept.refl _ _, Quiet.shrink (fun _ h => h.1), agree, rfl, ?_, fun _ _ _ => rfl, ?_, ?_, rfl⟩
    · intro k y v hk'; simp at hk'
    · intro r R' hm; cases hm
    · intro k r0 hb; simp at hb
  | x :: xs, vs, ys, u, bk, t0, owA, bsA, stA, frA, stV, h, ht, agree, hq, hk, hx, hl, rx => by
    cases vs with
    | nil => simp at hl
    | cons v vs =>
    simp only [handCs] at hx
    cases h1 : handC stV x.1 x.2 with
    | none => rw [h1] at hx; cases hx
    | some yu =>
      obtain ⟨y, u1, b1⟩ := yu
      rw [h1] at hx
      simp only at hx
      cases h2 : handCs (stV.ups u1) xs with
      | none => rw [h2] at hx; cases hx
      | some yus =>
        obtain ⟨ys', u2, b2⟩ := yus
        rw [h2] at hx
        simp only [Option.some.injEq, Prod.mk.injEq] at hx
        obtain ⟨rfl, rfl, rfl⟩ := hx
        have ht0 := ht 0 (by simp)
        simp only [Nat.add_zero] at ht0
        obtain ⟨owB, bsB, stB, g1, g2, g3, g4, g5, g6, g7, g8⟩ := handC_sound h ht0 agree hq hk h1 (rx 0 x v (by simp) (by simp))
        have hq' := hq.trans g3
        have hk' : Kept w ow0 w owB := fun b hb hlt => g2 b (hk b hb hlt).2 hlt |>.imp (fun e => e.trans rfl) id
        obtain ⟨owC, bsC, stC, k1, k2, k3, k4, k5, k6, k7, k8, k9, k10⟩ := handCs_sound xs vs ys' u2 b2 (t0 + 1) g1 (fun k hk => ⟨by have := ht (k + 1) (by simp; omega); rwa [show t0 + 1 + k = t0 + (k + 1) from by omega], by omega⟩) g4 hq'
          hk' h2 (by simpa using hl) (fun k x' v' hx' hv' => rx (k + 1) x' v' (by simpa using hx') (by simpa using hv'))
        have hsub : ∀ r, (frA r ∧ ¬ (t0 ≤ r ∧ r < t0 + (x :: xs).length)) → (frA r ∧ r ≠ t0) ∧ ¬ (t0 + 1 ≤ r ∧ r < t0 + 1 + xs.length) := by
          intro r hr
          simp only [List.length_cons] at hr
          exact ⟨⟨hr.1, by omega⟩, by omega⟩
        have hf0 : fr0 t0 := hq.free t0 ht0
        refine ⟨owC, bsC, stC, k1.shrink hsub, fun b hb hlt => ?_, (g3.trans k3).trans (Quiet.shrink hsub), fun r hr => by rw [k4 r hr, St.ups_append], by simp [k5], fun k y' v' hy hv => ?_, fun r hr hne => ?_, fun r R' hm => ?_, fun k r0 hb => ?_, by simp [k10]⟩
        · have e1 := g2 b hb hlt
          exact k2 b e1.2 hlt
        · cases k with
          | zero =>
            simp only [List.getElem?_cons_zero, Option.some.injEq] at hy hv
            subst hy; subst hv
            exact g5.mono k2 (k3.trans (Quiet.shrink hsub)) (k7 _ (by simpa using hf0) (by omega))
          | succ k =>
            have := k6 k y' v' (by simpa using hy) (by simpa using hv)
            rw [show t0 + 1 + k = t0 + (k + 1) from by omega] at this
            exact this.mono (Kept.refl _ _) (Quiet.shrink hsub) rfl
        · simp only [List.length_cons] at hne
          rw [k7 r hr (by omega), g6 r hr (by omega)]
        · rcases List.mem_append.1 hm with hm | hm
          · exact g7 r R' hm
          · exact k8 r R' hm
        · cases k with
          | zero =>
            simp only [List.getElem?_cons_zero, Option.some.injEq] at hb
            obtain ⟨e1, e2, e3, e4⟩ := g8 r0 hb
            refine ⟨e1, ?_, ?_⟩
            · rw [Nat.add_zero, k3.base t0 (fun e => e.2 rfl)]; exact e2
            · cases y with
              | none => exact absurd rfl e4
              | some c => exact ⟨c, rfl⟩
          | succ k =>
            obtain ⟨e1, e2, e3⟩ := k9 k r0 (by simpa using hb)
            exact ⟨e1, by rwa [show t0 + 1 + k = t0 + (k + 1) from by omega] at e2, by simpa using e3⟩

end Go.VM
