/- Stores, new variables, new rows. -/
import Derived.Test.YtcdgdiheoejjgaaVLay
namespace Go.VM
set_option linter.unusedSimpArgs false
set_option linter.unusedVariables false

theorem Holds.oneCell {w ow bs st t y v} (h : Holds w ow bs st t y v) (hr : ∀ R, st t = some R → ∃ a l c, (bs (t, [])).2 = .slice a l c) : v.oneCell' = true := by
  rcases h with ⟨h1, h2, h3⟩ | ⟨sz, es, h1, h2, h3⟩
  · cases h3 <;> first | rfl | exact absurd rfl h2
  · obtain ⟨a, l, c, e⟩ := hr _ h2
    rw [← h3, e]; rfl

theorem Rel.isSlice {w ow bs st fr} (h : Rel w ow bs st fr) {t R} (hr : st t = some R) : ∃ a l c, (bs (t, [])).2 = .slice a l c := by
  have := h.root t R hr
  generalize (bs (t, [])).2 = v at this
  generalize R.rows = rs at this
  generalize R.sz = s at this
  cases this with
  | ro h => cases h
  | nil => exact ⟨_, _, _, rfl⟩
  | list => exact ⟨_, _, _, rfl⟩

theorem store_sound {P : Program} (A : Addr) (hA : A.spot = none) : ∀ (ys : List T) (vs : List Value) (k0 t0 : Nat) {w : World} {ow bs st} {fr : Nat → Prop} {r : Nat} {R : Root} {p : Path} {sz : Nat} {rows : List (List T)} {i j0 : Nat} {row : List T} {a : Addr} {len cap : Nat},
    Rel w ow bs st fr → st r = some R → nav R.sz R.rows p = some (sz, rows) → rows[i]? = some row → j0 + k0 + ys.length ≤ row.length → (bs (r, p)).2 = .slice (some a) len cap →
    A.block = a.block → A.off = a.off + i * sz + j0 → ys.length = vs.length → (∀ k, k < ys.length → t0 + k ≠ r) →
    (∀ (k : Nat) (y : T) (v : Value), ys[k]? = some y → vs[k]? = some v → Holds w ow bs st (t0 + k) y v) →
    ∃ w' ow' bs' st', (storeCells A vs k0).run P w = .ok () w' ∧ Rel w' ow' bs' st' fr ∧ Steady w ow w' ow' ∧ Quiet bs st fr bs' st' fr ∧
      st' r = some { R with rows := modAt (setCells i (j0 + k0) ys) R.rows p, log := R.log ++ filled p i (j0 + k0) ys } ∧
      (∀ x, x ≠ r → ¬ (t0 ≤ x ∧ x < t0 + ys.length) → st' x = st x) ∧ (∀ x R', x ≠ r → st' x = some R' → st x = some R')
  | [], vs, k0, t0, w, ow, bs, st, fr, r, R, p, sz, rows, i, j0, row, a, len, cap, h, hr, hn, hi, hj, hb, hAb, hAo, hl, hne, hh => by
    cases vs with
    | cons v vs => simp at hl
    | nil =>
      -- a row in which nothing is stored: memory stands
      have hmod : modAt (setCells i (j0 + k0) []) R.rows p = R.rows := by
        have : ∀ {p : Path} {sz rows sz' rows'}, nav sz rows p = some (sz', rows') → modAt (setCells i (j0 + k0) []) rows p = rows := by
          intro p
          induction p with
          | nil => intro sz rows sz' rows' h; rfl
          | cons ij p ih =>
            obtain ⟨a, b⟩ := ij
            intro sz rows sz' rows' h
            simp only [nav] at h
            split at h
            · rename_i sz1 es1 hx
              obtain ⟨row, hr, hj⟩ := cell_some hx (by simp)
              simp only [modAt]
              rw [hx]
              simp only
              rw [ih h, getD_of hr, set_same hj, set_same hr]
            · cases h
        exact this hn
      refine ⟨w, ow, bs, st, rfl, h, Steady.refl _ _, Quiet.refl _ _ _, ?_, fun _ _ _ => rfl, fun _ _ _ h => h⟩
      rw [hr, hmod]; simp [filled]
  | y :: ys, vs, k0, t0, w, ow, bs, st, fr, r, R, p, sz, rows, i, j0, row, a, len, cap, h, hr, hn, hi, hj, hb, hAb, hAo, hl, hne, hh => by
    cases vs with
    | nil => simp at hl
    | cons v vs =>
    simp only [List.length_cons] at hj
    have hy := hh 0 y v (by simp) (by simp)
    simp only [Nat.add_zero] at hy
    have hne0 := hne 0 (by simp)
    simp only [Nat.add_zero] at hne0
    have hjl : j0 + k0 < row.length := by omega
    obtain ⟨a', len', cap', c, e, z, hbs, spot, own, blk, free, hlen, hcap, fits, hrl, hlt, hx⟩ := h.place hr hn hi (List.getElem?_eq_getElem hjl)
    rw [hbs] at hb
    simp only [Value.slice.injEq, Option.some.injEq] at hb
    obtain ⟨rfl, rfl, rfl⟩ := hb
    have hbs2 : (bs (r, p)).2 = .slice (some a') len' cap' := by rw [hbs]
    have haddr : A.add k0 = ⟨a'.block, a'.off + i * sz + (j0 + k0), none⟩ := by rw [add_eq _ _ hA, hAb, hAo, show a'.off + i * sz + j0 + k0 = a'.off + i * sz + (j0 + k0) from by omega]
    have hone : v.oneCell' = true := hy.oneCell (fun R' h' => h.isSlice h')
    have hstore : (store (A.add k0) v).run P w = .ok () (w.setCell ⟨a'.block, a'.off + i * sz + (j0 + k0), none⟩ v) := by
      rw [run_store P w _ v _ hone, haddr, cell_of blk hlt]
      have hfz : w.frozen? ⟨a'.block, a'.off + i * sz + (j0 + k0), none⟩ = false := by
        have := free _ hlt
        simp only [World.frozen?, blk]
        rw [Bool.eq_false_iff]
        intro hc
        simp only [Bool.and_eq_true, decide_eq_true_eq] at hc
        exact this hc
      simp [hfz]
    obtain ⟨ow1, bs1, st1, g1, g2, g3, g4, g5, g6, g7⟩ : ∃ ow1 bs1 st1, Rel (w.setCell ⟨a'.block, a'.off + i * sz + (j0 + k0), none⟩ v) ow1 bs1 st1 fr ∧ Steady w ow (w.setCell ⟨a'.block, a'.off + i * sz + (j0 + k0), none⟩ v) ow1 ∧ Quiet bs st fr bs1 st1 fr ∧
        st1 r = some { R with rows := modAt (setIn i (j0 + k0) y) R.rows p, log := R.log ++ (if isOwn y then [p ++ [(i, j0 + k0)]] else []) } ∧
        (∀ x, x ≠ r → x ≠ t0 → st1 x = st x) ∧ (∀ x R', x ≠ r → st1 x = some R' → st x = some R') ∧ ((∀ x, x ≠ r → bs1 (x, []) = bs (x, [])) ∧ bs1 (r, p) = bs (r, p)) := by
      rcases hy with ⟨h1, h2, h3⟩ | ⟨sz1, es1, rfl, h2, h3⟩
      · obtain ⟨k1, k2, k3⟩ := h.set hr hn hi (List.getElem?_eq_getElem hjl) h3 hbs2
        refine ⟨ow, bs, _, k1, k2, k3, ?_, fun x hx _ => St.put_ne _ _ hx, fun x R' hx hs => ?_, fun _ _ => rfl, rfl⟩
        · simp [h1]
        · rw [St.put_ne _ _ hx] at hs; exact hs
      · obtain ⟨k1, k2, k3⟩ := h.set hr hn hi (List.getElem?_eq_getElem hjl) (y := .dead) (v := v) .dead hbs2
        have hn1 := nav_modAt (setIn i (j0 + k0) .dead) hn
        have ht : (st.put r (some { R with rows := modAt (setIn i (j0 + k0) .dead) R.rows p })) t0 = some ⟨false, sz1, es1, []⟩ := by rw [St.put_ne _ _ hne0]; exact h2
        have hblk1 := heap_setCell w a'.block (a'.off + i * sz + (j0 + k0)) v blk
        obtain ⟨m1, m2, m3⟩ := k1.install (i := i) (j := j0 + k0) (St.put_eq _ _ _) hn1 ht hne0 hbs2 hblk1 (by
          rw [Array.getD_eq_getD_getElem?, Array.getElem?_setIfInBounds_self_of_lt hlt]; exact h3.symm)
        refine ⟨_, _, _, m1, k2.trans ⟨m2, Nat.le_refl _, rfl, rfl, rfl⟩, k3.trans m3, ?_, fun x hx hx0 => by rw [St.put_ne _ _ hx0, St.put_ne _ _ hx, St.put_ne _ _ hx], fun x R' hx hs => ?_, fun x hx => ?_, ?_⟩
        · rw [St.put_ne _ _ (fun e => hne0 e.symm)]
          simp only [St.put_eq, isOwn, if_true, Option.some.injEq, Root.mk.injEq, true_and, and_true]
          rw [modAt_modAt _ _ hn]
          congr 1
          funext rr
          exact setIn_setIn _ _ _ _ _
        · by_cases e : x = t0
          · subst e; simp at hs
          · rw [St.put_ne _ _ e, St.put_ne _ _ hx, St.put_ne _ _ hx] at hs; exact hs
        · simp only [laidBase]; rw [if_neg (fun e => hx e.1)]
        · simp only [laidBase]; rw [if_neg]
          intro e
          have := e.2.length_le
          simp at this; omega
    have hn1 : nav R.sz (modAt (setIn i (j0 + k0) y) R.rows p) p = some (sz, setIn i (j0 + k0) y rows) := nav_modAt _ hn
    have hrow1 := setIn_row hi (j0 + k0) y
    obtain ⟨w2, ow2, bs2, st2, q1, q2, q3, q4, q5, q6, q7⟩ := store_sound A hA ys vs (k0 + 1) (t0 + 1) (P := P) (r := r) (p := p) (i := i) (j0 := j0) g1 g4 hn1 hrow1 (by simp; omega) (by rw [g7.2]; exact hbs2) hAb hAo (by simpa using hl)
      (fun k hk => by have := hne (k + 1) (by simp; omega); rwa [show t0 + 1 + k = t0 + (k + 1) from by omega])
      (fun k y' v' hy' hv' => by
        have := hh (k + 1) y' v' (by simpa using hy') (by simpa using hv')
        rw [show t0 + (k + 1) = t0 + 1 + k from by omega] at this
        have hk : k < ys.length := lt_of_getl hy'
        have hx : t0 + 1 + k ≠ r := by have := hne (k + 1) (by simp; omega); rwa [show t0 + (k + 1) = t0 + 1 + k from by omega] at this
        exact this.mono g2.kept (g5 _ hx (by omega)) (g7.1 _ hx))
    refine ⟨w2, ow2, bs2, st2, ?_, q2, g2.trans q3, g3.trans q4, ?_, fun x hx hx0 => ?_, fun x R' hx hs => g6 x R' hx (q7 x R' hx hs)⟩
    · simp only [storeCells, Sem.run_bind, hstore, Result.andThen_ok]; exact q1
    · rw [q5]
      simp only [Option.some.injEq, Root.mk.injEq, true_and]
      refine ⟨?_, ?_⟩
      · rw [modAt_modAt _ _ hn, show j0 + (k0 + 1) = j0 + k0 + 1 from by omega]; rfl
      · simp only [filled]
        rw [show j0 + (k0 + 1) = j0 + k0 + 1 from by omega]
        split <;> simp
    · simp only [List.length_cons] at hx0
      rw [q6 x hx (by omega), g5 x hx (by omega)]

end Go.VM
