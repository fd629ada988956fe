/- A row of cells that memory holds is told of; cells that are stored are told of. -/
import Derived.Test.YtcdgdiheoejjgaaVTake
namespace Go.VM
set_option linter.unusedSimpArgs false
set_option linter.unusedVariables false

theorem getD_set_self {α : Type} {l : List α} {i : Nat} {x d : α} (h : i < l.length) : (l.set i x).getD i d = x := by
  simp [List.getD_eq_getElem?_getD, List.getElem?_set, h]

theorem set_same {α : Type} {l : List α} {i : Nat} {x : α} (h : l[i]? = some x) : l.set i x = l := by
  apply List.ext_getElem?
  intro k
  rw [List.getElem?_set]
  split
  · subst k; rw [if_pos (lt_of_getl h)]; exact h.symm
  · rfl

theorem nav_modAt (f : List (List T) → List (List T)) : ∀ {p : Path} {sz rows sz' rows'}, nav sz rows p = some (sz', rows') → nav sz (modAt f rows p) p = some (sz', f rows')
  | [], sz, rows, sz', rows', h => by
    simp only [nav, Option.some.injEq, Prod.mk.injEq] at h
    obtain ⟨rfl, rfl⟩ := h
    rfl
  | (i, j) :: p, sz, rows, sz', rows', h => by
    simp only [nav] at h
    split at h
    · rename_i sz1 es1 hx
      obtain ⟨row, hr, hj⟩ := cell_some hx (by simp)
      have hm : modAt f rows ((i, j) :: p) = rows.set i ((rows.getD i []).set j (.list true sz1 (modAt f es1 p))) := by
        simp only [modAt]; rw [hx]
      rw [hm, getD_of hr]
      simp only [nav]
      rw [getD_set_self (lt_of_getl hr), getD_set_self (lt_of_getl hj)]
      simp only
      exact nav_modAt f h
    · cases h

theorem modAt_modAt (f g : List (List T) → List (List T)) : ∀ {p : Path} {sz rows sz' rows'}, nav sz rows p = some (sz', rows') → modAt g (modAt f rows p) p = modAt (fun r => g (f r)) rows p
  | [], sz, rows, sz', rows', h => rfl
  | (i, j) :: p, sz, rows, sz', rows', h => by
    simp only [nav] at h
    split at h
    · rename_i sz1 es1 hx
      obtain ⟨row, hr, hj⟩ := cell_some hx (by simp)
      have hm : ∀ f, modAt f rows ((i, j) :: p) = rows.set i ((rows.getD i []).set j (.list true sz1 (modAt f es1 p))) := by
        intro f; simp only [modAt]; rw [hx]
      rw [hm, hm, getD_of hr]
      simp only [modAt]
      rw [getD_set_self (lt_of_getl hr), getD_set_self (lt_of_getl hj)]
      simp only
      rw [modAt_modAt f g h]
      simp [List.set_set]
    · cases h

theorem modAt_congr {f g : List (List T) → List (List T)} : ∀ {p : Path} {sz rows sz' rows'}, nav sz rows p = some (sz', rows') → f rows' = g rows' → modAt f rows p = modAt g rows p
  | [], sz, rows, sz', rows', h, e => by
    simp only [nav, Option.some.injEq, Prod.mk.injEq] at h
    obtain ⟨rfl, rfl⟩ := h
    exact e
  | (i, j) :: p, sz, rows, sz', rows', h, e => by
    simp only [nav] at h
    split at h
    · rename_i sz1 es1 hx
      simp only [modAt]
      rw [hx]
      simp only
      rw [modAt_congr h e]
    · cases h

theorem setIn_row {rows : List (List T)} {i : Nat} {row : List T} (hr : rows[i]? = some row) (j : Nat) (y : T) : (setIn i j y rows)[i]? = some (row.set j y) := by
  simp only [setIn, getD_of hr, List.getElem?_set, if_true, lt_of_getl hr]

theorem setIn_setIn (i j : Nat) (y z : T) (rows : List (List T)) : setIn i j y (setIn i j z rows) = setIn i j y rows := by
  by_cases h : i < rows.length
  · simp only [setIn]; rw [getD_set_self h, List.set_set, List.set_set]
  · simp [setIn, List.set_eq_of_length_le (Nat.le_of_not_lt h)]

theorem setCells_nil (i j : Nat) (rows : List (List T)) : setCells i j [] rows = rows := rfl
theorem setCells_cons (i j : Nat) (y : T) (ys : List T) (rows : List (List T)) : setCells i j (y :: ys) rows = setCells i (j + 1) ys (setIn i j y rows) := rfl

theorem Still.of_eq {st st' : St} {r p m} (h : st' r = st r) (hs : Still st r p m) : Still st' r p m := by
  rcases hs with h0 | ⟨R, h1, h2⟩
  · exact .inl h0
  · exact .inr ⟨R, h.trans h1, h2⟩

/-- Agreement of what the frame is told with what memory stands for: some roots may be told of no more. -/
theorem Rel.sub {w ow bs st st' fr} (h : Rel w ow bs st fr) (hs : ∀ r R, st' r = some R → st r = some R) : Rel w ow bs st' fr :=
  ⟨fun r R hr => h.root r R (hs r R hr), fun r R hr => h.box r R (hs r R hr), h.own, fun r hr => by
    cases hx : st' r with
    | none => rfl
    | some R => have := hs r R hx; rw [h.free r hr] at this; cases this⟩

theorem Quiet.sub {bs : Base} {st st' : St} {fr : Nat → Prop} (hs : ∀ r R, st' r = some R → st r = some R) : Quiet bs st fr bs st' fr := by
  refine ⟨fun _ _ => rfl, fun r p m _ _ _ h => ⟨?_, rfl⟩, fun r R' _ h => ⟨R', hs r R' h, Nat.le_refl _⟩, fun _ h => h⟩
  rcases h with h | ⟨R, h1, h2⟩
  · exact .inl h
  · exact .inr ⟨R, hs r R h1, h2⟩

/-- Cells that memory holds are told of. -/
theorem fill_sound {w : World} : ∀ (ys : List T) (j t0 : Nat) {ow bs st fr} {r : Nat} {R : Root} {p : Path} {sz : Nat} {rows : List (List T)} {i : Nat} {row : List T} {a : Addr} {len cap : Nat} {c : Array Value} {e z},
    Rel w ow bs st fr → st r = some R → nav R.sz R.rows p = some (sz, rows) → rows[i]? = some row → j + ys.length ≤ row.length → (bs (r, p)).2 = .slice (some a) len cap → w.heap[a.block]? = some (.cells c e z) →
    (∀ k, k < ys.length → t0 + k ≠ r) → (∀ (k : Nat) (y : T), ys[k]? = some y → Holds w ow bs st (t0 + k) y (c.getD (a.off + i * sz + (j + k)) undef)) →
    ∃ ow' bs' st', Rel w ow' bs' st' fr ∧ Kept w ow w ow' ∧ Quiet bs st fr bs' st' fr ∧ st' r = some { R with rows := modAt (setCells i j ys) R.rows p, log := R.log ++ filled p i j ys } ∧
      (∀ x, x ≠ r → ¬ (t0 ≤ x ∧ x < t0 + ys.length) → st' x = st x) ∧ (∀ x R', x ≠ r → st' x = some R' → st x = some R') ∧ (∀ x, x ≠ r → bs' (x, []) = bs (x, [])) ∧ bs' (r, p) = bs (r, p)
  | [], j, t0, ow, bs, st, fr, r, R, p, sz, rows, i, row, a, len, cap, c, e, z, h, hr, hn, hi, hj, hb, hblk, hne, hh => by
    refine ⟨ow, bs, st, h, Kept.refl _ _, Quiet.refl _ _ _, ?_, fun _ _ _ => rfl, fun _ _ _ h => h, fun _ _ => rfl, rfl⟩
    rw [hr]
    simp only [filled, List.append_nil, Option.some.injEq]
    have : modAt (setCells i j []) R.rows p = R.rows := by
      have : ∀ {p : Path} {sz rows sz' rows'}, nav sz rows p = some (sz', rows') → modAt (setCells i j []) rows p = rows := by
        intro p
        induction p with
        | nil => intro sz rows sz' rows' h; rfl
        | cons ij p ih =>
          obtain ⟨a, b⟩ := ij
          intro sz rows sz' rows' h
          simp only [nav] at h
          split at h
          · rename_i sz1 es1 hx
            obtain ⟨row, hr, hj⟩ := cell_some hx (by simp)
            simp only [modAt]
            rw [hx]
            simp only
            rw [ih h, getD_of hr, set_same hj, set_same hr]
          · cases h
      exact this hn
    rw [this]
  | y :: ys, j, t0, ow, bs, st, fr, r, R, p, sz, rows, i, row, a, len, cap, c, e, z, h, hr, hn, hi, hj, hb, hblk, hne, hh => by
    simp only [List.length_cons] at hj
    have hy := hh 0 y (by simp)
    simp only [Nat.add_zero] at hy
    have hne0 := hne 0 (by simp)
    simp only [Nat.add_zero] at hne0
    obtain ⟨ow1, bs1, st1, g1, g2, g3, g4, g5, g6, g7⟩ : ∃ ow1 bs1 st1, Rel w ow1 bs1 st1 fr ∧ Kept w ow w ow1 ∧ Quiet bs st fr bs1 st1 fr ∧
        st1 r = some { R with rows := modAt (setIn i j y) R.rows p, log := R.log ++ (if isOwn y then [p ++ [(i, j)]] else []) } ∧
        (∀ x, x ≠ r → x ≠ t0 → st1 x = st x) ∧ (∀ x R', x ≠ r → st1 x = some R' → st x = some R') ∧ ((∀ x, x ≠ r → bs1 (x, []) = bs (x, [])) ∧ bs1 (r, p) = bs (r, p)) := by
      rcases hy with ⟨h1, h2, h3⟩ | ⟨sz1, es1, rfl, h2, h3⟩
      · refine ⟨ow, bs, _, h.retype (i := i) (j := j) (y := y) hr hn (fun a' l' c' cc ee zz e1 e2 => ?_), Kept.refl _ _, Quiet.same hr rfl, ?_, fun x hx _ => St.put_ne _ _ hx, fun x R' hx hs => ?_, fun _ _ => rfl, rfl⟩
        · rw [hb] at e1
          simp only [Value.slice.injEq, Option.some.injEq] at e1
          obtain ⟨rfl, rfl, rfl⟩ := e1
          rw [hblk] at e2
          simp only [Option.some.injEq, Obj.cells.injEq] at e2
          obtain ⟨rfl, rfl, rfl⟩ := e2
          exact h3
        · simp [h1]
        · rw [St.put_ne _ _ hx] at hs; exact hs
      · obtain ⟨k1, k2, k3⟩ := h.install (i := i) (j := j) hr hn h2 hne0 hb hblk h3.symm
        refine ⟨_, _, _, k1, k2, k3, ?_, fun x hx hx0 => by rw [St.put_ne _ _ hx0, St.put_ne _ _ hx], fun x R' hx hs => ?_, fun x hx => ?_, ?_⟩
        · rw [St.put_ne _ _ (fun e => hne0 e.symm)]; simp [isOwn]
        · by_cases e : x = t0
          · subst e; simp at hs
          · rw [St.put_ne _ _ e, St.put_ne _ _ hx] at hs; exact hs
        · simp only [laidBase]; rw [if_neg (fun e => hx e.1)]
        · simp only [laidBase]; rw [if_neg]
          intro e
          have := e.2.length_le
          simp at this; omega
    have hn1 : nav R.sz (modAt (setIn i j y) R.rows p) p = some (sz, setIn i j y rows) := nav_modAt _ hn
    have hrow1 := setIn_row hi j y
    obtain ⟨ow2, bs2, st2, k1, k2, k3, k4, k5, k6, k7, k8⟩ := fill_sound ys (j + 1) (t0 + 1) (r := r) (p := p) (i := i) g1 g4 hn1 hrow1 (by simp; omega) (by rw [g7.2]; exact hb) hblk
      (fun k hk => by have := hne (k + 1) (by simp; omega); rwa [show t0 + 1 + k = t0 + (k + 1) from by omega])
      (fun k y' hy' => by
        have := hh (k + 1) y' (by simpa using hy')
        rw [show t0 + (k + 1) = t0 + 1 + k from by omega, show j + (k + 1) = j + 1 + k from by omega] at this
        have hk : k < ys.length := lt_of_getl hy'
        have hx : t0 + 1 + k ≠ r := by have := hne (k + 1) (by simp; omega); rwa [show t0 + (k + 1) = t0 + 1 + k from by omega] at this
        exact this.mono g2 (g5 _ hx (by omega)) (g7.1 _ hx))
    refine ⟨ow2, bs2, st2, k1, fun b hb hlt => ?_, g3.trans k3, ?_, fun x hx hx0 => ?_, fun x R' hx hs => g6 x R' hx (k6 x R' hx hs), fun x hx => (k7 x hx).trans (g7.1 x hx), k8.trans g7.2⟩
    · have e1 := g2 b hb hlt
      exact k2 b e1.2 hlt
    · rw [k4]
      simp only [Option.some.injEq, Root.mk.injEq, true_and]
      refine ⟨?_, ?_⟩
      · rw [modAt_modAt _ _ hn]; rfl
      · simp only [filled]
        split <;> simp
    · simp only [List.length_cons] at hx0
      rw [k5 x hx (by omega), g5 x hx (by omega)]

end Go.VM
