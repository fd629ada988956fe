/- Numbers of roots, shifted: what is told under one numbering is told under another. -/
import Derived.Test.YtcdgdiheoejjgaaVLend
namespace Go.VM
set_option linter.unusedSimpArgs false
set_option linter.unusedVariables false

theorem ropAny {w ow bs st fr bs' st' fr'} {cs : List T} {v : Value} (h : RelV w ow bs st fr (.rop cs) v) : RelV w ow bs' st' fr' (.rop cs) v := by
  cases h with | rop a b c d e => exact .rop a b c d e

/-- A cell under another number. -/
theorem shiftC {w ow bs st fr w' ow' bs' st' fr'} {c : CT} {t t' : Nat} {v : Value} (h : RelV w ow bs st fr (c.vv t) v) (hb : bs' (t', []) = bs (t, [])) (hf : ¬ fr' t') (hk : Kept w ow w' ow' ∨ c.clean = true) : RelV w' ow' bs' st' fr' (c.vv t') v := by
  cases c with
  | v y =>
    cases y with
    | list o sz es =>
      cases o with
      | true =>
        cases h with
        | al h1 h2 h3 h4 => exact .al hf (fun _ => by rw [hb]; exact h2 (.inl rfl)) h3 (fun _ _ => Nat.zero_le _)
      | false =>
        cases h with
        | c h =>
          rcases hk with hk | hk
          · exact .c (h.mono hk)
          · simp [CT.clean, T.clean] at hk
    | int k n => cases h with | c h => cases h; exact .c .int
    | bool b => cases h with | c h => cases h; exact .c .bool
    | str s => cases h with | c h => cases h; exact .c .str
    | dead => cases h with | c h => exact .c .dead
  | box xs => cases h with | ptr h1 h2 h3 h4 => exact .ptr hf (fun _ => by rw [hb]; exact h2 (.inl rfl)) h3 (fun _ _ => Nat.zero_le _)
  | ref cs =>
    rcases hk with hk | hk
    · have := h.mono hk (Quiet.refl bs st fr)
      cases this with | rop a b c d e => exact .rop a b c d e
    · simp [CT.clean] at hk
  | fn f caps =>
    rcases hk with hk | hk
    · have := h.mono hk (Quiet.refl bs st fr)
      cases this with
      | fn hl hh => exact .fn hl (fun k cs hk => ropAny (hh k cs hk))
    · have : caps = [] := by simpa [CT.clean] using hk
      subst this
      cases h with
      | fn hl hh => exact .fn hl (fun k cs hk => by simp at hk)

theorem cvv_length : ∀ (cs : List CT) (b : Nat), (cvv b cs).length = cs.length
  | [], _ => rfl
  | c :: cs, b => by simp [cvv, cvv_length cs]
theorem cvv_get : ∀ {cs : List CT} {b k : Nat} {y : VV}, (cvv b cs)[k]? = some y → ∃ c, cs[k]? = some c ∧ y = c.vv (b + k)
  | [], b, k, y, h => by simp [cvv] at h
  | c :: cs, b, k, y, h => by
    cases k with
    | zero => simp [cvv] at h; exact ⟨c, rfl, h.symm⟩
    | succ k =>
      obtain ⟨c', e1, e2⟩ := cvv_get (cs := cs) (b := b + 1) (k := k) (by simpa [cvv] using h)
      exact ⟨c', by simpa using e1, by rw [e2, show b + 1 + k = b + (k + 1) from by omega]⟩
theorem cvv_at : ∀ {cs : List CT} {b k : Nat} {c : CT}, cs[k]? = some c → (cvv b cs)[k]? = some (c.vv (b + k))
  | [], b, k, y, h => by simp at h
  | c :: cs, b, k, y, h => by
    cases k with
    | zero => simp at h; subst h; rfl
    | succ k =>
      have := cvv_at (cs := cs) (b := b + 1) (k := k) (by simpa using h)
      rw [show b + 1 + k = b + (k + 1) from by omega] at this
      simpa [cvv] using this

theorem shiftR {w ow bs st fr w' ow' bs' st' fr'} {o : RT} {t t' : Nat} {v : Value} (h : RelV w ow bs st fr (o.vv t) v) (hc : ∀ (k : Nat) (c : CT) (u : Value), o.cells[k]? = some c → RelV w ow bs st fr (c.vv (t + k)) u → RelV w' ow' bs' st' fr' (c.vv (t' + k)) u) : RelV w' ow' bs' st' fr' (o.vv t') v := by
  cases o with
  | one c => simpa [RT.vv] using hc 0 c v rfl (by simpa [RT.vv] using h)
  | agg cs =>
    cases h with
    | agg hl hh =>
      refine .agg (by rw [cvv_length] at hl ⊢; exact hl) (fun k x hx => ?_)
      obtain ⟨c, e1, rfl⟩ := cvv_get hx
      exact hc k c _ e1 (hh k _ (cvv_at e1))

theorem rvv_get : ∀ {outs : List RT} {b j : Nat} {x : VV}, (rvv b outs)[j]? = some x → ∃ o off, outs[j]? = some o ∧ x = o.vv (b + off) ∧ (∀ b', (rvv b' outs)[j]? = some (o.vv (b' + off))) ∧ ∀ (k : Nat) (c : CT), o.cells[k]? = some c → (rcells outs)[off + k]? = some c
  | [], b, j, x, h => by simp [rvv] at h
  | o :: outs, b, j, x, h => by
    cases j with
    | zero =>
      simp only [rvv, List.getElem?_cons_zero, Option.some.injEq] at h
      refine ⟨o, 0, rfl, by simpa using h.symm, fun b' => by simp [rvv], fun k c hk => ?_⟩
      simp only [rcells, List.flatMap_cons, Nat.zero_add]
      rw [List.getElem?_append_left (lt_of_getl hk)]; exact hk
    | succ j =>
      obtain ⟨o', off, e1, e2, e3, e4⟩ := rvv_get (outs := outs) (b := b + o.cells.length) (j := j) (by simpa [rvv] using h)
      refine ⟨o', o.cells.length + off, by simpa using e1, by rw [e2]; congr 1; omega, fun b' => ?_, fun k c hk => ?_⟩
      · have := e3 (b' + o.cells.length)
        rw [show b' + o.cells.length + off = b' + (o.cells.length + off) from by omega] at this
        simpa [rvv] using this
      · simp only [rcells, List.flatMap_cons]
        rw [List.getElem?_append_right (by omega), show o.cells.length + off + k - o.cells.length = off + k from by omega]
        exact e4 k c hk

theorem rvv_length : ∀ (l : List RT) (b : Nat), (rvv b l).length = l.length
  | [], _ => rfl
  | x :: l, b => by simp [rvv, rvv_length l]

theorem shiftOut {w ow bs st fr w' ow' bs' st' fr'} {outs : List RT} {b b' : Nat} {v : Value} (h : RelV w ow bs st fr (outL (rvv b outs)) v)
    (hc : ∀ (k : Nat) (c : CT) (u : Value), (rcells outs)[k]? = some c → RelV w ow bs st fr (c.vv (b + k)) u → RelV w' ow' bs' st' fr' (c.vv (b' + k)) u) : RelV w' ow' bs' st' fr' (outL (rvv b' outs)) v := by
  have one : ∀ (j : Nat) (x y : VV) (u : Value), (rvv b outs)[j]? = some x → (rvv b' outs)[j]? = some y → RelV w ow bs st fr x u → RelV w' ow' bs' st' fr' y u := by
    intro j x y u hx hy hr
    obtain ⟨o, off, e1, e2, e3, e4⟩ := rvv_get hx
    rw [e3 b'] at hy
    simp only [Option.some.injEq] at hy
    subst e2 hy
    refine shiftR hr (fun k c z hk hz => ?_)
    have := hc (off + k) c z (e4 k c hk) (by rwa [show b + (off + k) = b + off + k from by omega])
    rwa [show b' + (off + k) = b' + off + k from by omega] at this
  have hl : (rvv b outs).length = (rvv b' outs).length := by rw [rvv_length, rvv_length]
  generalize rvv b outs = xs at *
  generalize rvv b' outs = ys at *
  match xs, ys, hl with
  | [], [], _ =>
    cases h with
    | tup hl hh => exact .tup hl (fun k x hx => by simp at hx)
  | [x], [y], _ => exact one 0 x y v rfl rfl h
  | x :: x2 :: xs, y :: y2 :: ys, hl =>
    cases h with
    | tup hlen hh =>
      refine .tup (by rw [← hl]; exact hlen) (fun k z hz => ?_)
      have hk := lt_of_getl hz
      have hx : (x :: x2 :: xs)[k]? = some ((x :: x2 :: xs)[k]'(by omega)) := List.getElem?_eq_getElem (by omega)
      exact one k _ z _ hx hz (hh k _ hx)

theorem cups_set {st : St} : ∀ {cs : List CT} {b k : Nat} {c : CT}, cs[k]? = some c → (∀ sz es, c = .v (.list true sz es) → (st.ups (cups b cs)) (b + k) = some ⟨false, sz, es, []⟩) ∧ (∀ xs, c = .box xs → (st.ups (cups b cs)) (b + k) = some ⟨true, xs.length, [xs], []⟩)
  | [], b, k, c, h => by simp at h
  | c0 :: cs, b, k, c, h => by
    cases k with
    | zero =>
      simp only [List.getElem?_cons_zero, Option.some.injEq] at h
      subst h
      have low : ∀ (st : St) (cs : List CT) (b' : Nat), b < b' → (st.ups (cups b' cs)) b = st b := by
        intro st cs
        induction cs generalizing st with
        | nil => intro b' _; rfl
        | cons c cs ih =>
          intro b' hb
          simp only [cups, St.ups_append]
          rw [ih _ _ (by omega)]
          cases c with
          | v y => cases y with
            | list o sz es => cases o <;> simp [CT.ups, St.ups_cons, St.ups_nil]; exact St.put_ne _ _ (by omega)
            | _ => rfl
          | box xs => simp [CT.ups, St.ups_cons, St.ups_nil]; exact St.put_ne _ _ (by omega)
          | _ => rfl
      constructor
      · rintro sz es rfl
        simp only [cups, St.ups_append, Nat.add_zero]
        rw [low _ _ _ (by omega)]
        simp [CT.ups, St.ups_cons, St.ups_nil]
      · rintro xs rfl
        simp only [cups, St.ups_append, Nat.add_zero]
        rw [low _ _ _ (by omega)]
        simp [CT.ups, St.ups_cons, St.ups_nil]
    | succ k =>
      have := cups_set (st := st.ups (c0.ups b)) (cs := cs) (b := b + 1) (k := k) (by simpa using h)
      simp only [cups, St.ups_append]
      rwa [show b + 1 + k = b + (k + 1) from by omega] at this

end Go.VM
