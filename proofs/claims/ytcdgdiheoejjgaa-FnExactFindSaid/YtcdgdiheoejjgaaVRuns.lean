/- What a function does, as a relation between plain trees: its arguments, its results, and what is given back. -/
import Derived.Test.YtcdgdiheoejjgaaVCells
namespace Go.VM
set_option linter.unusedSimpArgs false
set_option linter.unusedVariables false

/-! ### trees that look at nobody else's memory -/

mutual
def T.clean : T → Bool
  | .list false _ _ => false
  | .list true _ es => cleanRs es
  | _ => true
def cleanR : List T → Bool
  | [] => true
  | x :: r => x.clean && cleanR r
def cleanRs : List (List T) → Bool
  | [] => true
  | r :: rs => cleanR r && cleanRs rs
end

theorem cleanR_get : ∀ {r : List T} {j : Nat} {x : T}, cleanR r = true → r[j]? = some x → x.clean = true
  | [], j, x, h, hj => by simp at hj
  | y :: r, j, x, h, hj => by
    simp only [cleanR, Bool.and_eq_true] at h
    cases j with
    | zero => simp at hj; subst hj; exact h.1
    | succ j => exact cleanR_get h.2 (by simpa using hj)
theorem cleanRs_get : ∀ {rs : List (List T)} {i : Nat} {r : List T}, cleanRs rs = true → rs[i]? = some r → cleanR r = true
  | [], i, r, h, hi => by simp at hi
  | y :: rs, i, r, h, hi => by
    simp only [cleanRs, Bool.and_eq_true] at h
    cases i with
    | zero => simp at hi; subst hi; exact h.1
    | succ i => exact cleanRs_get h.2 (by simpa using hi)

theorem RepR.clean {w w' : World} {ow ow' : Own} {x : T} {v : Value} (h : RepR w ow x v) (hc : x.clean = true) : RepR w' ow' x v := by
  cases h with
  | int => exact .int
  | bool => exact .bool
  | str => exact .str
  | dead => exact .dead
  | nil => simp [T.clean] at hc
  | list => simp [T.clean] at hc

theorem RepT.moveClean {w w' : World} {ow ow' : Own} {bs bs' : Base} {ℓ : Loc} {x : T} {v : Value} (h : RepT w ow bs ℓ x v) :
    x.clean = true → ∀ {ℓ' : Loc}, Moved w ow bs ℓ w' ow' bs' ℓ' → RepT w' ow' bs' ℓ' x v := by
  induction h with
  | ro h => exact fun hc _ _ => .ro (h.clean hc)
  | nil base => exact fun _ _ m => .nil (by have := m.2 []; simp at this; exact this.trans base)
  | @list ℓ a sz es len cap c e fr base spot own blk free hlen hcap fits rows _ ih =>
    intro hc ℓ' m
    simp only [T.clean] at hc
    have hk := m.1 a.block [] (by simpa using own)
    exact .list (by have := m.2 []; simp at this; exact this.trans base) spot (by simpa using hk.2) (hk.1.trans blk) free hlen hcap fits rows
      (fun i row j x h1 h2 => ih i row j x h1 h2 (cleanR_get (cleanRs_get hc h1) h2) (m.at i j))

/-! ### what is handed over -/

inductive RT where
  | one (c : CT)
  | agg (cs : List CT)
  deriving Inhabited

def RT.cells : RT → List CT
  | .one c => [c]
  | .agg cs => cs

def CT.vv (b : Nat) : CT → VV
  | .v (.list true sz es) => .al b [] 0 sz 0 es.length
  | .v x => .c x
  | .box _ => .ptr b [] 0 0 0
  | .ref cs => .rop cs
  | .fn f caps => .fn f caps
def CT.ups (b : Nat) : CT → Ups
  | .v (.list true sz es) => [(b, some ⟨false, sz, es, []⟩)]
  | .box xs => [(b, some ⟨true, xs.length, [xs], []⟩)]
  | _ => []
def CT.clean : CT → Bool
  | .v x => x.clean
  | .box xs => cleanR xs
  | .ref _ => false
  | .fn _ caps => caps.isEmpty

def cvv : Nat → List CT → List VV
  | _, [] => []
  | b, c :: cs => c.vv b :: cvv (b + 1) cs
def cups : Nat → List CT → Ups
  | _, [] => []
  | b, c :: cs => c.ups b ++ cups (b + 1) cs

def RT.vv (b : Nat) : RT → VV
  | .one c => c.vv b
  | .agg cs => .agg (cvv b cs)
def rvv : Nat → List RT → List VV
  | _, [] => []
  | b, x :: xs => x.vv b :: rvv (b + x.cells.length) xs
def rcells (xs : List RT) : List CT := xs.flatMap RT.cells

def st0 : St := fun _ => none
def envOf (l : List VV) : Nat → VV := fun t => l.getD t .undef

/-- The numbers of what comes back. -/
def RB : Nat := 2 ^ 40

def stOut (outs : List RT) (back : List (Nat × Root)) : St := st0.ups (cups RB (rcells outs) ++ back.map fun p => (p.1, some p.2))
def outL : List VV → VV
  | [v] => v
  | l => .tup l
def outV (outs : List RT) : VV := outL (rvv RB outs)

/-- Called with 'args', the function returns 'outs'; of what it was handed over it gives 'back' these. -/
def Runs (P : Program) (f : FuncId) (args outs : List RT) (back : List (Nat × Root)) : Prop :=
  ∀ w ow bs vals, Rel w ow bs (st0.ups (cups 0 (rcells args))) (fun x => (rcells args).length ≤ x) → Each (RelV w ow bs (st0.ups (cups 0 (rcells args))) (fun x => (rcells args).length ≤ x)) (rvv 0 args) vals →
    Calls P f vals w fun e w' => ∃ v ow' bs', e = .returned v ∧ Steady w ow w' ow' ∧ Rel w' ow' bs' (stOut outs back) (fun _ => False) ∧ RelV w' ow' bs' (stOut outs back) (fun _ => False) (outV outs) v ∧
      ∀ p ∈ back, bs' (p.1, []) = bs (p.1, [])

theorem cups_get {st : St} : ∀ {cs : List CT} {b r : Nat} {R : Root}, (st.ups (cups b cs)) r = some R →
    (∃ k c, cs[k]? = some c ∧ r = b + k ∧ ((∃ sz es, c = .v (.list true sz es) ∧ R = ⟨false, sz, es, []⟩) ∨ (∃ xs, c = .box xs ∧ R = ⟨true, xs.length, [xs], []⟩))) ∨ st r = some R
  | [], b, r, R, h => .inr h
  | c :: cs, b, r, R, h => by
    simp only [cups, St.ups_append] at h
    rcases cups_get h with ⟨k, c', h1, h2, h3⟩ | h
    · exact .inl ⟨k + 1, c', by simpa using h1, by omega, h3⟩
    · cases c with
      | v y =>
        cases y with
        | list o sz es =>
          cases o with
          | true =>
            simp only [CT.ups, St.ups_cons, St.ups_nil] at h
            by_cases e : r = b
            · subst e
              simp only [St.put_eq, Option.some.injEq] at h
              exact .inl ⟨0, _, rfl, rfl, .inl ⟨sz, es, rfl, h.symm⟩⟩
            · rw [St.put_ne _ _ e] at h; exact .inr h
          | false => exact .inr h
        | _ => exact .inr h
      | box xs =>
        simp only [CT.ups, St.ups_cons, St.ups_nil] at h
        by_cases e : r = b
        · subst e
          simp only [St.put_eq, Option.some.injEq] at h
          exact .inl ⟨0, _, rfl, rfl, .inr ⟨xs, rfl, h.symm⟩⟩
        · rw [St.put_ne _ _ e] at h; exact .inr h
      | _ => exact .inr h

theorem backs_get {st : St} : ∀ {back : List (Nat × Root)} {r : Nat} {R : Root}, (st.ups (back.map fun p => (p.1, some p.2))) r = some R → (∃ p ∈ back, p.1 = r ∧ p.2 = R) ∨ st r = some R
  | [], r, R, h => .inr h
  | p :: back, r, R, h => by
    simp only [List.map_cons, St.ups_cons] at h
    rcases backs_get h with ⟨q, h1, h2⟩ | h
    · exact .inl ⟨q, List.mem_cons_of_mem _ h1, h2⟩
    · by_cases e : r = p.1
      · subst e
        simp only [St.put_eq, Option.some.injEq] at h
        exact .inl ⟨p, by simp, rfl, h⟩
      · rw [St.put_ne _ _ e] at h; exact .inr h

/-- Do the values have these shapes? -/
def shapes : List VV → List RT → Bool
  | [], [] => true
  | .agg cs :: xs, .agg ds :: ys => cs.length == ds.length && shapes xs ys
  | .agg _ :: _, _ => false
  | _ :: xs, .one _ :: ys => shapes xs ys
  | _, _ => false

def valCells : VV → Value → List Value
  | .agg _, v => v.cells.toList
  | _, v => [v]
def flatV : List VV → List Value → List Value
  | x :: xs, v :: vs => valCells x v ++ flatV xs vs
  | _, _ => []

theorem valCells_rel {w ow bs st fr} {x : VV} {v : Value} (h : RelV w ow bs st fr x v) : x.cells.length = (valCells x v).length ∧ ∀ (k : Nat) (y : VV) (u : Value), x.cells[k]? = some y → (valCells x v)[k]? = some u → RelV w ow bs st fr y u := by
  have one : x.cells = [x] → valCells x v = [v] → x.cells.length = (valCells x v).length ∧ ∀ (k : Nat) (y : VV) (u : Value), x.cells[k]? = some y → (valCells x v)[k]? = some u → RelV w ow bs st fr y u := by
    intro h1 h2
    rw [h1, h2]
    refine ⟨rfl, fun k y u hy hu => ?_⟩
    cases k with
    | zero => simp at hy hu; subst hy; subst hu; exact h
    | succ k => simp at hy
  cases h with
  | @agg cs vs hl hh =>
    refine ⟨by simpa [VV.cells, valCells, Value.cells] using hl, fun k y u hy hu => ?_⟩
    have := hh k y hy
    simp only [valCells, Value.cells] at hu
    rw [Array.getD_eq_getD_getElem?] at this
    rw [Array.getElem?_toList] at hu
    rwa [hu] at this
  | _ => exact one rfl rfl

theorem flatV_rel {w ow bs st fr} : ∀ {xs : List VV} {vs : List Value}, xs.length = vs.length → (∀ (k : Nat) (x : VV) (v : Value), xs[k]? = some x → vs[k]? = some v → RelV w ow bs st fr x v) →
    (xs.flatMap VV.cells).length = (flatV xs vs).length ∧ ∀ (k : Nat) (y : VV) (u : Value), (xs.flatMap VV.cells)[k]? = some y → (flatV xs vs)[k]? = some u → RelV w ow bs st fr y u
  | [], vs, hl, h => by
    cases vs with
    | nil => exact ⟨rfl, fun k y u hy => by simp at hy⟩
    | cons v vs => simp at hl
  | x :: xs, vs, hl, h => by
    cases vs with
    | nil => simp at hl
    | cons v vs =>
      obtain ⟨i1, i2⟩ := flatV_rel (xs := xs) (vs := vs) (by simpa using hl) (fun k x v hx hv => h (k + 1) x v (by simpa using hx) (by simpa using hv))
      obtain ⟨j1, j2⟩ := valCells_rel (h 0 x v rfl rfl)
      simp only [List.flatMap_cons, flatV, List.length_append]
      refine ⟨by omega, fun k y u hy hu => ?_⟩
      by_cases e : k < x.cells.length
      · rw [List.getElem?_append_left e] at hy
        rw [List.getElem?_append_left (by omega)] at hu
        exact j2 k y u hy hu
      · rw [List.getElem?_append_right (by omega)] at hy hu
        rw [← j1] at hu
        exact i2 _ y u hy hu

/-- The values that come out stand for what is told. -/
theorem out_rel {w0 ow0 bs0 st0' fr0 w ow bs st fr} : ∀ {xs : List VV} {outs : List RT} {vs : List Value} {b : Nat}, shapes xs outs = true → xs.length = vs.length → (∀ (k : Nat) (x : VV) (v : Value), xs[k]? = some x → vs[k]? = some v → RelV w0 ow0 bs0 st0' fr0 x v) →
    (∀ (k : Nat) (c : CT) (v : Value), (rcells outs)[k]? = some c → (flatV xs vs)[k]? = some v → RelV w ow bs st fr (c.vv (b + k)) v) →
    (rvv b outs).length = vs.length ∧ ∀ (k : Nat) (x : VV) (v : Value), (rvv b outs)[k]? = some x → vs[k]? = some v → RelV w ow bs st fr x v
  | [], outs, vs, b, hs, hl, hr, h => by
    cases outs with
    | cons o outs => simp [shapes] at hs
    | nil =>
      cases vs with
      | nil => exact ⟨rfl, fun k x v hx => by simp [rvv] at hx⟩
      | cons v vs => simp at hl
  | x :: xs, outs, vs, b, hs, hl, hr, h => by
    cases vs with
    | nil => simp at hl
    | cons v vs =>
    cases outs with
    | nil => cases x <;> simp [shapes] at hs
    | cons o outs =>
      have hx := hr 0 x v rfl rfl
      have hj := valCells_rel hx
      have key : shapes xs outs = true → o.cells.length = (valCells x v).length → RelV w ow bs st fr (o.vv b) v →
          (rvv b (o :: outs)).length = (v :: vs).length ∧ ∀ (k : Nat) (x : VV) (u : Value), (rvv b (o :: outs))[k]? = some x → (v :: vs)[k]? = some u → RelV w ow bs st fr x u := by
        intro h1 h2 h3
        obtain ⟨i1, i2⟩ := out_rel (xs := xs) (outs := outs) (vs := vs) (b := b + o.cells.length) h1 (by simpa using hl) (fun k x v hx hv => hr (k + 1) x v (by simpa using hx) (by simpa using hv))
          (fun k c u hc hu => by
            have := h (o.cells.length + k) c u (by simp only [rcells, List.flatMap_cons]; rw [List.getElem?_append_right (by omega)]; simpa [rcells] using hc)
              (by simp only [flatV]; rw [List.getElem?_append_right (by omega)]; simpa [h2] using hu)
            rwa [show b + (o.cells.length + k) = b + o.cells.length + k from by omega] at this)
        refine ⟨by simp [rvv, i1], fun k x u hx hu => ?_⟩
        cases k with
        | zero => simp [rvv] at hx hu; subst hx; subst hu; exact h3
        | succ k => exact i2 k x u (by simpa [rvv] using hx) (by simpa using hu)
      cases o with
      | one c =>
        have hv1 : valCells x v = [v] := by cases x <;> first | rfl | simp [shapes] at hs
        refine key (by cases x <;> simp_all [shapes]) (by rw [hv1]; rfl) ?_
        have := h 0 c v (by simp [rcells, RT.cells]) (by simp [flatV, hv1])
        simpa [RT.vv] using this
      | agg ds =>
        cases x with
        | agg cs =>
          simp only [shapes, Bool.and_eq_true, beq_iff_eq] at hs
          cases hx with
          | @agg _ us hlen hh =>
          have hv1 : valCells (.agg cs) (.agg us) = us.toList := rfl
          refine key hs.2 (by rw [hv1]; simp [RT.cells]; omega) ?_
          have hcvv : ∀ (cs : List CT) (b : Nat), (cvv b cs).length = cs.length := by
            intro cs
            induction cs with
            | nil => intro b; rfl
            | cons c cs ih => intro b; simp [cvv, ih]
          have hcget : ∀ (cs : List CT) (b k : Nat) (y : VV), (cvv b cs)[k]? = some y → ∃ c, cs[k]? = some c ∧ y = c.vv (b + k) := by
            intro cs
            induction cs with
            | nil => intro b k y hy; simp [cvv] at hy
            | cons c cs ih =>
              intro b k y hy
              cases k with
              | zero => simp [cvv] at hy; exact ⟨c, rfl, hy.symm⟩
              | succ k =>
                obtain ⟨c', e1, e2⟩ := ih (b + 1) k y (by simpa [cvv] using hy)
                exact ⟨c', by simpa using e1, by rw [e2, show b + 1 + k = b + (k + 1) from by omega]⟩
          refine .agg (by rw [hcvv]; omega) (fun k y hy => ?_)
          obtain ⟨c, e1, rfl⟩ := hcget ds b k y hy
          have hk := lt_of_getl e1
          have hu : us.toList[k]? = some (us.getD k undef) := by
            rw [Array.getElem?_toList, Array.getD_eq_getD_getElem?, Array.getElem?_eq_getElem (by omega)]; rfl
          refine h k c _ ?_ ?_
          · simp only [rcells, List.flatMap_cons, RT.cells]; rw [List.getElem?_append_left hk]; exact e1
          · simp only [flatV, hv1]; rw [List.getElem?_append_left (by simp; omega)]; exact hu
        | _ => simp [shapes] at hs

end Go.VM
