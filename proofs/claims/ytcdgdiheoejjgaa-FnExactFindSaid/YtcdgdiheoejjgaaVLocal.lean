/- What an operation looks at: elsewhere values and roots may be others. -/
import Derived.Test.YtcdgdiheoejjgaaVCallOp
import Derived.Orders
namespace Go.VM
set_option linter.unusedSimpArgs false
set_option linter.unusedVariables false

def VV.root1 : VV → List Nat
  | .al r .. => [r]
  | .ptr r .. => [r]
  | _ => []
def VV.roots (x : VV) : List Nat := x.cells.flatMap VV.root1

theorem ups_congr {st st' : St} {r : Nat} (h : st' r = st r) : ∀ (u : Ups), (st'.ups u) r = (st.ups u) r
  | [] => h
  | (x, R) :: u => by
    simp only [St.ups_cons]
    refine ups_congr ?_ u
    by_cases e : r = x
    · subst e; simp
    · rw [St.put_ne _ _ e, St.put_ne _ _ e]; exact h

theorem seek_congr {st st' : St} {r : Nat} (h : st' r = st r) (p m) : seek st' r p m = seek st r p m := by simp only [seek, h]

theorem takeV_congr {st st' : St} {x : VV} (h : ∀ r ∈ x.root1, st' r = st r) : takeV st' x = takeV st x := by
  cases x with
  | al r p m sz off len => simp only [takeV, seek_congr (h r (by simp [VV.root1]))]
  | _ => rfl

theorem takeVs_congr : ∀ {xs : List VV} {st st' : St}, (∀ r ∈ xs.flatMap VV.root1, st' r = st r) → takeVs st' xs = takeVs st xs
  | [], st, st', h => rfl
  | x :: xs, st, st', h => by
    simp only [takeVs]
    rw [takeV_congr (fun r hr => h r (by simp only [List.flatMap_cons, List.mem_append]; exact .inl hr))]
    cases hx : takeV st x with
    | none => rfl
    | some yu =>
      simp only
      rw [takeVs_congr (fun r hr => ups_congr (h r (by simp only [List.flatMap_cons, List.mem_append]; exact .inr hr)) _)]

theorem loadV_congr {P : Program} {st st' : St} {t : TypeId} {x : VV} (h : ∀ r ∈ x.roots, st' r = st r) : loadV P st' t x = loadV P st t x := by
  cases x with
  | ptr r p m i j => simp only [loadV, seek_congr (h r (by simp [VV.roots, VV.cells, VV.root1]))]
  | _ => rfl

theorem storeV_congr {st st' : St} {r p m i j} {xs : List VV} (hr : st' r = st r) (h : ∀ r ∈ xs.flatMap VV.root1, st' r = st r) : storeV st' r p m i j xs = storeV st r p m i j xs := by
  simp only [storeV, seek_congr hr, takeVs_congr h]
  cases seek st r p m with
  | none => rfl
  | some q =>
    simp only
    cases takeVs st xs with
    | none => rfl
    | some yu => simp only [seek_congr (ups_congr hr _)]

theorem rowsOf_congr {st st' : St} {x : VV} (h : ∀ r ∈ x.roots, st' r = st r) : rowsOf st' x = rowsOf st x := by
  cases x with
  | al r p m sz off len => simp only [rowsOf, seek_congr (h r (by simp [VV.roots, VV.cells, VV.root1]))]
  | c x => cases x with
    | list o sz es => cases o <;> rfl
    | _ => rfl
  | _ => rfl

theorem atEnd_congr {st st' : St} {x : VV} (h : ∀ r ∈ x.roots, st' r = st r) : atEnd st' x = atEnd st x := by
  cases x with
  | al r p m sz off len => simp only [atEnd, seek_congr (h r (by simp [VV.roots, VV.cells, VV.root1]))]
  | _ => rfl

theorem root1_sub {x : VV} {r : Nat} (h : r ∈ x.root1) : r ∈ x.roots := by
  cases x <;> simp_all [VV.root1, VV.roots, VV.cells]

theorem appendV_congr {P : Program} {fid : Nat} {st st' : St} {sT xT : TypeId} {s x : VV} (hs : ∀ r ∈ s.roots, st' r = st r) (hx : ∀ r ∈ x.roots, st' r = st r) : appendV P fid st' sT xT s x = appendV P fid st sT xT s x := by
  unfold appendV
  rw [atEnd_congr hs, takeV_congr (fun r hr => hs r (root1_sub hr))]
  have e := rowsOf_congr hx
  cases x with
  | c x => cases x <;> first | rfl | simp only [e]
  | _ => simp only [e]

/-- The operands of an operation, as slots. -/
def tmpsOf (o : Oper) : List Tmp := o.op.operands.toList.filterMap fun | .tmp t => some t | _ => none

def opRoots (P : Program) (env : Nat → VV) (x : Operand) : List Nat := match x with | .tmp t => (env t).roots | _ => []

/-- The roots that an operation looks into. -/
def readsOf (env : Nat → VV) (o : Oper) : List Nat :=
  match o.op with
  | .load _ _ | .store _ _ _ | .box _ _ | .buildSlice _ _ _ | .convert _ _ _ | .call _ => (tmpsOf o).flatMap fun t => (env t).roots
  | _ => []

theorem ev_congr {P : Program} {env env' : Nat → VV} {t : TypeId} {x : Operand} (h : ∀ i, x = .tmp i → env' i = env i) : ev P env' t x = ev P env t x := by
  cases x with
  | tmp i => exact h i rfl
  | const v =>
    cases v with
    | slice a l c =>
      cases a with
      | none => cases l <;> (try rfl); cases c <;> rfl
      | some a => rfl
    | _ => rfl
  | _ => rfl

theorem ev_roots {P : Program} {env : Nat → VV} {t : TypeId} {x : Operand} {r : Nat} (h : r ∈ (ev P env t x).roots) : ∃ i, x = .tmp i ∧ r ∈ (env i).roots := by
  cases x with
  | tmp i => exact ⟨i, rfl, h⟩
  | const v =>
    exfalso
    cases v with
    | slice a l c =>
      cases a with
      | none =>
        cases l with
        | zero =>
          cases c with
          | zero =>
            simp only [ev] at h
            split at h <;> simp [VV.roots, VV.cells, VV.root1] at h
          | succ c => simp [ev, lit, VV.roots, VV.cells, VV.root1] at h
        | succ l => simp [ev, lit, VV.roots, VV.cells, VV.root1] at h
      | some a => simp [ev, lit, VV.roots, VV.cells, VV.root1] at h
    | _ => simp [ev, lit, VV.roots, VV.cells, VV.root1] at h
  | _ => simp [ev, VV.roots, VV.cells, VV.root1] at h

end Go.VM
