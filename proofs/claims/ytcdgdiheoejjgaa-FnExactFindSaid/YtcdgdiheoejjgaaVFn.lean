/- A closure is made: the variables that it holds are only read from then on. -/
import Derived.Test.YtcdgdiheoejjgaaVUse
namespace Go.VM
set_option linter.unusedSimpArgs false
set_option linter.unusedVariables false

def dropU (F : List Nat) : Ups := F.map fun r => (r, none)
theorem dropU_get : ∀ {F : List Nat} {st : St} {r : Nat}, (st.ups (dropU F)) r = if F.contains r then none else st r
  | [], st, r => by simp [dropU, St.ups]
  | x :: F, st, r => by
    have := dropU_get (F := F) (st := st.put x none) (r := r)
    simp only [dropU, List.map_cons, St.ups_cons] at this ⊢
    rw [this]
    by_cases e : r = x
    · subst e; simp
    · have e2 : (r == x) = false := by simpa using e
      rw [St.put_ne _ _ e, List.contains_cons, e2, Bool.false_or]

def ropsOf : List CT → Option (List (List T))
  | [] => some []
  | .ref cs :: l => (ropsOf l).map (cs :: ·)
  | _ => none

def ptrIn (F : List Nat) : VV → Bool
  | .ptr r _ _ _ _ => F.contains r
  | .rop _ => true
  | _ => false

theorem mk_ok {P : Program} {fid : Nat} {o : Oper} {env : Nat → VV} {st : St} {f : FuncId} {caps : Array Operand} {cs : List CT} {rows : List (List T)} (F : List Nat) (hop : o.op = .makeFunc (.func f) #[] caps)
    (hl : lendAll st (caps.toList.map (ev P env 0)) = some cs) (hrow : ropsOf cs = some rows) (hF : (caps.toList.map (ev P env 0)).all (ptrIn F) = true) :
    OpOk P fid o env st ⟨.fn f rows, dropU F⟩ := by
  intro w ow bs fr a hr he hroom next Q hk
  have hrun : (execOp a.eval o).run P w = .ok (.value (.func (.func f) #[] (caps.map a.eval))) w := by
    simp [execOp, hop, Instr.makeFunc]
  let owC : Own := fun b => match ow b with | some (r, q) => if F.contains r then none else some (r, q) | none => none
  have hC : ∀ b, ow b = none → owC b = none := fun b hb => by simp [owC, hb]
  have hkept : Kept w ow w owC := fun b hb _ => ⟨rfl, hC b hb⟩
  have hst : ∀ r, (st.ups (dropU F)) r = if F.contains r then none else st r := fun r => dropU_get
  have hstill : ∀ r p m, Still (st.ups (dropU F)) r p m → Still st r p m := by
    intro r p m h
    rcases h with h | ⟨R, h1, h2⟩
    · exact .inl h
    · rw [hst] at h1
      split at h1
      · cases h1
      · exact .inr ⟨R, h1, h2⟩
  have hrel : Rel w owC bs (st.ups (dropU F)) (minus fr fid) := by
    refine ⟨fun r R h => ?_, fun r R h => ?_, fun b ℓ h => ?_, fun r h => ?_⟩
    · rw [hst] at h
      split at h
      · cases h
      · rename_i hc
        refine (hr.root r R h).move hkept ⟨fun b p hb => ⟨rfl, ?_⟩, fun p => rfl⟩
        simp only [List.nil_append] at hb ⊢
        have hc' : F.contains r = false := by simpa using hc
        simp only [owC, hb, hc']
        rfl
    · rw [hst] at h
      split at h
      · cases h
      · exact hr.box r R h
    · simp only [owC] at h
      split at h
      · rename_i r q ho
        split at h
        · cases h
        · simp only [Option.some.injEq] at h
          subst h
          have := hr.own b _ ho
          exact ⟨fun hx => this.1 hx.1, this.2⟩
      · cases h
    · rw [hst]
      split
      · rfl
      · exact hr.free r h.1
  have hval : ∀ (l : List Operand) (cs : List CT) (rows : List (List T)), lendAll st (l.map (ev P env 0)) = some cs → ropsOf cs = some rows → (l.map (ev P env 0)).all (ptrIn F) = true →
      rows.length = l.length ∧ ∀ (k : Nat) (row : List T) (x : Operand), rows[k]? = some row → l[k]? = some x → RelV w owC bs (st.ups (dropU F)) (minus fr fid) (.rop row) (a.eval x) := by
    intro l
    induction l with
    | nil =>
      intro cs rows h1 h2 _
      simp only [List.map_nil, lendAll, Option.some.injEq] at h1
      subst h1
      simp only [ropsOf, Option.some.injEq] at h2
      subst h2
      exact ⟨rfl, fun k row x h => by simp at h⟩
    | cons x l ih =>
      intro cs rows h1 h2 h3
      simp only [List.map_cons, lendAll] at h1
      split at h1
      · rename_i c hc
        obtain ⟨cs', hcs, rfl⟩ := Option.map_eq_some_iff.1 h1
        simp only [List.map_cons, List.all_cons, Bool.and_eq_true] at h3
        have hcv : RelV w owC bs (st.ups (dropU F)) (minus fr fid) (c.vv 0) (a.eval x) := by
          refine lendC_rel (k := 0) hr (ev_rel he 0 x) hC (fun b r q R hb hR => ⟨fun p m i j e => ?_, fun p m sz off len e => ?_⟩) hc
          · rw [e] at h3
            have h4 : F.contains r = true := h3.1
            simp only [owC, hb, h4]
            rfl
          · rw [e] at h3
            simp [ptrIn] at h3
        cases c with
        | ref row =>
          simp only [ropsOf] at h2
          obtain ⟨rows', hr', rfl⟩ := Option.map_eq_some_iff.1 h2
          obtain ⟨i1, i2⟩ := ih cs' rows' hcs hr' h3.2
          refine ⟨by simp [i1], fun k row' x' hk' hx' => ?_⟩
          cases k with
          | zero =>
            simp only [List.getElem?_cons_zero, Option.some.injEq] at hk' hx'
            subst hk'; subst hx'
            exact hcv
          | succ k => exact i2 k row' x' (by simpa using hk') (by simpa using hx')
        | _ => simp [ropsOf] at h2
      · cases h1
  obtain ⟨j1, j2⟩ := hval caps.toList cs rows hl hrow hF
  have hn := hk (.func (.func f) #[] (caps.map a.eval)) w owC bs ⟨hkept, Nat.le_refl _, rfl, rfl, rfl⟩ hrel ?_ ?_
  · unfold Oper.wp
    rw [hrun, Oper.upon_value]; exact hn
  · refine .fn (by rw [j1]; simp) (fun k row hk' => ?_)
    have hlt : k < caps.size := by have := lt_of_getl hk'; rw [j1] at this; simpa using this
    have := j2 k row caps[k] hk' (by simp [hlt])
    rw [Array.getD_eq_getD_getElem?, Array.getElem?_map, Array.getElem?_eq_getElem hlt]
    exact this
  · exact ⟨fun _ _ => rfl, fun r p m _ _ _ h => ⟨hstill r p m h, rfl⟩, fun r R' _ h => by
      rw [hst] at h
      split at h
      · cases h
      · exact ⟨R', h, Nat.le_refl _⟩, fun r h => h.1⟩

end Go.VM
