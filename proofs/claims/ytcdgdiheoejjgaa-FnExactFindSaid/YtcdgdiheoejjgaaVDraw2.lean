/- Regions whose order is left open: the rule. -/
import Derived.Test.YtcdgdiheoejjgaaVDraw
namespace Go.VM
set_option linter.unusedSimpArgs false
set_option linter.unusedVariables false

/-- The operations of a region in the order of the text, with what each has done. -/
def runD (P : Program) (ops : Array Oper) (nx : Nat) : Nat → List Oper → (Nat → VV) → St → List It → (List It → (Nat → VV) → St → Prop) → Prop
  | _, [], env, st, acc, K => K acc env st
  | i, o :: l, env, st, acc, K =>
    match wantedV ops o env with
    | some true => ∃ e rd, OpAt P (nx + 1024 * i) o rd env st e ∧ runD P ops nx (i + 1) l (dstE env o.dst e.v) (st.ups e.ups) (acc ++ [⟨o.dst, e.v, e.ups, o.looksAt ops, rd⟩]) K
    | some false => runD P ops nx (i + 1) l (dstE env o.dst (.tup [])) st (acc ++ [⟨o.dst, .tup [], [], o.looksAt ops, []⟩]) K
    | none => False

/-- What an item says of its operation, at the state that it met. -/
def ItOk (P : Program) (ops : Array Oper) (nx i : Nat) (o : Oper) (s : ES) (x : It) : Prop :=
  x.dst = o.dst ∧ x.looks = o.looksAt ops ∧
  ((wantedV ops o s.1 = some true ∧ OpAt P (nx + 1024 * i) o x.rd s.1 s.2 ⟨x.v, x.ups⟩) ∨ (wantedV ops o s.1 = some false ∧ x.v = .tup [] ∧ x.ups = []))

def foldI (l : List It) (s : ES) : ES := foldS (l.map fun x => (true, x)) s
theorem foldI_snoc (l : List It) (x : It) (s : ES) : foldI (l ++ [x]) s = x.app (foldI l s) := by
  have : ∀ (l : List (Bool × It)) (s : ES), foldS (l ++ [(true, x)]) s = x.app (foldS l s) := by
    intro l
    induction l with
    | nil => intro s; rfl
    | cons y l ih => intro s; obtain ⟨b, y⟩ := y; simp only [List.cons_append, foldS]; exact ih _
  simp only [foldI, List.map_append, List.map_cons, List.map_nil]
  exact this _ _

theorem runD_items {P : Program} {ops : Array Oper} {nx : Nat} {K : List It → (Nat → VV) → St → Prop} {s0 : ES} : ∀ (l : List Oper) (i : Nat) {env : Nat → VV} {st : St} {acc : List It}, ops.toList.drop i = l → i + l.length = ops.size → acc.length = i → foldI acc s0 = (env, st) →
    (∀ (j : Nat) (x : It), acc[j]? = some x → ∃ o, ops[j]? = some o ∧ ItOk P ops nx j o (foldI (acc.take j) s0) x) → runD P ops nx i l env st acc K →
    ∃ its : List It, its.length = ops.size ∧ (∀ (j : Nat) (x : It), its[j]? = some x → ∃ o, ops[j]? = some o ∧ ItOk P ops nx j o (foldI (its.take j) s0) x) ∧ K its (foldI its s0).1 (foldI its s0).2
  | [], i, env, st, acc, hd, hl, ha, hf, hok, h => by
    simp only [List.length_nil, Nat.add_zero] at hl
    exact ⟨acc, by omega, hok, by rw [hf]; exact h⟩
  | o :: l, i, env, st, acc, hd, hl, ha, hf, hok, h => by
    have hoi : ops[i]? = some o := by
      have : (ops.toList.drop i)[0]? = some o := by rw [hd]; rfl
      simpa using this
    have hnext : ops.toList.drop (i + 1) = l := by
      have : (ops.toList.drop i).drop 1 = l := by rw [hd]; rfl
      simpa [List.drop_drop] using this
    simp only [List.length_cons] at hl
    have step : ∀ x : It, ItOk P ops nx i o (env, st) x → runD P ops nx (i + 1) l (x.app (env, st)).1 (x.app (env, st)).2 (acc ++ [x]) K →
        ∃ its : List It, its.length = ops.size ∧ (∀ (j : Nat) (x : It), its[j]? = some x → ∃ o, ops[j]? = some o ∧ ItOk P ops nx j o (foldI (its.take j) s0) x) ∧ K its (foldI its s0).1 (foldI its s0).2 := by
      intro x hx hr
      refine runD_items l (i + 1) hnext (by omega) (by simp [ha]) (by rw [foldI_snoc, hf]) (fun j y hj => ?_) hr
      by_cases hji : j < i
      · rw [List.getElem?_append_left (by omega)] at hj
        obtain ⟨o', h1, h2⟩ := hok j y hj
        exact ⟨o', h1, by rw [List.take_append_of_le_length (by omega)]; exact h2⟩
      · have hj2 := lt_of_getl hj
        simp at hj2
        have : j = i := by omega
        subst this
        rw [List.getElem?_append_right (by omega)] at hj
        simp only [ha, Nat.sub_self, List.getElem?_cons_zero, Option.some.injEq] at hj
        subst hj
        refine ⟨o, hoi, ?_⟩
        rw [List.take_append_of_le_length (by omega), List.take_of_length_le (by omega), hf]
        exact hx
    simp only [runD] at h
    split at h
    · rename_i hw
      obtain ⟨e, rd, h1, h2⟩ := h
      exact step ⟨o.dst, e.v, e.ups, o.looksAt ops, rd⟩ ⟨rfl, rfl, .inl ⟨hw, h1⟩⟩ h2
    · rename_i hw
      exact step ⟨o.dst, .tup [], [], o.looksAt ops, []⟩ ⟨rfl, rfl, .inr ⟨hw, rfl, rfl⟩⟩ h
    · exact h.elim

end Go.VM
