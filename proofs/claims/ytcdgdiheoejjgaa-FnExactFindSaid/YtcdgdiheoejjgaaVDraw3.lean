/- Regions whose order is left open: what is done ahead of what, and the rule itself. -/
import Derived.Test.YtcdgdiheoejjgaaVDraw2
namespace Go.VM
set_option linter.unusedSimpArgs false
set_option linter.unusedVariables false

def closeL (acc : List (List Nat)) (o : Oper) : List Nat := ((o.after.toList.filter fun e => Region.binds .any e).flatMap fun e => e.on :: acc.getD e.on []).eraseDups
/-- Of each operation, all that are ahead of it in every order. -/
def precs : List Oper → List (List Nat) → List (List Nat)
  | [], acc => acc
  | o :: l, acc => precs l (acc ++ [closeL acc o])

/-- What is ahead of an operation that is listed is listed. -/
def Closed (ops : Array Oper) (L : Array Bool) : Prop := ∀ (j : Nat) (o : Oper), ops[j]? = some o → L.getD j false = true → ∀ e ∈ o.after, Region.binds .any e = true → L.getD e.on false = true

def Ahead (ops : Array Oper) (L : Array Bool) (j : Nat) : Prop := ∀ o, ops[j]? = some o → ∀ e ∈ o.after, Region.binds .any e = true → L.getD e.on false = true

theorem precs_sound {ops : Array Oper} {L : Array Bool} (hc : Closed ops L) : ∀ (l : List Oper) (acc : List (List Nat)), ops.toList.drop acc.length = l →
    (∀ (j i : Nat), j < acc.length → i ∈ acc.getD j [] → Ahead ops L j → L.getD i false = true) → ∀ (j i : Nat), i ∈ (precs l acc).getD j [] → Ahead ops L j → L.getD i false = true
  | [], acc, hd, h, j, i, hi, ha => by
    simp only [precs] at hi
    by_cases hj : j < acc.length
    · exact h j i hj hi ha
    · rw [List.getD_eq_getElem?_getD, List.getElem?_eq_none (by omega)] at hi
      simp at hi
  | o :: l, acc, hd, h, j, i, hi, ha => by
    have hoi : ops[acc.length]? = some o := by
      have : (ops.toList.drop acc.length)[0]? = some o := by rw [hd]; rfl
      simpa using this
    simp only [precs] at hi
    refine precs_sound hc l (acc ++ [closeL acc o]) ?_ ?_ j i hi ha
    · have : (ops.toList.drop acc.length).drop 1 = l := by rw [hd]; rfl
      simpa [List.drop_drop] using this
    · intro j i hj hi ha
      simp only [List.length_append, List.length_cons, List.length_nil] at hj
      by_cases hj' : j < acc.length
      · rw [List.getD_eq_getElem?_getD, List.getElem?_append_left hj', ← List.getD_eq_getElem?_getD] at hi
        exact h j i hj' hi ha
      · have : j = acc.length := by omega
        subst this
        rw [List.getD_eq_getElem?_getD, List.getElem?_append_right (by omega)] at hi
        simp only [Nat.sub_self, List.getElem?_cons_zero, Option.getD_some, closeL, List.mem_eraseDups, List.mem_flatMap, List.mem_filter, Array.mem_toList_iff, List.mem_cons] at hi
        obtain ⟨e, ⟨he, hb⟩, hi⟩ := hi
        have hL := ha o hoi e he hb
        rcases hi with rfl | hi
        · exact hL
        · by_cases hlt : e.on < acc.length
          · exact h e.on i hlt hi (fun o' ho' => hc e.on o' ho' hL)
          · rw [List.getD_eq_getElem?_getD, List.getElem?_eq_none (by omega)] at hi
            simp at hi

end Go.VM
