/- Regions whose order is left open: the rule. -/
import Derived.Test.YtcdgdiheoejjgaaVDraw4
namespace Go.VM
set_option linter.unusedSimpArgs false
set_option linter.unusedVariables false

def unl (n : Nat) (L : Array Bool) : List Nat := (List.range n).filter fun j => !L.getD j false

theorem unl_set {n i : Nat} {L : Array Bool} (hi : i < n) (hL : L.getD i false = false) (hs : i < L.size) : (unl n (L.setIfInBounds i true)).length < (unl n L).length := by
  have h1 : unl n (L.setIfInBounds i true) = (unl n L).filter (fun j => decide (j ≠ i)) := by
    simp only [unl, List.filter_filter]
    refine List.filter_congr (fun j _ => ?_)
    by_cases e : j = i
    · subst e
      rw [Array.getD_eq_getD_getElem?, Array.getElem?_setIfInBounds_self_of_lt hs]; simp
    · rw [Array.getD_eq_getD_getElem?, Array.getElem?_setIfInBounds_ne (fun h => e h.symm), ← Array.getD_eq_getD_getElem?]; simp [e]
  rw [h1]
  refine List.length_filter_lt_length_iff_exists.2 ⟨i, ?_, by simp⟩
  simp only [unl, List.mem_filter, List.mem_range]
  exact ⟨hi, by simp only [hL]; rfl⟩

theorem all_listed {n : Nat} {L : Array Bool} (h : (unl n L).length = 0) : ∀ j, j < n → L.getD j false = true := by
  intro j hj
  have : unl n L = [] := List.eq_nil_of_length_eq_zero h
  simp only [unl, List.filter_eq_nil_iff, List.mem_range] at this
  simpa using this j hj

theorem ready_some {ops : Array Oper} {L : Array Bool} (he : edgesOk ops = true) (hs : L.size = ops.size) (h : Region.ready .any ops L = []) : ∀ j, j < ops.size → L.getD j false = true := by
  intro j
  induction j using Nat.strongRecOn with
  | _ j ih =>
    intro hj
    cases hL : L.getD j false with
    | true => rfl
    | false =>
      exfalso
      have : j ∈ Region.ready .any ops L := by
        rw [mem_ready]
        refine ⟨?_, ops[j], Array.getElem?_eq_getElem hj, fun e hm hb => ?_⟩
        · rw [Array.getD_eq_getD_getElem?, Array.getElem?_eq_getElem (by omega)] at hL ⊢
          simpa using hL
        · have := List.all_eq_true.1 he (ops[j], j) (List.mem_zipIdx_iff_getElem?.2 (by simp [Array.getElem?_eq_getElem hj]))
          have := List.all_eq_true.1 this e (by simpa using hm)
          simp only [hb, Bool.not_true, Bool.false_or, decide_eq_true_eq] at this
          exact ih e.on this (by omega)
      rw [h] at this
      cases this

end Go.VM
