/- Regions whose order is left open: an operation that may go next does what it did in the order of the text. -/
import Derived.Test.YtcdgdiheoejjgaaVDraw3
namespace Go.VM
set_option linter.unusedSimpArgs false
set_option linter.unusedVariables false

def pairsOk (pre : List (List Nat)) (its : List It) : Bool :=
  (List.range its.length).all fun j => (List.range j).all fun i => (pre.getD j []).contains i || (match its[i]?, its[j]? with | some x, some y => sepIt x y | _, _ => false)

def edgesOk (ops : Array Oper) : Bool := ops.toList.zipIdx.all fun p => p.1.after.toList.all fun e => !Region.binds .any e || decide (e.on < p.2)

def marks (L : Array Bool) (its : List It) : List (Bool × It) := its.zipIdx.map fun p => (L.getD p.2 false, p.1)

theorem marks_get (L : Array Bool) (its : List It) (j : Nat) : (marks L its)[j]? = (its[j]?).map fun x => (L.getD j false, x) := by
  simp [marks, List.getElem?_map, List.getElem?_zipIdx]
  cases its[j]? <;> rfl
theorem marks_length (L : Array Bool) (its : List It) : (marks L its).length = its.length := by simp [marks]
theorem marks_snd (L : Array Bool) (its : List It) : (marks L its).map (·.2) = its := by
  refine List.ext_getElem? (fun j => ?_)
  rw [List.getElem?_map, marks_get]
  cases its[j]? <;> rfl

theorem foldS_append : ∀ (a b : List (Bool × It)) (s : ES), foldS (a ++ b) s = foldS b (foldS a s)
  | [], b, s => rfl
  | (m, x) :: a, b, s => by simp only [List.cons_append, foldS]; exact foldS_append a b _
theorem foldS_false : ∀ (l : List It) (s : ES), foldS (l.map fun x => (false, x)) s = s
  | [], s => rfl
  | x :: l, s => by simp only [List.map_cons, foldS, Bool.false_eq_true, if_false]; exact foldS_false l s

/-- The first 'i' are marked. -/
def firsts (i : Nat) (its : List It) : List (Bool × It) := (its.take i).map (fun x => (true, x)) ++ (its.drop i).map (fun x => (false, x))
theorem firsts_fold (i : Nat) (its : List It) (s : ES) : foldS (firsts i its) s = foldI (its.take i) s := by
  rw [firsts, foldS_append, foldS_false]; rfl
theorem firsts_snd (i : Nat) (its : List It) : (firsts i its).map (·.2) = its := by
  simp [firsts, List.map_map, Function.comp_def]
theorem firsts_get {i j : Nat} {its : List It} {y : Bool × It} (h : (firsts i its)[j]? = some y) : y.1 = decide (j < i) ∧ its[j]? = some y.2 := by
  have h2 : its[j]? = some y.2 := by
    have := congrArg (fun l => l[j]?) (firsts_snd i its)
    simp only [List.getElem?_map, h, Option.map_some] at this
    exact this.symm
  refine ⟨?_, h2⟩
  have hj := lt_of_getl h2
  simp only [firsts] at h
  by_cases hji : j < i
  · rw [List.getElem?_append_left (by simp; omega), List.getElem?_map] at h
    obtain ⟨x, _, rfl⟩ := Option.map_eq_some_iff.1 h
    simp [hji]
  · rw [List.getElem?_append_right (by simp; omega), List.getElem?_map] at h
    obtain ⟨x, _, rfl⟩ := Option.map_eq_some_iff.1 h
    simp [hji]

theorem sep_of {ops : Array Oper} {L : Array Bool} {its : List It} (hc : Closed ops L) (hp : pairsOk (precs ops.toList []) its = true) {i j : Nat} {x y : It} (hi : its[i]? = some x) (hj : its[j]? = some y) (hL : L.getD i false = false) (ha : Ahead ops L i)
    (hd : (j < i ∧ L.getD j false = false) ∨ (i < j ∧ L.getD j false = true)) : Sep y x := by
  have all : ∀ a b x y, its[a]? = some x → its[b]? = some y → a < b → a ∈ (precs ops.toList []).getD b [] ∨ Sep x y := by
    intro a b x y h1 h2 hab
    have hb := lt_of_getl h2
    have := List.all_eq_true.1 (List.all_eq_true.1 hp b (List.mem_range.2 hb)) a (List.mem_range.2 hab)
    simp only [Bool.or_eq_true, h1, h2] at this
    rcases this with h | h
    · exact .inl (by simpa using h)
    · exact .inr (sepIt_sep h)
  have snd := precs_sound hc ops.toList [] (by simp) (fun j i h => by simp at h)
  rcases hd with ⟨h1, h2⟩ | ⟨h1, h2⟩
  · rcases all j i y x hj hi h1 with h | h
    · rw [snd i j h ha] at h2; cases h2
    · exact h
  · rcases all i j x y hi hj h1 with h | h
    · rw [snd j i h (fun o ho => hc j o ho h2)] at hL; cases hL
    · exact h.symm

theorem sees {ops : Array Oper} {L : Array Bool} {its : List It} {s0 : ES} (hc : Closed ops L) (hp : pairsOk (precs ops.toList []) its = true) {i : Nat} {x : It} (hi : its[i]? = some x) (hL : L.getD i false = false) (ha : Ahead ops L i) :
    (∀ t ∈ x.looks, (foldS (marks L its) s0).1 t = (foldI (its.take i) s0).1 t) ∧ (∀ r ∈ x.rd, (foldS (marks L its) s0).2 r = (foldI (its.take i) s0).2 r) := by
  have key : ∀ (j : Nat) (y z : Bool × It), (marks L its)[j]? = some y → (firsts i its)[j]? = some z → y.1 ≠ z.1 → Sep y.2 x := by
    intro j y z hy hz hne
    rw [marks_get] at hy
    obtain ⟨y', h1, rfl⟩ := Option.map_eq_some_iff.1 hy
    obtain ⟨h2, h3⟩ := firsts_get hz
    rw [h2] at hne
    simp only [ne_eq] at hne
    refine sep_of hc hp hi h1 hL ha ?_
    by_cases hji : j < i
    · refine .inl ⟨hji, ?_⟩
      cases hLj : L.getD j false with
      | false => rfl
      | true => rw [hLj] at hne; simp [hji] at hne
    · have hLj : L.getD j false = true := by
        cases hLj : L.getD j false with
        | true => rfl
        | false => rw [hLj] at hne; simp [hji] at hne
      have : j ≠ i := fun e => by rw [e, hL] at hLj; cases hLj
      exact .inr ⟨by omega, hLj⟩
  refine ⟨fun t ht => ?_, fun r hr => ?_⟩
  · rw [← firsts_fold]
    exact foldS_env (by rw [marks_snd, firsts_snd]) rfl (fun j y z hy hz hne e => (key j y z hy hz hne).d1 t e ht)
  · rw [← firsts_fold]
    exact foldS_st (by rw [marks_snd, firsts_snd]) rfl (fun j y z hy hz hne e => (key j y z hy hz hne).r1 r e hr)

theorem marks_set {ops : Array Oper} {L : Array Bool} {its : List It} {s0 : ES} (hc : Closed ops L) (hp : pairsOk (precs ops.toList []) its = true) {i : Nat} {x : It} (hi : its[i]? = some x) (hL : L.getD i false = false) (ha : Ahead ops L i) (hsz : i < L.size) :
    foldS (marks (L.setIfInBounds i true) its) s0 = x.app (foldS (marks L its) s0) := by
  have hlt := lt_of_getl hi
  have split : ∀ (M : Array Bool), marks M its = (marks M its).take i ++ (M.getD i false, x) :: (marks M its).drop (i + 1) := by
    intro M
    have hget : (marks M its)[i]? = some (M.getD i false, x) := by rw [marks_get, hi]; rfl
    have h1 : (marks M its).drop i = (M.getD i false, x) :: (marks M its).drop (i + 1) := by
      rw [List.drop_eq_getElem_cons (by rw [marks_length]; exact hlt)]
      congr 1
      rw [List.getElem?_eq_getElem (by rw [marks_length]; exact hlt)] at hget
      simpa using hget
    rw [← h1, List.take_append_drop]
  have ne : ∀ j, j ≠ i → (L.setIfInBounds i true).getD j false = L.getD j false := fun j hj => by
    simp only [Array.getD_eq_getD_getElem?]; rw [Array.getElem?_setIfInBounds_ne (fun e => hj e.symm)]
  have h1 : (marks (L.setIfInBounds i true) its).take i = (marks L its).take i := by
    refine List.ext_getElem? (fun j => ?_)
    rw [List.getElem?_take, List.getElem?_take]
    split
    · rw [marks_get, marks_get, ne j (by omega)]
    · rfl
  have h2 : (marks (L.setIfInBounds i true) its).drop (i + 1) = (marks L its).drop (i + 1) := by
    refine List.ext_getElem? (fun j => ?_)
    rw [List.getElem?_drop, List.getElem?_drop, marks_get, marks_get, ne _ (by omega)]
  have h3 : (L.setIfInBounds i true).getD i false = true := by
    rw [Array.getD_eq_getD_getElem?, Array.getElem?_setIfInBounds_self_of_lt hsz]; rfl
  rw [split (L.setIfInBounds i true), split L, h1, h2, h3, hL, foldS_append, foldS_append]
  simp only [foldS, if_true, Bool.false_eq_true, if_false]
  refine foldS_last (fun y hy hm => ?_)
  obtain ⟨j, hj⟩ := List.mem_iff_getElem?.1 hy
  rw [List.getElem?_drop, marks_get] at hj
  obtain ⟨y', h4, rfl⟩ := Option.map_eq_some_iff.1 hj
  exact (sep_of hc hp hi h4 hL ha (.inr ⟨by omega, hm⟩)).symm

end Go.VM
