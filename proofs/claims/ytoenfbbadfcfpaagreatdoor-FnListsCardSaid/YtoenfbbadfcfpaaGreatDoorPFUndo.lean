/- Plain law: lists of items that are right, told by the names of their paths; what an op makes of such a list is such a list. Plain law: no text of a drawn volume holds a 'w' or a 't'. SameItems of both, and its law. Plain law: what was made, put, got, moved there and back and dropped in a right list without 'w' and 't' is as it was. -/
import Derived.Test.YtoenfbbadfcfpaaGreatDoorPFTree
import Derived.Test.YtoenfbbadfcfpaaGreatDoorPFPlainI
import Derived.Test.YtoenfbbadfcfpaaGreatDoorPFItem2
import Derived.Test.YtoenfbbadfcfpaaGreatDoorPFDone
import Derived.Test.YtoenfbbadfcfpaaGreatDoorPFItemsOk
set_option linter.unusedSimpArgs false
set_option linter.unusedVariables false
namespace Go.Proofs.YtoenfbbadfcfpaaGreatDoor
open Go.VM Go
set_option maxRecDepth 100000
theorem jn_glue (A : ByteArray) : ∀ (t : List ByteArray) (a : ByteArray), ∃ r, jn (A ++ ⟨#[47]⟩ ++ a) t = A ++ ⟨#[47]⟩ ++ r
  | [], a => ⟨a, rfl⟩
  | x :: t, a => by
    obtain ⟨r, hr⟩ := jn_glue A t (a ++ ⟨#[47]⟩ ++ x)
    refine ⟨r, ?_⟩
    rw [jn, ← hr]
    simp only [app_assoc]
theorem jn_app (acc : ByteArray) : ∀ xs ys : List ByteArray, jn acc (xs ++ ys) = jn (jn acc xs) ys
  | xs, ys => by
    induction xs generalizing acc with
    | nil => rfl
    | cons x xs ih => rw [List.cons_append, jn, jn, ih]
theorem under_of {p q : ByteArray} (hp : pathOk p = true) (hq : pathOk q = true) (h : namesZ q <+: namesZ p) : underB p q = true := by
  obtain ⟨t, h⟩ := h
  unfold underB
  rw [hp, hq, Bool.true_and, Bool.true_and]
  by_cases h0 : q = ⟨#[]⟩
  · rw [decide_eq_true h0]; rfl
  cases t with
  | nil =>
    rw [List.append_nil] at h
    rw [decide_eq_true (namesZ_inj h.symm), Bool.true_or, Bool.or_true]
  | cons a t =>
    have hp0 : p ≠ ⟨#[]⟩ := fun e => by
      subst e
      rw [show namesZ ⟨#[]⟩ = [] from rfl] at h
      have := congrArg List.length h
      simp at this
    have e1 : namesZ q = names q := by unfold namesZ; rw [if_neg h0]
    have e2 : namesZ p = names p := by unfold namesZ; rw [if_neg hp0]
    rw [e1, e2] at h
    have hj := names_join p
    rw [← h] at hj
    obtain ⟨y, ys, hy⟩ : ∃ y ys, names q = y :: ys := by
      cases e : names q with
      | nil => have := names_len q; rw [e] at this; simp at this
      | cons y ys => exact ⟨y, ys, rfl⟩
    have hjq := names_join q
    rw [hy] at hj hjq
    rw [List.cons_append, joinF, jn_app] at hj
    rw [joinF] at hjq
    rw [hjq, jn] at hj
    obtain ⟨r, hr⟩ := jn_glue q t a
    rw [hr] at hj
    have hpre : preB p q = true := by
      rw [pre_iff, ← hj]
      have hs : (q ++ ⟨#[47]⟩ ++ r).size = q.size + 1 + r.size := by rw [add_size, add_size]; rfl
      have hb : (q ++ ⟨#[47]⟩ ++ r).extract 0 (q.size + 1) = q ++ ⟨#[47]⟩ := by
        refine ba_eq ?_
        rw [head_bytes, add_bytes]
        have : (q ++ ⟨#[47]⟩ : ByteArray).data.toList.length = q.size + 1 := by rw [bs_len, add_size]; rfl
        rw [← this, List.take_left]
      rw [hb, decide_eq_true rfl, decide_eq_true (by rw [hs]; omega)]; rfl
    rw [hpre, Bool.or_true, Bool.or_true]
theorem under_names {p q : ByteArray} (h : underB p q = true) : pathOk p = true ∧ pathOk q = true ∧ namesZ q <+: namesZ p := by
  by_cases h0 : q = ⟨#[]⟩
  · subst h0
    unfold underB at h
    simp only [Bool.and_eq_true] at h
    exact ⟨h.1, h.2.1, List.nil_prefix⟩
  · obtain ⟨h1, h2, h3⟩ := under_cut h h0
    refine ⟨h1, h2, ?_⟩
    rcases h3 with rfl | ⟨r, rfl, _⟩
    · exact List.prefix_refl _
    · have e1 : namesZ q = names q := by unfold namesZ; rw [if_neg h0]
      have hne : q ++ ⟨#[47]⟩ ++ r ≠ ⟨#[]⟩ := fun e => by
        have := congrArg ByteArray.size e
        rw [add_size, add_size] at this
        have h0 : (⟨#[]⟩ : ByteArray).size = 0 := rfl
        have h1 : (⟨#[47]⟩ : ByteArray).size = 1 := rfl
        omega
      have e2 : namesZ (q ++ ⟨#[47]⟩ ++ r) = names (q ++ ⟨#[47]⟩ ++ r) := by unfold namesZ; rw [if_neg hne]
      rw [e1, e2, names_glue]
      exact List.prefix_append _ _
theorem under_iff {p q : ByteArray} (hp : pathOk p = true) (hq : pathOk q = true) : underB p q = true ↔ namesZ q <+: namesZ p :=
  ⟨fun h => (under_names h).2.2, under_of hp hq⟩
theorem namesZ_ne {p : ByteArray} (h : p ≠ ⟨#[]⟩) : namesZ p ≠ [] := fun e => h (namesZ_inj (t := ⟨#[]⟩) e)
theorem split_of {p : ByteArray} (hp : pathOk p = true) (h0 : p ≠ ⟨#[]⟩) : (splitF p).2.2 = true := by
  unfold splitF
  rw [if_neg (by rintro (e | e); exact h0 e; rw [hp] at e; cases e)]
  split <;> rfl
theorem split_up {p : ByteArray} (hp : pathOk p = true) (h0 : p ≠ ⟨#[]⟩) : namesZ (splitF p).1 = (namesZ p).dropLast := by
  have := (split_names (split_of hp h0)).2.1
  rw [this, List.dropLast_concat]
theorem split_upE {p : ByteArray} (hp : pathOk p = true) (h0 : p ≠ ⟨#[]⟩) (q : ByteArray) : (splitF p).1 = q ↔ namesZ q = (namesZ p).dropLast := by
  rw [← split_up hp h0]
  exact ⟨fun e => by rw [e], fun e => (namesZ_inj e).symm⟩
/-- The new names of what is moved. -/
def movN (Q T N : List ByteArray) : List ByteArray := if Q <+: N then T ++ N.drop Q.length else N
theorem moved_names {o : OpV} {p : ByteArray} (hp : pathOk p = true) (hq : pathOk o.path = true) (hq0 : o.path ≠ ⟨#[]⟩) (ht0 : o.to ≠ ⟨#[]⟩) : namesZ (movedP o p) = movN (namesZ o.path) (namesZ o.to) (namesZ p) := by
  unfold movedP movN
  by_cases hu : underB p o.path = true
  · rw [if_pos hu, if_pos ((under_iff hp hq).1 hu)]
    obtain ⟨_, _, h3⟩ := under_cut hu hq0
    rcases h3 with e | ⟨r, e, e2⟩
    · rw [e, List.drop_length, List.append_nil]
      have e : o.path.extract o.path.size o.path.size = ⟨#[]⟩ := size0.2 (by rw [ByteArray.size_extract]; omega)
      rw [e, app_nil]
    · rw [e2, ← app_assoc]
      have hne : ∀ (a : ByteArray), a ++ ⟨#[47]⟩ ++ r ≠ ⟨#[]⟩ := fun a e => by
        have := congrArg ByteArray.size e
        rw [add_size, add_size] at this
        have h0 : (⟨#[]⟩ : ByteArray).size = 0 := rfl
        have h1 : (⟨#[47]⟩ : ByteArray).size = 1 := rfl
        omega
      have ez : ∀ a : ByteArray, a ≠ ⟨#[]⟩ → namesZ (a ++ ⟨#[47]⟩ ++ r) = namesZ a ++ names r := fun a ha => by
        unfold namesZ
        rw [if_neg (hne a), if_neg ha, names_glue]
      rw [ez _ ht0]
      congr 1
      rw [e, ez _ hq0, List.drop_left]
  · rw [if_neg hu, if_neg (fun h => hu ((under_iff hp hq).2 h))]
/-! ### lists that are right -/
structure OkN (L : List It3) : Prop where
  len : L.length ≤ 11
  pth : ∀ x ∈ L, pathOk x.1 = true ∧ x.1 ≠ ⟨#[]⟩
  data : ∀ x ∈ L, x.2.2.size ≤ 60 ∧ (x.2.1 = true → x.2.2 = ⟨#[]⟩)
  up : ∀ x ∈ L, (namesZ x.1).dropLast = [] ∨ ∃ y ∈ L, namesZ y.1 = (namesZ x.1).dropLast ∧ y.2.1 = true
  apart : (L.map (·.1)).Nodup
theorem apart_pw {L : List It3} : (L.map (·.1)).Nodup ↔ L.Pairwise (fun x y => x.1 ≠ y.1) := by
  unfold List.Nodup
  rw [List.pairwise_map]
theorem okN_items {L : List It3} (h : OkN L) : itemsOk L = true := by
  refine itemsOk_of h.len (fun x hx => split_of (h.pth x hx).1 (h.pth x hx).2) h.data (fun x hx => ?_) (apart_pw.1 h.apart)
  obtain ⟨h1, h2⟩ := h.pth x hx
  rcases h.up x hx with e | ⟨y, hy, e, hd⟩
  · exact .inl ((split_upE h1 h2 _).2 (by rw [e]; rfl))
  · exact .inr ⟨y, hy, ((split_upE h1 h2 _).2 e).symm, hd⟩
theorem find_none {l : List It3} {q : ByteArray} : findF l q < 0 ↔ ∀ x ∈ l, x.1 ≠ q := by
  rw [← Int.not_le]
  constructor
  · intro h x hx e
    apply h
    have := idxOf_any (hasPath q) l 0
    have ha : l.any (hasPath q) = true := List.any_eq_true.2 ⟨x, hx, decide_eq_true e⟩
    unfold findF
    rcases idxOf_at (hasPath q) l 0 with e1 | ⟨j, z, e1, _⟩
    · rw [e1] at this
      rw [ha] at this
      exact absurd this (by decide)
    · rw [e1]; omega
  · intro h h0
    obtain ⟨j, x, _, hx, e⟩ := find_hit (q := q) rfl h0
    exact h x (List.mem_of_getElem? hx) e
theorem fold_zero {l : List It3} {q : ByteArray} (h : foldF l q = 0) : q = ⟨#[]⟩ ∨ ∃ y ∈ l, y.1 = q ∧ y.2.1 = true := by
  unfold foldF at h
  split at h
  · rename_i e; exact .inl e
  split at h
  · cases h
  split at h
  · rename_i h0 h1 h2
    obtain ⟨j, x, e, hx, e2⟩ := find_hit (q := q) rfl (Int.not_lt.1 h1)
    rw [e] at h2
    refine .inr ⟨x, List.mem_of_getElem? hx, e2, ?_⟩
    unfold dirAt at h2
    rw [show ((j : Int)).toNat = j from rfl, hx] at h2
    exact h2
  · cases h
theorem itemsOk_N {L : List It3} (h : itemsOk L = true) : OkN L := by
  obtain ⟨h1, h2⟩ := itemsOk_at h
  have hm : ∀ x ∈ L, pathOk x.1 = true ∧ x.1 ≠ ⟨#[]⟩ := fun x hx => by
    obtain ⟨j, hj⟩ := List.getElem?_of_mem hx
    exact splitF_ok (h2 j x hj).1
  refine ⟨h1, hm, fun x hx => ?_, fun x hx => ?_, ?_⟩
  · obtain ⟨j, hj⟩ := List.getElem?_of_mem hx
    exact ⟨(h2 j x hj).2.1, (h2 j x hj).2.2.1⟩
  · obtain ⟨j, hj⟩ := List.getElem?_of_mem hx
    have hf := (h2 j x hj).2.2.2.2
    obtain ⟨p1, p2⟩ := hm x hx
    have hf0 : foldF L (splitF x.1).1 = 0 := by
      rw [fold_iff]
      unfold thereB
      unfold isFold at hf
      simp only [Bool.or_eq_true, Bool.and_eq_true] at hf
      have : (decide ((splitF x.1).1 = ⟨#[]⟩) || decide (0 ≤ findF L (splitF x.1).1)) = true := by
        rcases hf with h | h
        · rw [h]; rfl
        · unfold findF; rw [h.1, Bool.or_true]
      rw [if_pos this, if_pos (by unfold isFold; simp only [Bool.or_eq_true, Bool.and_eq_true]; exact hf)]
    rcases fold_zero hf0 with e | ⟨y, hy, e, hd⟩
    · exact .inl (by rw [← (split_upE p1 p2 _).1 e]; rfl)
    · exact .inr ⟨y, hy, (split_upE p1 p2 _).1 e.symm, hd⟩
  · rw [apart_pw, List.pairwise_iff_getElem]
    intro i j hi hj hij e
    have a := (h2 i _ (List.getElem?_eq_getElem hi)).2.2.2.1
    have b := (h2 j _ (List.getElem?_eq_getElem hj)).2.2.2.1
    rw [e, b] at a
    omega
/-- What stands above an item of a list is an item of it. -/
theorem okN_above {L : List It3} (h : OkN L) : ∀ (n : Nat) (x : It3), x ∈ L → (namesZ x.1).length = n → ∀ s, s ≠ [] → s <+: namesZ x.1 → s = namesZ x.1 ∨ ∃ y ∈ L, namesZ y.1 = s ∧ y.2.1 = true
  | 0, x, hx, hn, s, h0, hs => by
    have := hs.length_le
    cases s with
    | nil => exact absurd rfl h0
    | cons a s => simp only [List.length_cons] at this; omega
  | n + 1, x, hx, hn, s, h0, hs => by
    obtain ⟨t, ht⟩ := hs
    by_cases ht0 : t = []
    · subst ht0; rw [List.append_nil] at ht; exact .inl ht
    have hd : (namesZ x.1).dropLast = s ++ t.dropLast := by rw [← ht, List.dropLast_append_of_ne_nil ht0]
    rcases h.up x hx with e | ⟨y, hy, e, hyd⟩
    · rw [e] at hd
      have := congrArg List.length hd
      simp only [List.length_nil, List.length_append] at this
      exact absurd (List.eq_nil_of_length_eq_zero (by omega)) h0
    · have hyl : (namesZ y.1).length = n := by rw [e, List.length_dropLast, hn]; rfl
      rcases okN_above h n y hy hyl s h0 ⟨t.dropLast, by rw [e, hd]⟩ with e2 | h2
      · exact .inr ⟨y, hy, e2.symm, hyd⟩
      · exact .inr h2
/-! ### what the ops make -/
theorem makeL_ok {l : List It3} (h : OkN l) {o : OpV} (ho : pathOk o.path = true) : OkN (makeL l o).1 := by
  unfold makeL
  split
  · exact h
  split
  · exact h
  split
  · exact h
  rename_i h1 h2 h3
  have hp0 : o.path ≠ ⟨#[]⟩ := fun e => h1 (.inl e)
  have hf : ∀ x ∈ l, x.1 ≠ o.path := find_none.1 (Int.not_le.1 (fun h => h1 (.inr h)))
  have h2 : foldF l (splitF o.path).1 = 0 := Classical.not_not.1 h2
  refine ⟨?_, fun x hx => ?_, fun x hx => ?_, fun x hx => ?_, ?_⟩
  · have := h.len
    simp only [List.length_append, List.length_cons, List.length_nil]; omega
  · rcases List.mem_append.1 hx with hx | hx
    · exact h.pth x hx
    · rw [List.mem_singleton] at hx; subst hx; exact ⟨ho, hp0⟩
  · rcases List.mem_append.1 hx with hx | hx
    · exact h.data x hx
    · rw [List.mem_singleton] at hx; subst hx; exact ⟨Nat.zero_le _, fun _ => rfl⟩
  · rcases List.mem_append.1 hx with hx | hx
    · rcases h.up x hx with e | ⟨y, hy, e, hd⟩
      · exact .inl e
      · exact .inr ⟨y, List.mem_append_left _ hy, e, hd⟩
    · rw [List.mem_singleton] at hx; subst hx
      rcases fold_zero h2 with e | ⟨y, hy, e, hd⟩
      · exact .inl (by rw [← split_up ho hp0, e]; rfl)
      · exact .inr ⟨y, List.mem_append_left _ hy, by rw [← split_up ho hp0, e], hd⟩
  · rw [List.map_append, List.nodup_append]
    refine ⟨h.apart, by simp, fun a ha b hb e => ?_⟩
    simp only [List.map_cons, List.map_nil, List.mem_singleton] at hb
    subst hb
    obtain ⟨x, hx, rfl⟩ := List.mem_map.1 ha
    exact hf x hx e
theorem dropL_ok {l : List It3} (h : OkN l) {o : OpV} (ho : pathOk o.path = true) : OkN (dropL l o).1 := by
  unfold dropL
  split
  · exact h
  rename_i h1
  have hp0 : o.path ≠ ⟨#[]⟩ := fun e => h1 (.inl e)
  have hk : ∀ x ∈ l, x.1 ≠ o.path → underB x.1 o.path = false := fun x hx hne => by
    cases hu : underB x.1 o.path
    · rfl
    · exact absurd (.inr (List.any_eq_true.2 ⟨x, hx, by rw [hu, decide_eq_false hne]; rfl⟩)) h1
  have hmem : ∀ x, x ∈ l.filter (fun x => !decide (x.1 = o.path)) ↔ x ∈ l ∧ x.1 ≠ o.path := fun x => by
    rw [List.mem_filter]; simp
  refine ⟨Nat.le_trans (List.length_filter_le _ _) h.len, fun x hx => h.pth x ((hmem x).1 hx).1, fun x hx => h.data x ((hmem x).1 hx).1, fun x hx => ?_, ?_⟩
  · obtain ⟨hx, hne⟩ := (hmem x).1 hx
    rcases h.up x hx with e | ⟨y, hy, e, hd⟩
    · exact .inl e
    · refine .inr ⟨y, (hmem y).2 ⟨hy, fun e2 => ?_⟩, e, hd⟩
      have := hk x hx hne
      rw [under_of (h.pth x hx).1 ho ⟨[(namesZ x.1).getLast (namesZ_ne (h.pth x hx).2)], by rw [← e2, e, List.dropLast_concat_getLast]⟩] at this
      cases this
  · exact (List.Sublist.map _ List.filter_sublist).nodup h.apart
theorem moveG_eq (l : List It3) (o : OpV) : ∀ (r acc : List It3), moveG l o r acc = if (r.all fun x => pathOk (movedP o x.1)) = true then (acc ++ r.map (fun x => (movedP o x.1, x.2)), 0) else (l, 5)
  | [], acc => by simp [moveG]
  | x :: r, acc => by
    rw [moveG]
    by_cases hx : pathOk (movedP o x.1) = true
    · rw [if_pos hx, moveG_eq l o r, List.all_cons, hx, Bool.true_and, List.map_cons, List.append_assoc]; rfl
    · rw [if_neg hx, List.all_cons, Bool.eq_false_iff.2 hx, Bool.false_and]; rfl
theorem pre_drop {Q N1 N2 : List ByteArray} (h1 : Q <+: N1) (h2 : Q <+: N2) (h : N1.drop Q.length = N2.drop Q.length) : N1 = N2 := by
  obtain ⟨t1, rfl⟩ := h1
  obtain ⟨t2, rfl⟩ := h2
  rw [List.drop_left, List.drop_left] at h
  rw [h]
theorem moveL_ok {l : List It3} (h : OkN l) {o : OpV} (ho : pathOk o.path = true) (ht : pathOk o.to = true) : OkN (moveL l o).1 := by
  unfold moveL
  split
  · exact h
  split
  · exact h
  split
  · exact h
  rename_i h1 h2 h3
  rw [moveG_eq]
  split
  case isFalse => exact h
  rename_i hall
  have hq0 : o.path ≠ ⟨#[]⟩ := fun e => h1 (.inl e)
  have ht0 : o.to ≠ ⟨#[]⟩ := fun e => h2 (.inl e)
  have hf : ∀ x ∈ l, x.1 ≠ o.to := find_none.1 (Int.not_le.1 (fun h => h2 (.inr h)))
  have hfN : ∀ x ∈ l, namesZ x.1 ≠ namesZ o.to := fun x hx e => hf x hx (namesZ_inj e)
  have h3 : foldF l (splitF o.to).1 = 0 := Classical.not_not.1 h3
  have hnu : ¬ namesZ o.path <+: namesZ o.to := fun e => h1 (.inr (under_of ht ho e))
  have hall : ∀ x ∈ l, pathOk (movedP o x.1) = true := List.all_eq_true.1 hall
  have hm : ∀ x ∈ l, namesZ (movedP o x.1) = movN (namesZ o.path) (namesZ o.to) (namesZ x.1) := fun x hx => moved_names (h.pth x hx).1 ho hq0 ht0
  have hT := namesZ_ne ht0
  have hN : ∀ x ∈ l, namesZ x.1 ≠ [] := fun x hx => namesZ_ne (h.pth x hx).2
  have hupT : (namesZ o.to).dropLast = [] ∨ ∃ y ∈ l, namesZ y.1 = (namesZ o.to).dropLast ∧ y.2.1 = true := by
    rcases fold_zero h3 with e | ⟨y, hy, e, hd⟩
    · exact .inl (by rw [← split_up ht ht0, e]; rfl)
    · exact .inr ⟨y, hy, by rw [← split_up ht ht0, e], hd⟩
  have hclash : ∀ x ∈ l, ∀ y ∈ l, namesZ o.path <+: namesZ x.1 → ¬ namesZ o.path <+: namesZ y.1 → namesZ o.to ++ (namesZ x.1).drop (namesZ o.path).length ≠ namesZ y.1 := fun x hx y hy hpx hpy e => by
    rcases okN_above h _ y hy rfl (namesZ o.to) hT ⟨_, e⟩ with e2 | ⟨z, hz, e2, _⟩
    · exact hfN y hy e2.symm
    · exact hfN z hz e2
  generalize namesZ o.path = Q at *
  generalize namesZ o.to = T at *
  rw [List.nil_append]
  refine ⟨by rw [List.length_map]; exact h.len, fun x hx => ?_, fun x hx => ?_, fun x hx => ?_, ?_⟩
  · obtain ⟨y, hy, rfl⟩ := List.mem_map.1 hx
    refine ⟨hall y hy, fun e => ?_⟩
    have := hm y hy
    simp only at e
    rw [e, show namesZ ⟨#[]⟩ = [] from rfl] at this
    unfold movN at this
    split at this
    · exact hT (List.append_eq_nil_iff.1 this.symm).1
    · exact hN y hy this.symm
  · obtain ⟨y, hy, rfl⟩ := List.mem_map.1 hx
    exact h.data y hy
  · obtain ⟨y, hy, rfl⟩ := List.mem_map.1 hx
    simp only
    rw [hm y hy]
    have hlift : ∀ z ∈ l, z.2.1 = true → ∀ N, movN Q T (namesZ z.1) = N → ∃ y ∈ l.map (fun x => (movedP o x.1, x.2)), namesZ y.1 = N ∧ y.2.1 = true := fun z hz hd N e =>
      ⟨(movedP o z.1, z.2), List.mem_map_of_mem hz, by rw [← e]; exact hm z hz, hd⟩
    by_cases hp : Q <+: namesZ y.1
    · obtain ⟨r, hr⟩ := hp
      have e1 : movN Q T (namesZ y.1) = T ++ r := by
        unfold movN
        rw [if_pos ⟨r, hr⟩, ← hr, List.drop_left]
      rw [e1]
      by_cases hr0 : r = []
      · subst hr0
        rw [List.append_nil]
        rcases hupT with e | ⟨z, hz, e, hd⟩
        · exact .inl e
        · refine .inr (hlift z hz hd _ ?_)
          unfold movN
          rw [if_neg (fun hq => hnu (hq.trans (by rw [e]; exact List.dropLast_prefix _))), e]
      · rw [List.dropLast_append_of_ne_nil hr0]
        have hQ : Q ≠ [] := fun e => hnu (by rw [e]; exact List.nil_prefix)
        have hd0 : (namesZ y.1).dropLast = Q ++ r.dropLast := by rw [← hr, List.dropLast_append_of_ne_nil hr0]
        rcases h.up y hy with e | ⟨z, hz, e, hd⟩
        · rw [hd0] at e
          exact absurd (List.append_eq_nil_iff.1 e).1 hQ
        · refine .inr (hlift z hz hd _ ?_)
          rw [e, hd0]
          unfold movN
          rw [if_pos (List.prefix_append _ _), List.drop_left]
    · have e1 : movN Q T (namesZ y.1) = namesZ y.1 := by unfold movN; rw [if_neg hp]
      rw [e1]
      rcases h.up y hy with e | ⟨z, hz, e, hd⟩
      · exact .inl e
      · refine .inr (hlift z hz hd _ ?_)
        unfold movN
        rw [if_neg (fun hq => hp (hq.trans (by rw [e]; exact List.dropLast_prefix _))), e]
  · unfold List.Nodup
    rw [List.map_map, List.pairwise_map]
    refine List.Pairwise.imp_of_mem ?_ (apart_pw.1 h.apart)
    intro x y hx hy hne e
    have e := congrArg namesZ e
    simp only [Function.comp] at e
    rw [hm x hx, hm y hy] at e
    apply hne
    refine namesZ_inj ?_
    unfold movN at e
    by_cases hpx : Q <+: namesZ x.1
    · rw [if_pos hpx] at e
      by_cases hpy : Q <+: namesZ y.1
      · rw [if_pos hpy] at e
        exact pre_drop hpx hpy (List.append_cancel_left e)
      · rw [if_neg hpy] at e
        exact absurd e (hclash x hx y hy hpx hpy)
    · rw [if_neg hpx] at e
      by_cases hpy : Q <+: namesZ y.1
      · rw [if_pos hpy] at e
        exact absurd e.symm (hclash y hy x hx hpy hpx)
      · rw [if_neg hpy] at e
        exact e
theorem mem_set_or {l : List It3} {i : Nat} {x z : It3} (hx : l[i]? = some x) {y : It3} (hy : y ∈ l) : y ∈ l.set i z ∨ (y = x ∧ z ∈ l.set i z) := by
  obtain ⟨j, hj⟩ := List.getElem?_of_mem hy
  have hi : i < l.length := (List.getElem?_eq_some_iff.1 hx).1
  by_cases e : i = j
  · subst e
    rw [hx] at hj
    exact .inr ⟨(Option.some.inj hj).symm, List.mem_of_getElem? (i := i) (by rw [List.getElem?_set_self hi])⟩
  · exact .inl (List.mem_of_getElem? (i := j) (by rw [List.getElem?_set_ne e]; exact hj))
theorem putAtL_ok {l : List It3} (h : OkN l) {i : Nat} {s : ByteArray} (hs : s.size ≤ 60) (hd : dirAt l i = false) : OkN (putAtL l i s) := by
  unfold putAtL
  cases hx : l[i]? with
  | none => exact h
  | some x =>
    simp only
    unfold dirAt at hd
    rw [hx] at hd
    simp only at hd
    have hxm := List.mem_of_getElem? hx
    have hmem : ∀ y ∈ l.set i (x.1, x.2.1, s), y ∈ l ∨ y = (x.1, x.2.1, s) := fun y hy => List.mem_or_eq_of_mem_set hy
    refine ⟨by rw [List.length_set]; exact h.len, fun y hy => ?_, fun y hy => ?_, fun y hy => ?_, ?_⟩
    · rcases hmem y hy with h1 | h1
      · exact h.pth y h1
      · rw [h1]; exact h.pth x hxm
    · rcases hmem y hy with h1 | h1
      · exact h.data y h1
      · rw [h1]; exact ⟨hs, fun e => by rw [hd] at e; cases e⟩
    · have hu : (namesZ y.1).dropLast = [] ∨ ∃ z ∈ l, namesZ z.1 = (namesZ y.1).dropLast ∧ z.2.1 = true := by
        rcases hmem y hy with h1 | h1
        · exact h.up y h1
        · rw [h1]; exact h.up x hxm
      rcases hu with e | ⟨z, hz, e, hzd⟩
      · exact .inl e
      · rcases mem_set_or (z := (x.1, x.2.1, s)) hx hz with h1 | ⟨rfl, h1⟩
        · exact .inr ⟨z, h1, e, hzd⟩
        · exact .inr ⟨_, h1, e, hzd⟩
    · have : (l.set i (x.1, x.2.1, s)).map (·.1) = l.map (·.1) := by
        rw [List.map_set]
        refine List.ext_getElem? fun j => ?_
        by_cases e : i = j
        · subst e
          rw [List.getElem?_set_self (by rw [List.length_map]; exact (List.getElem?_eq_some_iff.1 hx).1), List.getElem?_map, hx]; rfl
        · rw [List.getElem?_set_ne e]
      rw [this]; exact h.apart
theorem opOk_parts {o : OpV} (h : opOk o = true) : pathOk o.path = true ∧ o.data.size ≤ 60 ∧ (o.kind = 6 → pathOk o.to = true) ∧ 1 ≤ o.kind ∧ o.kind ≤ 7 := by
  unfold opOk inB at h
  simp only [Bool.and_eq_true, Bool.or_eq_true, decide_eq_true_eq] at h
  obtain ⟨⟨h1, h2⟩, h3, h4, h5⟩ := h
  exact ⟨h3, by omega, fun e => h5.resolve_left (fun hn => hn e), h1, h2⟩
theorem fold_dir {l : List It3} {q : ByteArray} (h0 : foldF l q ≠ 0) (h2 : foldF l q ≠ 2) : q ≠ ⟨#[]⟩ ∧ 0 ≤ findF l q ∧ dirAt l (findF l q).toNat = false := by
  unfold foldF at h0 h2
  split at h0
  · exact absurd rfl h0
  rename_i hq
  rw [if_neg hq] at h2
  split at h0
  · rename_i hl; rw [if_pos hl] at h2; exact absurd rfl h2
  rename_i hl
  split at h0
  · exact absurd rfl h0
  rename_i hd
  exact ⟨hq, by omega, Bool.eq_false_iff.2 hd⟩
theorem plainL_ok {l : List It3} (h : OkN l) (o : OpV) : OkN (plainL l o).1 := by
  unfold plainL
  split
  · exact h
  rename_i h1
  have ho : opOk o = true := by
    cases e : opOk o
    · exact absurd (.inr e) h1
    · rfl
  obtain ⟨o1, o2, o3, _, _⟩ := opOk_parts ho
  split
  · exact makeL_ok h o1
  unfold doL
  split
  · exact h
  split
  · exact dropL_ok h o1
  split
  · exact moveL_ok h o1 (o3 (by assumption))
  split
  · exact h
  split
  · exact h
  split
  · exact h
  rename_i h2 _ _ h5 h7 _
  refine putAtL_ok h o2 (fold_dir (fun e => ?_) h2).2.2
  apply h5
  rw [decide_eq_true e, decide_eq_false h7] at *
  exact absurd trivial (by simp_all)
end Go.Proofs.YtoenfbbadfcfpaaGreatDoor
namespace Go.Proofs.YtoenfbbadfcfpaaGreatDoor
open Go.VM Go
set_option maxRecDepth 100000
/-- A text without 'w' and 't'. -/
def Cl (x : ByteArray) : Prop := ∀ b ∈ x.data.toList, b ≠ 119 ∧ b ≠ 116
instance (x : ByteArray) : Decidable (Cl x) := by unfold Cl; infer_instance
end Go.Proofs.YtoenfbbadfcfpaaGreatDoor
namespace Go.Proofs.YtoenfbbadfcfpaaGreatDoor
open Go.VM
set_option maxRecDepth 100000
attribute [local congr] vw_congr runV_congr runH_congr runW_congr runX_congr stuckV_congr stuckX_congr
def eqV (v x : It3) : Bool := decide (v.1 = x.1) && ((v.2.1 == x.2.1) && decide (v.2.2 = x.2.2))
theorem runs_83 (l : List It3) (v : It3) (hl : l.length < 2 ^ 63) :
    Runs Tryz.prog 83 [.one (.v (.list false 3 (l.map iRow))), .agg [.v (.str v.1), .v (.bool v.2.1), .v (.str v.2.2)]] [.one (.v (.int .i64 (idxOf (eqV v) l 0)))] [] := by
  refine runs_tab (tab := [(0, .c (.list false 3 (l.map iRow))), (1, .agg [.c (.str v.1), .c (.bool v.2.1), .c (.str v.2.2)])]) (rts := []) (n := 19) (k := 4) Tryz.func83 rfl rfl (by simp) rfl (fun t => ?_) rfl ?_
  · rcases t with _ | _ | t <;> rfl
  refine vw_go rfl ?_; simp only [go_sem, setCells, setIn]
  refine vw_seq ?_
  refine vw_go rfl ?_; simp only [go_sem, setCells, setIn]
  refine vw_block ?_
  refine vw_loop_tab (α := Nat) (fun x => l.length - x) (fun x => ⟨tabE [(0, .c (.list false 3 (l.map iRow))), (3, .ptr 4 [] 0 0 0), (7, .c (.int .i64 l.length)), (8, .c (.int .i64 x))], tabS [(4, some ⟨true, 3, [[.str v.1, .bool v.2.1, .str v.2.2]], []⟩)], 5⟩)
    (fun x => x ≤ l.length ∧ idxOf (eqV v) (l.drop x) x = idxOf (eqV v) l 0) (x := 0) ?round ?h0 ?hn
  case h0 => exact ⟨Nat.zero_le _, rfl⟩
  case hn => (refine norm_to [(4, 4)] rfl ?_ ?_ <;> simp only [go_sem])
  rintro i ⟨hi, hm⟩
  refine vw_go rfl ?_; simp only [go_sem, setCells, setIn]
  refine vw_seq ?_
  refine vw_cond (t := decide ((i : Int) < l.length)) rfl (fun h => ?_) (fun h => ?_)
  · refine vw_skip (n_then ?_)
    rcases get_or l i with ⟨x, hx, hlt⟩ | ⟨_, hge⟩
    case inr => simp only [decide_eq_true_eq] at h; omega
    have c1 : (0:Int) ≤ (i:Int) := by omega
    have c2 : (i:Int) < (l.length : Int) := by omega
    rw [drop_of hx] at hm
    refine vw_seq ?_
    refine vw_block ?_
    refine vw_go rfl ?_; simp only [go_sem, setCells, setIn]
    refine vw_draw mixed rfl rfl ?_; simp only [c1, c2, Int.toNat_natCast, getD_map_of hx, iRow, go_sem, setCells, setIn]
    refine ⟨by unfold allOk; kernel_rfl, ?_⟩
    refine vw_cond (t := eqV v x) rfl (fun h => ?_) (fun h => ?_)
    · (refine vw_go rfl ?_; simp only [go_sem, setCells, setIn])
      simp only [idxOf, h, if_true] at hm
      rw [← hm]
      exact vw_ret (r_block (r_then (r_then (r_block (r_then (e_ret (ret_of rfl rfl (by simp [RB]) rfl rfl)))))))
    · refine vw_skip (n_block (n_then ?_))
      have w2 : IntKind.wrap .i64 ((i:Int) + 1) = ((i + 1 : Nat) : Int) := by rw [wrap_i64 (by omega) (by omega)]; rfl
      refine vw_last rfl ?_; simp only [w2, go_sem, setCells, setIn]
      refine (n_then ?_)
      simp only [idxOf, h, Bool.false_eq_true, if_false] at hm
      refine ⟨i + 1, by omega, ⟨hlt, hm⟩, ?_⟩
      refine norm_to [(4, 4)] rfl ?_ ?_ <;> simp only [go_sem]
  · refine vw_exit (x_then (x_then (x_block (n_then ?_))))
    refine vw_go rfl ?_; simp only [go_sem, setCells, setIn]
    simp only [decide_eq_false_iff_not] at h
    have : i = l.length := by omega
    subst this
    simp only [List.drop_length, idxOf] at hm
    rw [← hm]
    exact vw_ret (e_ret (ret_of rfl rfl (by simp [RB]) rfl rfl))
theorem runs_50 (l : List It3) (v : It3) (hl : l.length < 2 ^ 63) :
    Runs Tryz.prog 50 [.one (.v (.list false 3 (l.map iRow))), .agg [.v (.str v.1), .v (.bool v.2.1), .v (.str v.2.2)]] [.one (.v (.bool (l.any (eqV v))))] [] := by
  refine runs_tab (tab := [(0, .c (.list false 3 (l.map iRow))), (1, .agg [.c (.str v.1), .c (.bool v.2.1), .c (.str v.2.2)])]) (rts := []) (n := 9) (k := 4) Tryz.func50 rfl rfl (by simp) rfl (fun t => ?_) rfl ?_
  · rcases t with _ | _ | t <;> rfl
  refine vw_go rfl ?_; simp only [go_sem, setCells, setIn]
  refine vw_go rfl ?_; simp only [go_sem, setCells, setIn]
  refine ⟨_, _, call_rx [0, 0] Tryz.func83 (runs_83 l v hl) rfl rfl rfl rfl rfl rfl rfl (by simp [lendAll, lendC, seek, fresh, nav, rcells, RT.cells, VV.cells, tabE_cons, tabS_cons, ev, take_map_len, iRow_r1, iRow_clean]) rfl (by simp [rcells, RT.cells, CT.clean, T.clean, iRow_r1, iRow_clean]) rfl rfl, ?_⟩
  simp only [runH, runX, go_sem, setCells, setIn]
  rw [← idxOf_any (eqV v) l 0]
  exact vw_ret (e_ret (ret_of rfl rfl (by simp [RB]) rfl rfl))
theorem runs_49 (x : It3) (l : List It3) (hl : l.length < 2 ^ 63) : Runs Tryz.prog 49 [.agg [.v (.str x.1), .v (.bool x.2.1), .v (.str x.2.2)], .one (.ref [.list false 3 (l.map iRow)])] [.one (.v (.bool (!l.any (eqV x))))] [] := by
  refine runs_tab (tab := [(0, .agg [.c (.str x.1), .c (.bool x.2.1), .c (.str x.2.2)]), (1, .rop [.list false 3 (l.map iRow)])]) (rts := []) (n := 8) (k := 4) Tryz.func49 rfl rfl (by simp) rfl (fun t => ?_) rfl ?_
  · rcases t with _ | _ | t <;> rfl
  refine vw_go rfl ?_; simp only [go_sem, setCells, setIn]
  refine vw_go rfl ?_; simp only [go_sem, setCells, setIn]
  refine ⟨_, _, call_rx [0, 0] Tryz.func50 (runs_50 l x hl) rfl rfl rfl rfl rfl rfl rfl (by simp [lendAll, lendC, seek, fresh, nav, rcells, RT.cells, VV.cells, tabE_cons, tabS_cons, ev, take_map_len, iRow_r1, iRow_clean]) rfl (by simp [rcells, RT.cells, CT.clean, T.clean, iRow_r1, iRow_clean]) rfl rfl, ?_⟩
  simp only [runH, runX, go_sem, setCells, setIn]
  exact vw_ret (e_ret (ret_of rfl rfl (by simp [RB]) rfl rfl))
def sameB (a b : List It3) : Bool := decide ((a.length : Int) = b.length) && !a.any (fun x => !b.any (eqV x))
theorem runs_19 (a b : List It3) (ha : a.length < 2 ^ 63) (hb : b.length < 2 ^ 63) :
    Runs Tryz.prog 19 [.one (.v (.list false 3 (a.map iRow))), .one (.v (.list false 3 (b.map iRow)))] [.one (.v (.bool (sameB a b)))] [] := by
  refine runs_tab (tab := [(0, .c (.list false 3 (a.map iRow))), (1, .c (.list false 3 (b.map iRow)))]) (rts := []) (n := 16) (k := 2) Tryz.func19 rfl rfl (by simp) rfl (fun t => ?_) rfl ?_
  · rcases t with _ | _ | t <;> rfl
  refine vw_go rfl ?_; simp only [go_sem, setCells, setIn]
  unfold sameB
  cases hab : decide ((a.length : Int) = b.length)
  · (refine vw_go rfl ?_; simp only [hab, go_sem, setCells, setIn])
    exact vw_ret (e_ret (ret_of rfl rfl (by simp [RB]) rfl rfl))
  · (refine vw_go rfl ?_; simp only [hab, go_sem, setCells, setIn])
    refine ⟨_, _, mk_ok (rows := [[.list false 3 (b.map iRow)]]) (cs := [.ref [.list false 3 (b.map iRow)]]) [2] rfl (by simp [lendAll, lendC, seek, fresh, nav, tabE_cons, tabS_cons, ev, iRow_r1]) rfl rfl, ?_⟩
    simp only [runH, runX, go_sem, setCells, setIn]
    refine ⟨_, _, call_rx [0, 0] Tryz.func48 (runs_48 a ha 49 Tryz.f49 [.list false 3 (b.map iRow)] (fun x => !b.any (eqV x)) Tryz.func49 rfl rfl (fun x _ => runs_49 x b hb)) rfl rfl rfl rfl rfl rfl rfl (by simp [lendAll, lendC, seek, fresh, nav, rcells, RT.cells, VV.cells, tabE_cons, tabS_cons, ev, take_map_len, iRow_r1, iRow_clean]) rfl (by simp [rcells, RT.cells, CT.clean, T.clean, iRow_r1, iRow_clean]) rfl rfl, ?_⟩
    simp only [runH, runX, go_sem, setCells, setIn]
    exact vw_ret (e_ret (ret_of rfl rfl (by simp [RB]) rfl rfl))
theorem runs_24 (a b : List It3) (ha : a.length < 2 ^ 63) (hb : b.length < 2 ^ 63) :
    Runs Tryz.prog 24 [.one (.v (.list false 3 (a.map iRow))), .one (.v (.list false 3 (b.map iRow)))] [.one (.v (.bool (sameB a b)))] [] := by
  refine runs_tab (tab := [(0, .c (.list false 3 (a.map iRow))), (1, .c (.list false 3 (b.map iRow)))]) (rts := []) (n := 39) (k := 2) Tryz.func24 rfl rfl (by simp) rfl (fun t => ?_) rfl ?_
  · rcases t with _ | _ | t <;> rfl
  refine vw_go rfl ?_; simp only [go_sem, setCells, setIn]
  refine vw_seq ?_
  refine vw_go rfl ?_; simp only [go_sem, setCells, setIn]
  refine vw_block ?_
  refine vw_loop_tab (α := Nat) (fun x => a.length - x) (fun x => ⟨tabE [(0, .c (.list false 3 (a.map iRow))), (1, .c (.list false 3 (b.map iRow))), (5, .c (.int .i64 x))], tabS [], 2⟩)
    (fun i => i ≤ a.length ∧ (a.take i).any (fun x => !b.any (eqV x)) = false) (x := 0) ?round ?h0 ?hn
  case h0 => exact ⟨Nat.zero_le _, rfl⟩
  case hn => (refine norm_to [] rfl ?_ ?_ <;> simp only [go_sem])
  rintro i ⟨hi, hm⟩
  refine vw_seq ?_
  refine vw_go rfl ?_; simp only [go_sem, setCells, setIn]
  refine vw_cond (t := decide ((i : Int) < a.length)) rfl (fun h => ?_) (fun h => ?_)
  · refine vw_skip (n_then ?_)
    rcases get_or a i with ⟨x, hx, hlt⟩ | ⟨_, hge⟩
    case inr => simp only [decide_eq_true_eq] at h; omega
    have c1 : (0:Int) ≤ (i:Int) := by omega
    have c2 : (i:Int) < (a.length : Int) := by omega
    refine vw_seq ?_
    refine vw_block ?_
    refine vw_go rfl ?_; simp only [go_sem, setCells, setIn]
    refine vw_seq ?_
    refine vw_go rfl ?_; simp only [go_sem, setCells, setIn]
    refine vw_block ?_
    refine vw_loop_tab (α := Nat) (fun k => b.length - k) (fun k => ⟨tabE [(0, .c (.list false 3 (a.map iRow))), (1, .c (.list false 3 (b.map iRow))), (5, .c (.int .i64 i)), (6, .c (.bool ((b.take k).any (eqV x)))), (7, .c (.int .i64 k))], tabS [], 2⟩)
      (fun k => k ≤ b.length) (x := 0) ?round2 ?h02 ?hn2
    case h02 => exact Nat.zero_le _
    case hn2 =>
      refine norm_to [] rfl ?_ ?_ <;> simp only [go_sem]
      simp
    intro k hk
    refine vw_seq ?_
    refine vw_go rfl ?_; simp only [go_sem, setCells, setIn]
    refine vw_cond (t := decide ((k : Int) < b.length)) rfl (fun h => ?_) (fun h => ?_)
    · refine vw_skip (n_then ?_)
      rcases get_or b k with ⟨y, hy, hlt2⟩ | ⟨_, hge⟩
      case inr => simp only [decide_eq_true_eq] at h; omega
      have c3 : (0:Int) ≤ (k:Int) := by omega
      have c4 : (k:Int) < (b.length : Int) := by omega
      have w2 : IntKind.wrap .i64 ((k:Int) + 1) = ((k + 1 : Nat) : Int) := by rw [wrap_i64 (by omega) (by omega)]; rfl
      have next : (b.take (k + 1)).any (eqV x) = ((b.take k).any (eqV x) || eqV x y) := by
        rw [List.take_add_one, hy, List.any_append]; simp
      refine vw_seq ?_
      refine vw_block ?_
      cases ht : (b.take k).any (eqV x)
      · rw [ht] at next
        refine vw_draw_last mixed rfl rfl ?_; simp only [c1, c2, c3, c4, Int.toNat_natCast, getD_map_of hx, getD_map_of hy, iRow, go_sem, setCells, setIn]
        refine ⟨by unfold allOk; kernel_rfl, n_block (n_then ?_)⟩
        refine vw_last rfl ?_; simp only [w2, go_sem, setCells, setIn]
        refine (n_then ?_)
        refine ⟨k + 1, by omega, hlt2, ?_⟩
        rw [next, Bool.false_or]
        refine norm_to [] rfl ?_ ?_ <;> simp only [go_sem]
        rfl
      · rw [ht] at next
        refine vw_draw_last mixed rfl rfl ?_; simp only [go_sem, setCells, setIn]
        refine ⟨by unfold allOk; kernel_rfl, n_block (n_then ?_)⟩
        refine vw_last rfl ?_; simp only [w2, go_sem, setCells, setIn]
        refine (n_then ?_)
        refine ⟨k + 1, by omega, hlt2, ?_⟩
        rw [next, Bool.true_or]
        refine norm_to [] rfl ?_ ?_ <;> simp only [go_sem]
    · simp only [decide_eq_false_iff_not] at h
      have hk2 : k = b.length := by omega
      subst hk2
      refine vw_exit (x_then (x_then (x_block (n_then ?_))))
      rw [List.take_length]
      refine vw_go rfl ?_; simp only [go_sem, setCells, setIn]
      refine vw_cond (t := !b.any (eqV x)) rfl (fun h => ?_) (fun h => ?_)
      · (refine vw_go rfl ?_; simp only [go_sem, setCells, setIn])
        have : a.any (fun x => !b.any (eqV x)) = true := List.any_eq_true.2 ⟨x, List.mem_of_getElem? hx, h⟩
        rw [show sameB a b = false from by unfold sameB; rw [this]; simp]
        exact vw_ret (r_block (r_then (r_then (r_block (r_then (e_ret (ret_of rfl rfl (by simp [RB]) rfl rfl)))))))
      · refine vw_skip (n_block (n_then ?_))
        have w2 : IntKind.wrap .i64 ((i:Int) + 1) = ((i + 1 : Nat) : Int) := by rw [wrap_i64 (by omega) (by omega)]; rfl
        refine vw_last rfl ?_; simp only [w2, go_sem, setCells, setIn]
        refine (n_then ?_)
        refine ⟨i + 1, by omega, ⟨hlt, ?_⟩, ?_⟩
        · rw [List.take_add_one, hx, List.any_append, hm]; simpa using h
        · (refine norm_to [] rfl ?_ ?_ <;> simp only [go_sem])
  · refine vw_exit (x_then (x_then (x_block (n_then ?_))))
    refine vw_go rfl ?_; simp only [go_sem, setCells, setIn]
    simp only [decide_eq_false_iff_not] at h
    have : i = a.length := by omega
    subst this
    rw [List.take_length] at hm
    rw [show sameB a b = decide ((a.length : Int) = b.length) from by unfold sameB; rw [hm]; simp]
    exact vw_ret (e_ret (ret_of rfl rfl (by simp [RB]) rfl rfl))
end Go.Proofs.YtoenfbbadfcfpaaGreatDoor
namespace Go.Proofs.YtoenfbbadfcfpaaGreatDoor
open Go.VM Go
set_option maxRecDepth 100000
theorem eqV_refl (x : It3) : eqV x x = true := by
  unfold eqV
  rw [decide_eq_true rfl, decide_eq_true rfl, beq_self_eq_true]; rfl
theorem same_refl (l : List It3) : sameB l l = true := by
  unfold sameB
  rw [decide_eq_true rfl, Bool.true_and, Bool.not_eq_true', ← Bool.not_eq_true, List.any_eq_true]
  rintro ⟨x, hx, h⟩
  rw [Bool.not_eq_true', ← Bool.not_eq_true, List.any_eq_true] at h
  exact h ⟨x, hx, eqV_refl x⟩
theorem fold_E (l : List It3) : foldF l ⟨#[]⟩ = 0 := by unfold foldF; rw [if_pos rfl]
theorem okN_small {l : List It3} (h : OkN l) : l.length ≤ 2 ^ 20 ∧ ∀ x ∈ l, x.1.size ≤ 2 ^ 20 :=
  ⟨Nat.le_trans h.len (by decide), fun x hx => Nat.le_trans (pathOk_size (h.pth x hx).1) (by decide)⟩
end Go.Proofs.YtoenfbbadfcfpaaGreatDoor
