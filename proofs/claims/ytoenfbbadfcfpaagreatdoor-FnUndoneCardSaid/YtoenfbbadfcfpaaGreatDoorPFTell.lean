/- Plain law: lists of items that are right, told by the names of their paths; what an op makes of such a list is such a list. The cursor over a draw's bytes: New, Byte, Below, Once, Pick, PickInt. Tell values: trees, and the walks of their size, their copy, their comparing (one; a slice). Printed by a program (tfun.py). -/
import Derived.Test.YtoenfbbadfcfpaaGreatDoorPFPlainD
import Derived.Test.YtoenfbbadfcfpaaGreatDoorPFPlainI
import Derived.Test.YtoenfbbadfcfpaaGreatDoorPFDraw
import Derived.Test.YtoenfbbadfcfpaaGreatDoorPFOp
import Derived.Test.YtoenfbbadfcfpaaGreatDoorPFBase
namespace Go.Proofs.YtoenfbbadfcfpaaGreatDoor
open Go.VM Go
set_option maxRecDepth 100000
set_option linter.unusedSimpArgs false
set_option linter.unusedVariables false
theorem jn_glue (A : ByteArray) : ∀ (t : List ByteArray) (a : ByteArray), ∃ r, jn (A ++ ⟨#[47]⟩ ++ a) t = A ++ ⟨#[47]⟩ ++ r
  | [], a => ⟨a, rfl⟩
  | x :: t, a => by
    obtain ⟨r, hr⟩ := jn_glue A t (a ++ ⟨#[47]⟩ ++ x)
    refine ⟨r, ?_⟩
    rw [jn, ← hr]
    simp only [app_assoc]
theorem jn_app (acc : ByteArray) : ∀ xs ys : List ByteArray, jn acc (xs ++ ys) = jn (jn acc xs) ys
  | xs, ys => by
    induction xs generalizing acc with
    | nil => rfl
    | cons x xs ih => rw [List.cons_append, jn, jn, ih]
theorem under_of {p q : ByteArray} (hp : pathOk p = true) (hq : pathOk q = true) (h : namesZ q <+: namesZ p) : underB p q = true := by
  obtain ⟨t, h⟩ := h
  unfold underB
  rw [hp, hq, Bool.true_and, Bool.true_and]
  by_cases h0 : q = ⟨#[]⟩
  · rw [decide_eq_true h0]; rfl
  cases t with
  | nil =>
    rw [List.append_nil] at h
    rw [decide_eq_true (namesZ_inj h.symm), Bool.true_or, Bool.or_true]
  | cons a t =>
    have hp0 : p ≠ ⟨#[]⟩ := fun e => by
      subst e
      rw [show namesZ ⟨#[]⟩ = [] from rfl] at h
      have := congrArg List.length h
      simp at this
    have e1 : namesZ q = names q := by unfold namesZ; rw [if_neg h0]
    have e2 : namesZ p = names p := by unfold namesZ; rw [if_neg hp0]
    rw [e1, e2] at h
    have hj := names_join p
    rw [← h] at hj
    obtain ⟨y, ys, hy⟩ : ∃ y ys, names q = y :: ys := by
      cases e : names q with
      | nil => have := names_len q; rw [e] at this; simp at this
      | cons y ys => exact ⟨y, ys, rfl⟩
    have hjq := names_join q
    rw [hy] at hj hjq
    rw [List.cons_append, joinF, jn_app] at hj
    rw [joinF] at hjq
    rw [hjq, jn] at hj
    obtain ⟨r, hr⟩ := jn_glue q t a
    rw [hr] at hj
    have hpre : preB p q = true := by
      rw [pre_iff, ← hj]
      have hs : (q ++ ⟨#[47]⟩ ++ r).size = q.size + 1 + r.size := by rw [add_size, add_size]; rfl
      have hb : (q ++ ⟨#[47]⟩ ++ r).extract 0 (q.size + 1) = q ++ ⟨#[47]⟩ := by
        refine ba_eq ?_
        rw [head_bytes, add_bytes]
        have : (q ++ ⟨#[47]⟩ : ByteArray).data.toList.length = q.size + 1 := by rw [bs_len, add_size]; rfl
        rw [← this, List.take_left]
      rw [hb, decide_eq_true rfl, decide_eq_true (by rw [hs]; omega)]; rfl
    rw [hpre, Bool.or_true, Bool.or_true]
theorem under_names {p q : ByteArray} (h : underB p q = true) : pathOk p = true ∧ pathOk q = true ∧ namesZ q <+: namesZ p := by
  by_cases h0 : q = ⟨#[]⟩
  · subst h0
    unfold underB at h
    simp only [Bool.and_eq_true] at h
    exact ⟨h.1, h.2.1, List.nil_prefix⟩
  · obtain ⟨h1, h2, h3⟩ := under_cut h h0
    refine ⟨h1, h2, ?_⟩
    rcases h3 with rfl | ⟨r, rfl, _⟩
    · exact List.prefix_refl _
    · have e1 : namesZ q = names q := by unfold namesZ; rw [if_neg h0]
      have hne : q ++ ⟨#[47]⟩ ++ r ≠ ⟨#[]⟩ := fun e => by
        have := congrArg ByteArray.size e
        rw [add_size, add_size] at this
        have h0 : (⟨#[]⟩ : ByteArray).size = 0 := rfl
        have h1 : (⟨#[47]⟩ : ByteArray).size = 1 := rfl
        omega
      have e2 : namesZ (q ++ ⟨#[47]⟩ ++ r) = names (q ++ ⟨#[47]⟩ ++ r) := by unfold namesZ; rw [if_neg hne]
      rw [e1, e2, names_glue]
      exact List.prefix_append _ _
theorem under_iff {p q : ByteArray} (hp : pathOk p = true) (hq : pathOk q = true) : underB p q = true ↔ namesZ q <+: namesZ p :=
  ⟨fun h => (under_names h).2.2, under_of hp hq⟩
theorem namesZ_ne {p : ByteArray} (h : p ≠ ⟨#[]⟩) : namesZ p ≠ [] := fun e => h (namesZ_inj (t := ⟨#[]⟩) e)
theorem split_of {p : ByteArray} (hp : pathOk p = true) (h0 : p ≠ ⟨#[]⟩) : (splitF p).2.2 = true := by
  unfold splitF
  rw [if_neg (by rintro (e | e); exact h0 e; rw [hp] at e; cases e)]
  split <;> rfl
theorem split_up {p : ByteArray} (hp : pathOk p = true) (h0 : p ≠ ⟨#[]⟩) : namesZ (splitF p).1 = (namesZ p).dropLast := by
  have := (split_names (split_of hp h0)).2.1
  rw [this, List.dropLast_concat]
theorem split_upE {p : ByteArray} (hp : pathOk p = true) (h0 : p ≠ ⟨#[]⟩) (q : ByteArray) : (splitF p).1 = q ↔ namesZ q = (namesZ p).dropLast := by
  rw [← split_up hp h0]
  exact ⟨fun e => by rw [e], fun e => (namesZ_inj e).symm⟩
/-- The new names of what is moved. -/
def movN (Q T N : List ByteArray) : List ByteArray := if Q <+: N then T ++ N.drop Q.length else N
theorem moved_names {o : OpV} {p : ByteArray} (hp : pathOk p = true) (hq : pathOk o.path = true) (hq0 : o.path ≠ ⟨#[]⟩) (ht0 : o.to ≠ ⟨#[]⟩) : namesZ (movedP o p) = movN (namesZ o.path) (namesZ o.to) (namesZ p) := by
  unfold movedP movN
  by_cases hu : underB p o.path = true
  · rw [if_pos hu, if_pos ((under_iff hp hq).1 hu)]
    obtain ⟨_, _, h3⟩ := under_cut hu hq0
    rcases h3 with e | ⟨r, e, e2⟩
    · rw [e, List.drop_length, List.append_nil]
      have e : o.path.extract o.path.size o.path.size = ⟨#[]⟩ := size0.2 (by rw [ByteArray.size_extract]; omega)
      rw [e, app_nil]
    · rw [e2, ← app_assoc]
      have hne : ∀ (a : ByteArray), a ++ ⟨#[47]⟩ ++ r ≠ ⟨#[]⟩ := fun a e => by
        have := congrArg ByteArray.size e
        rw [add_size, add_size] at this
        have h0 : (⟨#[]⟩ : ByteArray).size = 0 := rfl
        have h1 : (⟨#[47]⟩ : ByteArray).size = 1 := rfl
        omega
      have ez : ∀ a : ByteArray, a ≠ ⟨#[]⟩ → namesZ (a ++ ⟨#[47]⟩ ++ r) = namesZ a ++ names r := fun a ha => by
        unfold namesZ
        rw [if_neg (hne a), if_neg ha, names_glue]
      rw [ez _ ht0]
      congr 1
      rw [e, ez _ hq0, List.drop_left]
  · rw [if_neg hu, if_neg (fun h => hu ((under_iff hp hq).2 h))]

/-! ### lists that are right -/
structure OkN (L : List It3) : Prop where
  len : L.length ≤ 11
  pth : ∀ x ∈ L, pathOk x.1 = true ∧ x.1 ≠ ⟨#[]⟩
  data : ∀ x ∈ L, x.2.2.size ≤ 60 ∧ (x.2.1 = true → x.2.2 = ⟨#[]⟩)
  up : ∀ x ∈ L, (namesZ x.1).dropLast = [] ∨ ∃ y ∈ L, namesZ y.1 = (namesZ x.1).dropLast ∧ y.2.1 = true
  apart : (L.map (·.1)).Nodup
theorem apart_pw {L : List It3} : (L.map (·.1)).Nodup ↔ L.Pairwise (fun x y => x.1 ≠ y.1) := by
  unfold List.Nodup
  rw [List.pairwise_map]
theorem okN_items {L : List It3} (h : OkN L) : itemsOk L = true := by
  refine itemsOk_of h.len (fun x hx => split_of (h.pth x hx).1 (h.pth x hx).2) h.data (fun x hx => ?_) (apart_pw.1 h.apart)
  obtain ⟨h1, h2⟩ := h.pth x hx
  rcases h.up x hx with e | ⟨y, hy, e, hd⟩
  · exact .inl ((split_upE h1 h2 _).2 (by rw [e]; rfl))
  · exact .inr ⟨y, hy, ((split_upE h1 h2 _).2 e).symm, hd⟩
theorem find_none {l : List It3} {q : ByteArray} : findF l q < 0 ↔ ∀ x ∈ l, x.1 ≠ q := by
  rw [← Int.not_le]
  constructor
  · intro h x hx e
    apply h
    have := idxOf_any (hasPath q) l 0
    have ha : l.any (hasPath q) = true := List.any_eq_true.2 ⟨x, hx, decide_eq_true e⟩
    unfold findF
    rcases idxOf_at (hasPath q) l 0 with e1 | ⟨j, z, e1, _⟩
    · rw [e1] at this
      rw [ha] at this
      exact absurd this (by decide)
    · rw [e1]; omega
  · intro h h0
    obtain ⟨j, x, _, hx, e⟩ := find_hit (q := q) rfl h0
    exact h x (List.mem_of_getElem? hx) e
theorem fold_zero {l : List It3} {q : ByteArray} (h : foldF l q = 0) : q = ⟨#[]⟩ ∨ ∃ y ∈ l, y.1 = q ∧ y.2.1 = true := by
  unfold foldF at h
  split at h
  · rename_i e; exact .inl e
  split at h
  · cases h
  split at h
  · rename_i h0 h1 h2
    obtain ⟨j, x, e, hx, e2⟩ := find_hit (q := q) rfl (Int.not_lt.1 h1)
    rw [e] at h2
    refine .inr ⟨x, List.mem_of_getElem? hx, e2, ?_⟩
    unfold dirAt at h2
    rw [show ((j : Int)).toNat = j from rfl, hx] at h2
    exact h2
  · cases h
theorem itemsOk_N {L : List It3} (h : itemsOk L = true) : OkN L := by
  obtain ⟨h1, h2⟩ := itemsOk_at h
  have hm : ∀ x ∈ L, pathOk x.1 = true ∧ x.1 ≠ ⟨#[]⟩ := fun x hx => by
    obtain ⟨j, hj⟩ := List.getElem?_of_mem hx
    exact splitF_ok (h2 j x hj).1
  refine ⟨h1, hm, fun x hx => ?_, fun x hx => ?_, ?_⟩
  · obtain ⟨j, hj⟩ := List.getElem?_of_mem hx
    exact ⟨(h2 j x hj).2.1, (h2 j x hj).2.2.1⟩
  · obtain ⟨j, hj⟩ := List.getElem?_of_mem hx
    have hf := (h2 j x hj).2.2.2.2
    obtain ⟨p1, p2⟩ := hm x hx
    have hf0 : foldF L (splitF x.1).1 = 0 := by
      rw [fold_iff]
      unfold thereB
      unfold isFold at hf
      simp only [Bool.or_eq_true, Bool.and_eq_true] at hf
      have : (decide ((splitF x.1).1 = ⟨#[]⟩) || decide (0 ≤ findF L (splitF x.1).1)) = true := by
        rcases hf with h | h
        · rw [h]; rfl
        · unfold findF; rw [h.1, Bool.or_true]
      rw [if_pos this, if_pos (by unfold isFold; simp only [Bool.or_eq_true, Bool.and_eq_true]; exact hf)]
    rcases fold_zero hf0 with e | ⟨y, hy, e, hd⟩
    · exact .inl (by rw [← (split_upE p1 p2 _).1 e]; rfl)
    · exact .inr ⟨y, hy, (split_upE p1 p2 _).1 e.symm, hd⟩
  · rw [apart_pw, List.pairwise_iff_getElem]
    intro i j hi hj hij e
    have a := (h2 i _ (List.getElem?_eq_getElem hi)).2.2.2.1
    have b := (h2 j _ (List.getElem?_eq_getElem hj)).2.2.2.1
    rw [e, b] at a
    omega
/-- What stands above an item of a list is an item of it. -/
theorem okN_above {L : List It3} (h : OkN L) : ∀ (n : Nat) (x : It3), x ∈ L → (namesZ x.1).length = n → ∀ s, s ≠ [] → s <+: namesZ x.1 → s = namesZ x.1 ∨ ∃ y ∈ L, namesZ y.1 = s ∧ y.2.1 = true
  | 0, x, hx, hn, s, h0, hs => by
    have := hs.length_le
    cases s with
    | nil => exact absurd rfl h0
    | cons a s => simp only [List.length_cons] at this; omega
  | n + 1, x, hx, hn, s, h0, hs => by
    obtain ⟨t, ht⟩ := hs
    by_cases ht0 : t = []
    · subst ht0; rw [List.append_nil] at ht; exact .inl ht
    have hd : (namesZ x.1).dropLast = s ++ t.dropLast := by rw [← ht, List.dropLast_append_of_ne_nil ht0]
    rcases h.up x hx with e | ⟨y, hy, e, hyd⟩
    · rw [e] at hd
      have := congrArg List.length hd
      simp only [List.length_nil, List.length_append] at this
      exact absurd (List.eq_nil_of_length_eq_zero (by omega)) h0
    · have hyl : (namesZ y.1).length = n := by rw [e, List.length_dropLast, hn]; rfl
      rcases okN_above h n y hy hyl s h0 ⟨t.dropLast, by rw [e, hd]⟩ with e2 | h2
      · exact .inr ⟨y, hy, e2.symm, hyd⟩
      · exact .inr h2

/-! ### what the ops make -/
theorem makeL_ok {l : List It3} (h : OkN l) {o : OpV} (ho : pathOk o.path = true) : OkN (makeL l o).1 := by
  unfold makeL
  split
  · exact h
  split
  · exact h
  split
  · exact h
  rename_i h1 h2 h3
  have hp0 : o.path ≠ ⟨#[]⟩ := fun e => h1 (.inl e)
  have hf : ∀ x ∈ l, x.1 ≠ o.path := find_none.1 (Int.not_le.1 (fun h => h1 (.inr h)))
  have h2 : foldF l (splitF o.path).1 = 0 := Classical.not_not.1 h2
  refine ⟨?_, fun x hx => ?_, fun x hx => ?_, fun x hx => ?_, ?_⟩
  · have := h.len
    simp only [List.length_append, List.length_cons, List.length_nil]; omega
  · rcases List.mem_append.1 hx with hx | hx
    · exact h.pth x hx
    · rw [List.mem_singleton] at hx; subst hx; exact ⟨ho, hp0⟩
  · rcases List.mem_append.1 hx with hx | hx
    · exact h.data x hx
    · rw [List.mem_singleton] at hx; subst hx; exact ⟨Nat.zero_le _, fun _ => rfl⟩
  · rcases List.mem_append.1 hx with hx | hx
    · rcases h.up x hx with e | ⟨y, hy, e, hd⟩
      · exact .inl e
      · exact .inr ⟨y, List.mem_append_left _ hy, e, hd⟩
    · rw [List.mem_singleton] at hx; subst hx
      rcases fold_zero h2 with e | ⟨y, hy, e, hd⟩
      · exact .inl (by rw [← split_up ho hp0, e]; rfl)
      · exact .inr ⟨y, List.mem_append_left _ hy, by rw [← split_up ho hp0, e], hd⟩
  · rw [List.map_append, List.nodup_append]
    refine ⟨h.apart, by simp, fun a ha b hb e => ?_⟩
    simp only [List.map_cons, List.map_nil, List.mem_singleton] at hb
    subst hb
    obtain ⟨x, hx, rfl⟩ := List.mem_map.1 ha
    exact hf x hx e
theorem dropL_ok {l : List It3} (h : OkN l) {o : OpV} (ho : pathOk o.path = true) : OkN (dropL l o).1 := by
  unfold dropL
  split
  · exact h
  rename_i h1
  have hp0 : o.path ≠ ⟨#[]⟩ := fun e => h1 (.inl e)
  have hk : ∀ x ∈ l, x.1 ≠ o.path → underB x.1 o.path = false := fun x hx hne => by
    cases hu : underB x.1 o.path
    · rfl
    · exact absurd (.inr (List.any_eq_true.2 ⟨x, hx, by rw [hu, decide_eq_false hne]; rfl⟩)) h1
  have hmem : ∀ x, x ∈ l.filter (fun x => !decide (x.1 = o.path)) ↔ x ∈ l ∧ x.1 ≠ o.path := fun x => by
    rw [List.mem_filter]; simp
  refine ⟨Nat.le_trans (List.length_filter_le _ _) h.len, fun x hx => h.pth x ((hmem x).1 hx).1, fun x hx => h.data x ((hmem x).1 hx).1, fun x hx => ?_, ?_⟩
  · obtain ⟨hx, hne⟩ := (hmem x).1 hx
    rcases h.up x hx with e | ⟨y, hy, e, hd⟩
    · exact .inl e
    · refine .inr ⟨y, (hmem y).2 ⟨hy, fun e2 => ?_⟩, e, hd⟩
      have := hk x hx hne
      rw [under_of (h.pth x hx).1 ho ⟨[(namesZ x.1).getLast (namesZ_ne (h.pth x hx).2)], by rw [← e2, e, List.dropLast_concat_getLast]⟩] at this
      cases this
  · exact (List.Sublist.map _ List.filter_sublist).nodup h.apart
theorem moveG_eq (l : List It3) (o : OpV) : ∀ (r acc : List It3), moveG l o r acc = if (r.all fun x => pathOk (movedP o x.1)) = true then (acc ++ r.map (fun x => (movedP o x.1, x.2)), 0) else (l, 5)
  | [], acc => by simp [moveG]
  | x :: r, acc => by
    rw [moveG]
    by_cases hx : pathOk (movedP o x.1) = true
    · rw [if_pos hx, moveG_eq l o r, List.all_cons, hx, Bool.true_and, List.map_cons, List.append_assoc]; rfl
    · rw [if_neg hx, List.all_cons, Bool.eq_false_iff.2 hx, Bool.false_and]; rfl
theorem pre_drop {Q N1 N2 : List ByteArray} (h1 : Q <+: N1) (h2 : Q <+: N2) (h : N1.drop Q.length = N2.drop Q.length) : N1 = N2 := by
  obtain ⟨t1, rfl⟩ := h1
  obtain ⟨t2, rfl⟩ := h2
  rw [List.drop_left, List.drop_left] at h
  rw [h]
theorem moveL_ok {l : List It3} (h : OkN l) {o : OpV} (ho : pathOk o.path = true) (ht : pathOk o.to = true) : OkN (moveL l o).1 := by
  unfold moveL
  split
  · exact h
  split
  · exact h
  split
  · exact h
  rename_i h1 h2 h3
  rw [moveG_eq]
  split
  case isFalse => exact h
  rename_i hall
  have hq0 : o.path ≠ ⟨#[]⟩ := fun e => h1 (.inl e)
  have ht0 : o.to ≠ ⟨#[]⟩ := fun e => h2 (.inl e)
  have hf : ∀ x ∈ l, x.1 ≠ o.to := find_none.1 (Int.not_le.1 (fun h => h2 (.inr h)))
  have hfN : ∀ x ∈ l, namesZ x.1 ≠ namesZ o.to := fun x hx e => hf x hx (namesZ_inj e)
  have h3 : foldF l (splitF o.to).1 = 0 := Classical.not_not.1 h3
  have hnu : ¬ namesZ o.path <+: namesZ o.to := fun e => h1 (.inr (under_of ht ho e))
  have hall : ∀ x ∈ l, pathOk (movedP o x.1) = true := List.all_eq_true.1 hall
  have hm : ∀ x ∈ l, namesZ (movedP o x.1) = movN (namesZ o.path) (namesZ o.to) (namesZ x.1) := fun x hx => moved_names (h.pth x hx).1 ho hq0 ht0
  have hT := namesZ_ne ht0
  have hN : ∀ x ∈ l, namesZ x.1 ≠ [] := fun x hx => namesZ_ne (h.pth x hx).2
  have hupT : (namesZ o.to).dropLast = [] ∨ ∃ y ∈ l, namesZ y.1 = (namesZ o.to).dropLast ∧ y.2.1 = true := by
    rcases fold_zero h3 with e | ⟨y, hy, e, hd⟩
    · exact .inl (by rw [← split_up ht ht0, e]; rfl)
    · exact .inr ⟨y, hy, by rw [← split_up ht ht0, e], hd⟩
  have hclash : ∀ x ∈ l, ∀ y ∈ l, namesZ o.path <+: namesZ x.1 → ¬ namesZ o.path <+: namesZ y.1 → namesZ o.to ++ (namesZ x.1).drop (namesZ o.path).length ≠ namesZ y.1 := fun x hx y hy hpx hpy e => by
    rcases okN_above h _ y hy rfl (namesZ o.to) hT ⟨_, e⟩ with e2 | ⟨z, hz, e2, _⟩
    · exact hfN y hy e2.symm
    · exact hfN z hz e2
  generalize namesZ o.path = Q at *
  generalize namesZ o.to = T at *
  rw [List.nil_append]
  refine ⟨by rw [List.length_map]; exact h.len, fun x hx => ?_, fun x hx => ?_, fun x hx => ?_, ?_⟩
  · obtain ⟨y, hy, rfl⟩ := List.mem_map.1 hx
    refine ⟨hall y hy, fun e => ?_⟩
    have := hm y hy
    simp only at e
    rw [e, show namesZ ⟨#[]⟩ = [] from rfl] at this
    unfold movN at this
    split at this
    · exact hT (List.append_eq_nil_iff.1 this.symm).1
    · exact hN y hy this.symm
  · obtain ⟨y, hy, rfl⟩ := List.mem_map.1 hx
    exact h.data y hy
  · obtain ⟨y, hy, rfl⟩ := List.mem_map.1 hx
    simp only
    rw [hm y hy]
    have hlift : ∀ z ∈ l, z.2.1 = true → ∀ N, movN Q T (namesZ z.1) = N → ∃ y ∈ l.map (fun x => (movedP o x.1, x.2)), namesZ y.1 = N ∧ y.2.1 = true := fun z hz hd N e =>
      ⟨(movedP o z.1, z.2), List.mem_map_of_mem hz, by rw [← e]; exact hm z hz, hd⟩
    by_cases hp : Q <+: namesZ y.1
    · obtain ⟨r, hr⟩ := hp
      have e1 : movN Q T (namesZ y.1) = T ++ r := by
        unfold movN
        rw [if_pos ⟨r, hr⟩, ← hr, List.drop_left]
      rw [e1]
      by_cases hr0 : r = []
      · subst hr0
        rw [List.append_nil]
        rcases hupT with e | ⟨z, hz, e, hd⟩
        · exact .inl e
        · refine .inr (hlift z hz hd _ ?_)
          unfold movN
          rw [if_neg (fun hq => hnu (hq.trans (by rw [e]; exact List.dropLast_prefix _))), e]
      · rw [List.dropLast_append_of_ne_nil hr0]
        have hQ : Q ≠ [] := fun e => hnu (by rw [e]; exact List.nil_prefix)
        have hd0 : (namesZ y.1).dropLast = Q ++ r.dropLast := by rw [← hr, List.dropLast_append_of_ne_nil hr0]
        rcases h.up y hy with e | ⟨z, hz, e, hd⟩
        · rw [hd0] at e
          exact absurd (List.append_eq_nil_iff.1 e).1 hQ
        · refine .inr (hlift z hz hd _ ?_)
          rw [e, hd0]
          unfold movN
          rw [if_pos (List.prefix_append _ _), List.drop_left]
    · have e1 : movN Q T (namesZ y.1) = namesZ y.1 := by unfold movN; rw [if_neg hp]
      rw [e1]
      rcases h.up y hy with e | ⟨z, hz, e, hd⟩
      · exact .inl e
      · refine .inr (hlift z hz hd _ ?_)
        unfold movN
        rw [if_neg (fun hq => hp (hq.trans (by rw [e]; exact List.dropLast_prefix _))), e]
  · unfold List.Nodup
    rw [List.map_map, List.pairwise_map]
    refine List.Pairwise.imp_of_mem ?_ (apart_pw.1 h.apart)
    intro x y hx hy hne e
    have e := congrArg namesZ e
    simp only [Function.comp] at e
    rw [hm x hx, hm y hy] at e
    apply hne
    refine namesZ_inj ?_
    unfold movN at e
    by_cases hpx : Q <+: namesZ x.1
    · rw [if_pos hpx] at e
      by_cases hpy : Q <+: namesZ y.1
      · rw [if_pos hpy] at e
        exact pre_drop hpx hpy (List.append_cancel_left e)
      · rw [if_neg hpy] at e
        exact absurd e (hclash x hx y hy hpx hpy)
    · rw [if_neg hpx] at e
      by_cases hpy : Q <+: namesZ y.1
      · rw [if_pos hpy] at e
        exact absurd e.symm (hclash y hy x hx hpy hpx)
      · rw [if_neg hpy] at e
        exact e
theorem mem_set_or {l : List It3} {i : Nat} {x z : It3} (hx : l[i]? = some x) {y : It3} (hy : y ∈ l) : y ∈ l.set i z ∨ (y = x ∧ z ∈ l.set i z) := by
  obtain ⟨j, hj⟩ := List.getElem?_of_mem hy
  have hi : i < l.length := (List.getElem?_eq_some_iff.1 hx).1
  by_cases e : i = j
  · subst e
    rw [hx] at hj
    exact .inr ⟨(Option.some.inj hj).symm, List.mem_of_getElem? (i := i) (by rw [List.getElem?_set_self hi])⟩
  · exact .inl (List.mem_of_getElem? (i := j) (by rw [List.getElem?_set_ne e]; exact hj))
theorem putAtL_ok {l : List It3} (h : OkN l) {i : Nat} {s : ByteArray} (hs : s.size ≤ 60) (hd : dirAt l i = false) : OkN (putAtL l i s) := by
  unfold putAtL
  cases hx : l[i]? with
  | none => exact h
  | some x =>
    simp only
    unfold dirAt at hd
    rw [hx] at hd
    simp only at hd
    have hxm := List.mem_of_getElem? hx
    have hmem : ∀ y ∈ l.set i (x.1, x.2.1, s), y ∈ l ∨ y = (x.1, x.2.1, s) := fun y hy => List.mem_or_eq_of_mem_set hy
    refine ⟨by rw [List.length_set]; exact h.len, fun y hy => ?_, fun y hy => ?_, fun y hy => ?_, ?_⟩
    · rcases hmem y hy with h1 | h1
      · exact h.pth y h1
      · rw [h1]; exact h.pth x hxm
    · rcases hmem y hy with h1 | h1
      · exact h.data y h1
      · rw [h1]; exact ⟨hs, fun e => by rw [hd] at e; cases e⟩
    · have hu : (namesZ y.1).dropLast = [] ∨ ∃ z ∈ l, namesZ z.1 = (namesZ y.1).dropLast ∧ z.2.1 = true := by
        rcases hmem y hy with h1 | h1
        · exact h.up y h1
        · rw [h1]; exact h.up x hxm
      rcases hu with e | ⟨z, hz, e, hzd⟩
      · exact .inl e
      · rcases mem_set_or (z := (x.1, x.2.1, s)) hx hz with h1 | ⟨rfl, h1⟩
        · exact .inr ⟨z, h1, e, hzd⟩
        · exact .inr ⟨_, h1, e, hzd⟩
    · have : (l.set i (x.1, x.2.1, s)).map (·.1) = l.map (·.1) := by
        rw [List.map_set]
        refine List.ext_getElem? fun j => ?_
        by_cases e : i = j
        · subst e
          rw [List.getElem?_set_self (by rw [List.length_map]; exact (List.getElem?_eq_some_iff.1 hx).1), List.getElem?_map, hx]; rfl
        · rw [List.getElem?_set_ne e]
      rw [this]; exact h.apart
theorem opOk_parts {o : OpV} (h : opOk o = true) : pathOk o.path = true ∧ o.data.size ≤ 60 ∧ (o.kind = 6 → pathOk o.to = true) ∧ 1 ≤ o.kind ∧ o.kind ≤ 7 := by
  unfold opOk inB at h
  simp only [Bool.and_eq_true, Bool.or_eq_true, decide_eq_true_eq] at h
  obtain ⟨⟨h1, h2⟩, h3, h4, h5⟩ := h
  exact ⟨h3, by omega, fun e => h5.resolve_left (fun hn => hn e), h1, h2⟩
theorem fold_dir {l : List It3} {q : ByteArray} (h0 : foldF l q ≠ 0) (h2 : foldF l q ≠ 2) : q ≠ ⟨#[]⟩ ∧ 0 ≤ findF l q ∧ dirAt l (findF l q).toNat = false := by
  unfold foldF at h0 h2
  split at h0
  · exact absurd rfl h0
  rename_i hq
  rw [if_neg hq] at h2
  split at h0
  · rename_i hl; rw [if_pos hl] at h2; exact absurd rfl h2
  rename_i hl
  split at h0
  · exact absurd rfl h0
  rename_i hd
  exact ⟨hq, by omega, Bool.eq_false_iff.2 hd⟩
theorem plainL_ok {l : List It3} (h : OkN l) (o : OpV) : OkN (plainL l o).1 := by
  unfold plainL
  split
  · exact h
  rename_i h1
  have ho : opOk o = true := by
    cases e : opOk o
    · exact absurd (.inr e) h1
    · rfl
  obtain ⟨o1, o2, o3, _, _⟩ := opOk_parts ho
  split
  · exact makeL_ok h o1
  unfold doL
  split
  · exact h
  split
  · exact dropL_ok h o1
  split
  · exact moveL_ok h o1 (o3 (by assumption))
  split
  · exact h
  split
  · exact h
  split
  · exact h
  rename_i h2 _ _ h5 h7 _
  refine putAtL_ok h o2 (fold_dir (fun e => ?_) h2).2.2
  apply h5
  rw [decide_eq_true e, decide_eq_false h7] at *
  exact absurd trivial (by simp_all)
end Go.Proofs.YtoenfbbadfcfpaaGreatDoor
namespace Go.Proofs.YtoenfbbadfcfpaaGreatDoor
open Go.VM Go
set_option maxRecDepth 100000
set_option linter.unusedSimpArgs false
set_option linter.unusedVariables false
attribute [local congr] vw_congr runV_congr runH_congr runW_congr runX_congr stuckV_congr stuckX_congr

structure Cur where
  i : Nat
  h : Int
def andV (a b : Int) : Int := IntKind.wrap .i64 (BitVec.ofInt 64 a &&& BitVec.ofInt 64 b).toNat
def xorV (a b : Int) : Int := IntKind.wrap .i64 (BitVec.ofInt 64 a ^^^ BitVec.ofInt 64 b).toNat
theorem andV_255 (a : Int) : 0 ≤ andV a 255 ∧ andV a 255 ≤ 255 := by
  have h : (BitVec.ofInt 64 a &&& BitVec.ofInt 64 255).toNat ≤ 255 := by
    rw [BitVec.toNat_and]
    exact Nat.le_trans Nat.and_le_right (by decide)
  unfold andV
  rw [wrap_i64 (by omega) (by omega)]
  omega
def curH (h : Int) : Int := IntKind.wrap .i64 (IntKind.wrap .i64 (h * 6364136223846793005) + 1442695040888963407)
def curX (h : Int) : Int := andV (xorV (h.fdiv (2 ^ min 33 64)) (h.fdiv (2 ^ min 45 64))) 255
def byteC (L : List UInt8) (c : Cur) : Cur := ⟨if c.i < L.length then c.i + 1 else c.i, curH c.h⟩
def byteV (L : List UInt8) (c : Cur) : Int := if c.i < L.length then andV (IntKind.wrap .i64 (curX (curH c.h) + (L.getD c.i 0).toNat)) 255 else curX (curH c.h)
theorem byteV_in (L : List UInt8) (c : Cur) : 0 ≤ byteV L c ∧ byteV L c ≤ 255 := by
  unfold byteV
  split
  · exact andV_255 _
  · exact andV_255 _

theorem runs_106 (v : Value) (L : List UInt8) (hL : L.length < 2 ^ 60) (c : Cur) (C : Cur) (hC : C = byteC L c) :
    Runs Tryz.prog 106 [.one (.box [.held v 1 (L.map bRow), .int .i64 c.i, .int .i64 c.h])] [.one (.v (.int .i64 (byteV L c)))] [(0, ⟨true, 3, [[.held v 1 (L.map bRow), .int .i64 C.i, .int .i64 C.h]], []⟩)] := by
  refine runs_tabB (tab := [(0, .ptr 0 [] 0 0 0)]) (rts := [(0, some ⟨true, 3, [[.held v 1 (L.map bRow), .int .i64 c.i, .int .i64 c.h]], []⟩)]) (n := 58) (k := 1) Tryz.func106 rfl rfl (by simp) rfl (fun t => ?_) rfl ?_
  · rcases t with _ | t <;> rfl
  (refine vw_go rfl ?_; simp only [go_sem, setCells, setIn])
  (refine vw_go rfl ?_; simp only [go_sem, setCells, setIn])
  (refine vw_draw mixed rfl rfl ?_; simp only [go_sem, setCells, setIn])
  refine ⟨by unfold allOk; kernel_rfl, ?_⟩
  refine vw_seq ?_
  (refine vw_draw mixed rfl rfl ?_; simp only [go_sem, setCells, setIn])
  refine ⟨by unfold allOk; kernel_rfl, ?_⟩
  subst hC
  have hb : IntKind.wrap .i64 ((c.i : Int) + 1) = ((c.i + 1 : Nat) : Int) ∨ ¬ c.i < L.length := by
    by_cases h : c.i < L.length
    · left; rw [wrap_i64 (by omega) (by omega)]; rfl
    · exact .inr h
  by_cases hc : c.i < L.length
  · have hi : (c.i : Int) < L.length := by omega
    have h0 : (0:Int) ≤ (c.i : Int) := by omega
    have w1 : IntKind.wrap .i64 ((c.i : Int) + 1) = ((c.i + 1 : Nat) : Int) := by rcases hb with h | h; exact h; exact absurd hc h
    obtain ⟨y, hy⟩ : ∃ y, L[c.i]? = some y := ⟨_, List.getElem?_eq_getElem hc⟩
    refine vw_cond (t := true) (by simp [ev, tabE_cons, hi]) (fun _ => ?_) (fun h => nomatch h)
    (refine vw_draw mixed rfl rfl ?_; simp only [h0, hi, Int.toNat_natCast, getD_map_of hy, bRow, go_sem, setCells, setIn])
    refine ⟨by unfold allOk; kernel_rfl, ?_⟩
    have w2 : IntKind.wrap .i64 (y.toNat : Int) = (y.toNat : Int) := by have := y.toNat_lt; exact wrap_i64 (by omega) (by omega)
    (refine vw_last rfl ?_; simp only [w1, w2, go_sem, setCells, setIn])
    refine (n_then ?_)
    have e1 : byteV L c = andV (IntKind.wrap .i64 (curX (curH c.h) + (y.toNat : Int))) 255 := by unfold byteV; rw [if_pos hc, getD_of hy]
    have e2 : byteC L c = ⟨c.i + 1, curH c.h⟩ := by unfold byteC; rw [if_pos hc]
    rw [e1, e2]
    (refine vw_go rfl ?_; simp only [go_sem, setCells, setIn])
    exact vw_ret (e_ret (ret_b rfl rfl (by simp [RB]) rfl rfl ⟨⟨by simp, _, rfl, rfl, rfl, rfl⟩, trivial⟩))
  · have hi : ¬ (c.i : Int) < L.length := by omega
    refine vw_cond (t := false) (by simp [ev, tabE_cons, hi]) (fun h => nomatch h) (fun _ => ?_)
    refine vw_skip (n_then ?_)
    have e1 : byteV L c = curX (curH c.h) := by unfold byteV; rw [if_neg hc]
    have e2 : byteC L c = ⟨c.i, curH c.h⟩ := by unfold byteC; rw [if_neg hc]
    rw [e1, e2]
    (refine vw_go rfl ?_; simp only [go_sem, setCells, setIn])
    exact vw_ret (e_ret (ret_b rfl rfl (by simp [RB]) rfl rfl ⟨⟨by simp, _, rfl, rfl, rfl, rfl⟩, trivial⟩))

def belV (L : List UInt8) (c : Cur) (n : Nat) : Int := (byteV L c).tmod n
theorem belV_in (L : List UInt8) (c : Cur) {n : Nat} (h : 0 < n) : 0 ≤ belV L c n ∧ belV L c n < n := by
  have := byteV_in L c
  unfold belV
  rw [Int.tmod_eq_emod_of_nonneg this.1]
  exact ⟨Int.emod_nonneg _ (by omega), Int.emod_lt_of_pos _ (by omega)⟩

theorem runs_79 (v : Value) (L : List UInt8) (hL : L.length < 2 ^ 60) (c : Cur) (n : Nat) (h0 : 0 < n) (h1 : n ≤ 256) :
    Runs Tryz.prog 79 [.one (.box [.held v 1 (L.map bRow), .int .i64 c.i, .int .i64 c.h]), .one (.v (.int .i64 n))] [.one (.v (.int .i64 (belV L c n)))] [(0, ⟨true, 3, [[.held v 1 (L.map bRow), .int .i64 (byteC L c).i, .int .i64 (byteC L c).h]], []⟩)] := by
  refine runs_tabB (tab := [(0, .ptr 0 [] 0 0 0), (1, .c (.int .i64 n))]) (rts := [(0, some ⟨true, 3, [[.held v 1 (L.map bRow), .int .i64 c.i, .int .i64 c.h]], []⟩)]) (n := 37) (k := 2) Tryz.func79 rfl rfl (by simp) rfl (fun t => ?_) rfl ?_
  · rcases t with _ | _ | t <;> rfl
  (refine vw_go rfl ?_; simp only [go_sem, setCells, setIn])
  refine vw_seq ?_
  (refine vw_go rfl ?_; simp only [go_sem, setCells, setIn])
  have g0 : ¬ (n : Int) ≤ 0 := by omega
  have g1 : (n : Int) ≤ 256 := by omega
  have g2 : ¬ (n : Int) = 0 := by omega
  refine vw_cond (t := false) (by simp [ev, tabE_cons]; omega) (fun h => nomatch h) (fun _ => ?_)
  refine vw_skip (n_then ?_)
  refine vw_seq ?_
  (refine vw_go rfl ?_; simp only [go_sem, setCells, setIn])
  refine vw_cond (t := true) (by simp [ev, tabE_cons]; omega) (fun _ => ?_) (fun h => nomatch h)
  have rB := runs_106 v L hL c _ rfl
  (refine vw_go rfl ?_; simp only [go_sem, setCells, setIn])
  (refine ⟨_, _, call_pt [0] 0 Tryz.func106 (rB) rfl rfl rfl rfl rfl rfl rfl rfl (by simp [lendAll, lendC, seek, fresh, nav, rcells, RT.cells, VV.cells, tabE_cons, tabS_cons, St.put, ev, lit, take_map_len]) rfl rfl (by simp [rcells, RT.cells, CT.fine, T.fine]) (by exact ⟨.inr ⟨0, _, _, rfl, .head _, .head _⟩, trivial, trivial, trivial⟩) rfl rfl, ?_⟩)
  simp only [runH, runX, g2, go_sem, setCells, setIn]
  unfold belV
  exact vw_ret (r_then (e_ret (ret_b rfl rfl (by simp [RB]) rfl rfl ⟨⟨by simp, _, rfl, rfl, rfl, rfl⟩, trivial⟩)))

def pickV {α : Type} (L : List UInt8) (c : Cur) (l : List α) (d : α) : α := l.getD (belV L c l.length).toNat d
theorem pickV_mem {α : Type} (L : List UInt8) (c : Cur) {l : List α} (d : α) (h : 0 < l.length) : pickV L c l d ∈ l := by
  have := belV_in L c h
  unfold pickV
  rw [List.getD_eq_getElem?_getD, List.getElem?_eq_getElem (by omega)]
  exact List.getElem_mem _

theorem runs_80 (v : Value) (L : List UInt8) (hL : L.length < 2 ^ 60) (c : Cur) (l : List ByteArray) (h0 : 0 < l.length) (h1 : l.length ≤ 256) :
    Runs Tryz.prog 80 [.one (.box [.held v 1 (L.map bRow), .int .i64 c.i, .int .i64 c.h]), .one (.v (.list false 1 (l.map sRow)))] [.one (.v (.str (pickV L c l ⟨#[]⟩)))] [(0, ⟨true, 3, [[.held v 1 (L.map bRow), .int .i64 (byteC L c).i, .int .i64 (byteC L c).h]], []⟩)] := by
  refine runs_tabB (tab := [(0, .ptr 0 [] 0 0 0), (1, .c (.list false 1 (l.map sRow)))]) (rts := [(0, some ⟨true, 3, [[.held v 1 (L.map bRow), .int .i64 c.i, .int .i64 c.h]], []⟩)]) (n := 12) (k := 2) Tryz.func80 rfl rfl (by simp) rfl (fun t => ?_) rfl ?_
  · rcases t with _ | _ | t <;> rfl
  have rB := runs_79 v L hL c l.length h0 h1
  have hb := belV_in L c h0
  have hy : l[(belV L c l.length).toNat]? = some (pickV L c l ⟨#[]⟩) := by
    unfold pickV
    rw [List.getD_eq_getElem?_getD, List.getElem?_eq_getElem (by omega)]; rfl
  (refine vw_go rfl ?_; simp only [go_sem, setCells, setIn])
  (refine vw_go rfl ?_; simp only [go_sem, setCells, setIn])
  (refine ⟨_, _, call_pt [0, 0] 0 Tryz.func79 (rB) rfl rfl rfl rfl rfl rfl rfl rfl (by simp [lendAll, lendC, seek, fresh, nav, rcells, RT.cells, VV.cells, tabE_cons, tabS_cons, St.put, ev, lit, take_map_len]) rfl rfl (by simp [rcells, RT.cells, CT.fine, T.fine]) (by exact ⟨.inr ⟨0, _, _, rfl, .head _, .head _⟩, trivial, trivial, trivial⟩) rfl rfl, ?_⟩)
  simp only [runH, runX, hb.1, hb.2, getD_map_of hy, sRow, go_sem, setCells, setIn]
  exact vw_ret (e_ret (ret_b rfl rfl (by simp [RB]) rfl rfl ⟨⟨by simp, _, rfl, rfl, rfl, rfl⟩, trivial⟩))

theorem runs_108 (v : Value) (L : List UInt8) (hL : L.length < 2 ^ 60) (c : Cur) (l : List Int) (h0 : 0 < l.length) (h1 : l.length ≤ 256) :
    Runs Tryz.prog 108 [.one (.box [.held v 1 (L.map bRow), .int .i64 c.i, .int .i64 c.h]), .one (.v (.list false 1 (l.map nRow)))] [.one (.v (.int .i64 (pickV L c l 0)))] [(0, ⟨true, 3, [[.held v 1 (L.map bRow), .int .i64 (byteC L c).i, .int .i64 (byteC L c).h]], []⟩)] := by
  refine runs_tabB (tab := [(0, .ptr 0 [] 0 0 0), (1, .c (.list false 1 (l.map nRow)))]) (rts := [(0, some ⟨true, 3, [[.held v 1 (L.map bRow), .int .i64 c.i, .int .i64 c.h]], []⟩)]) (n := 12) (k := 2) Tryz.func108 rfl rfl (by simp) rfl (fun t => ?_) rfl ?_
  · rcases t with _ | _ | t <;> rfl
  have rB := runs_79 v L hL c l.length h0 h1
  have hb := belV_in L c h0
  have hy : l[(belV L c l.length).toNat]? = some (pickV L c l 0) := by
    unfold pickV
    rw [List.getD_eq_getElem?_getD, List.getElem?_eq_getElem (by omega)]; rfl
  (refine vw_go rfl ?_; simp only [go_sem, setCells, setIn])
  (refine vw_go rfl ?_; simp only [go_sem, setCells, setIn])
  (refine ⟨_, _, call_pt [0, 0] 0 Tryz.func79 (rB) rfl rfl rfl rfl rfl rfl rfl rfl (by simp [lendAll, lendC, seek, fresh, nav, rcells, RT.cells, VV.cells, tabE_cons, tabS_cons, St.put, ev, lit, take_map_len]) rfl rfl (by simp [rcells, RT.cells, CT.fine, T.fine]) (by exact ⟨.inr ⟨0, _, _, rfl, .head _, .head _⟩, trivial, trivial, trivial⟩) rfl rfl, ?_⟩)
  simp only [runH, runX, hb.1, hb.2, getD_map_of hy, nRow, go_sem, setCells, setIn]
  exact vw_ret (e_ret (ret_b rfl rfl (by simp [RB]) rfl rfl ⟨⟨by simp, _, rfl, rfl, rfl, rfl⟩, trivial⟩))

def hashG (L : List UInt8) : Nat → Nat → Int → Int
  | 0, _, h => h
  | n + 1, i, h => hashG L n (i + 1) (andV (IntKind.wrap .i64 (IntKind.wrap .i64 (IntKind.wrap .i64 (h * 131) + ((L.getD i 0).toNat : Int)) + 7)) 1073741823)
def newC (L : List UInt8) : Cur := ⟨0, hashG L (min L.length 4000) 0 (19109 + L.length)⟩

theorem runs_45 (v : Value) (L : List UInt8) (hL : L.length < 2 ^ 60) (C : Cur) (hC : C = newC L) :
    Runs Tryz.prog 45 [.one (.v (.held v 1 (L.map bRow)))] [.one (.box [.held v 1 (L.map bRow), .int .i64 C.i, .int .i64 C.h])] [] := by
  refine runs_tab (tab := [(0, .c (.held v 1 (L.map bRow)))]) (rts := []) (n := 32) (k := 1) Tryz.func45 rfl rfl (by simp) rfl (fun t => ?_) rfl ?_
  · rcases t with _ | t <;> rfl
  have w0 : IntKind.wrap .i64 (19109 + (L.length : Int)) = 19109 + (L.length : Int) := wrap_i64 (by omega) (by omega)
  (refine vw_go rfl ?_; simp only [go_sem, setCells, setIn])
  (refine vw_go rfl ?_; simp only [w0, go_sem, setCells, setIn])
  refine vw_seq ?_
  (refine vw_go rfl ?_; simp only [go_sem, setCells, setIn])
  refine vw_block ?_
  refine vw_loop_tab (α := Nat × Int) (fun x => L.length - x.1) (fun x => ⟨tabE [(0, .c (.held v 1 (L.map bRow))), (3, .c (.int .i64 x.2)), (4, .c (.int .i64 x.1))], tabS [], 1⟩)
    (fun x => x.1 ≤ min L.length 4000 ∧ hashG L (min L.length 4000 - x.1) x.1 x.2 = C.h) (x := (0, 19109 + L.length)) ?round ?h0 ?hn
  case h0 => exact ⟨Nat.zero_le _, by rw [hC]; rfl⟩
  case hn => (refine norm_to [] rfl ?_ ?_ <;> simp only [go_sem])
  rintro ⟨i, h⟩ ⟨hi, hh⟩
  simp only at hi hh
  have c0 : (0:Int) ≤ (i : Int) := by omega
  by_cases hc : i < min L.length 4000
  case neg =>
    obtain rfl : i = min L.length 4000 := by omega
    rw [Nat.sub_self] at hh
    have h2 : hashG L 0 (min L.length 4000) h = h := rfl
    rw [h2] at hh
    subst hh
    have e0 : C.i = 0 := by rw [hC]; rfl
    refine vw_seq ?_
    by_cases hl : ((min L.length 4000 : Nat) : Int) < L.length
    · have hl2 : ¬ ((min L.length 4000 : Nat) : Int) < 4000 := by omega
      (refine vw_go rfl ?_; simp only [hl, hl2, go_sem, setCells, setIn])
      (refine vw_cond (t := false) rfl (fun h => nomatch h) (fun _ => ?_))
      refine vw_exit (x_then (x_then (x_block (n_then ?_))))
      (refine vw_go rfl ?_; simp only [e0, go_sem, setCells, setIn])
      exact vw_ret (e_ret (ret_of rfl rfl (by simp [RB]) rfl rfl))
    · (refine vw_go rfl ?_; simp only [hl, go_sem, setCells, setIn])
      (refine vw_cond (t := false) rfl (fun h => nomatch h) (fun _ => ?_))
      refine vw_exit (x_then (x_then (x_block (n_then ?_))))
      (refine vw_go rfl ?_; simp only [e0, go_sem, setCells, setIn])
      exact vw_ret (e_ret (ret_of rfl rfl (by simp [RB]) rfl rfl))
  have hi1 : (i : Int) < L.length := by omega
  have hi2 : (i : Int) < 4000 := by omega
  obtain ⟨y, hy⟩ : ∃ y, L[i]? = some y := ⟨_, List.getElem?_eq_getElem (by omega)⟩
  have w2 : IntKind.wrap .i64 (y.toNat : Int) = (y.toNat : Int) := by have := y.toNat_lt; exact wrap_i64 (by omega) (by omega)
  have w3 : IntKind.wrap .i64 ((i:Int) + 1) = ((i + 1 : Nat) : Int) := by rw [wrap_i64 (by omega) (by omega)]; rfl
  refine vw_seq ?_
  (refine vw_go rfl ?_; simp only [hi1, hi2, go_sem, setCells, setIn])
  (refine vw_cond (t := true) rfl (fun _ => ?_) (fun h => nomatch h))
  refine vw_skip (n_then ?_)
  refine vw_seq ?_
  refine vw_block ?_
  (refine vw_last rfl ?_; simp only [c0, hi1, Int.toNat_natCast, getD_map_of hy, bRow, w2, go_sem, setCells, setIn])
  refine (n_block (n_then ?_))
  (refine vw_last rfl ?_; simp only [w3, go_sem, setCells, setIn])
  refine (n_then ?_)
  refine ⟨(i + 1, andV (IntKind.wrap .i64 (IntKind.wrap .i64 (IntKind.wrap .i64 (h * 131) + (y.toNat : Int)) + 7)) 1073741823), by simp only; omega, ⟨by simp only; omega, ?_⟩, ?_⟩
  · rw [show min L.length 4000 - i = (min L.length 4000 - (i + 1)) + 1 from by omega, hashG, getD_of hy] at hh
    exact hh
  unfold andV
  (refine norm_to [] rfl ?_ ?_ <;> simp only [go_sem])
  rfl
end Go.Proofs.YtoenfbbadfcfpaaGreatDoor
namespace Go.Proofs.YtoenfbbadfcfpaaGreatDoor
open Go.VM
set_option maxRecDepth 100000
set_option linter.unusedSimpArgs false
set_option linter.unusedVariables false
attribute [local congr] vw_congr runV_congr runH_congr runW_congr runX_congr stuckV_congr stuckX_congr

structure TellV where
  code : Int
  text : ByteArray
  deriving DecidableEq
def TellV.ok (x : TellV) : Prop := x.text.size < 2 ^ 63
end Go.Proofs.YtoenfbbadfcfpaaGreatDoor
