/- What is planned, in plain Lean: burning, cleaning, making room. Places of the reference: l4Lives, Worst. -/
import Derived.Test.YtkijdbljnefeaaaGreatPFPlaceS
set_option linter.unusedSimpArgs false
set_option linter.unusedVariables false
namespace Go.Proofs.YtkijdbljnefeaaaGreat
open Go.VM Go
def aheadPFPlaceT1 : List (List Nat) := [[], [0], [0, 1], [0, 1, 2], [0, 1, 2], [0, 1, 2, 3, 4], [0, 1, 2, 3, 4, 5], [0, 1, 2, 3, 4, 5, 6], [0, 1, 2, 3, 4, 5, 6, 7], [0, 1, 2, 3, 4, 5, 6, 7], [0, 1, 2, 3, 4, 5, 6, 7, 8, 9], [0, 1, 2, 3, 4, 5, 6, 7, 8, 9, 10], [0, 1, 2, 3, 4, 5, 6, 7, 8, 9, 10, 11], [0, 1, 2, 3, 4, 5, 6, 7, 8, 9, 10, 11, 12], [0, 1, 2, 3, 4, 5, 6, 7, 8, 9, 10, 11, 12, 13], [0, 1, 2, 3, 4, 5, 6, 7, 8, 9, 10, 11], [0, 1, 2, 3, 4, 5, 6, 7, 8, 9, 10, 11, 12, 13, 14, 15], [0, 1, 2, 3, 4, 5, 6, 7, 8, 9, 10, 11, 12, 13, 14, 15, 16], [0, 1, 2, 3, 4, 5, 6, 7, 8, 9, 10, 11], [0, 1, 2, 3, 4, 5, 6, 7, 8, 9, 10, 11, 18], [0, 1, 2, 3, 4, 5, 6, 7, 8, 9, 10, 11, 18, 19], [0, 1, 2, 3, 4, 5, 6, 7, 8, 9, 10, 11], [0, 1, 2, 3, 4, 5, 6, 7, 8, 9, 10, 11, 18, 19, 20, 21], [0, 1, 2, 3, 4, 5, 6, 7, 8, 9, 10, 11, 18, 19, 20, 21, 22], [0, 1, 2, 3, 4, 5, 6, 7, 8, 9, 10, 11, 12, 13, 14, 15, 16, 17, 18, 19, 20, 21, 22, 23], [0, 1, 2, 3, 4, 5, 6, 7, 8, 9, 10, 11, 12, 13, 14, 15, 16, 17, 18, 19, 20, 21, 22, 23, 24], [0, 1, 2, 3, 4, 5, 6, 7, 8, 9, 10, 11, 12, 13, 14, 15, 16, 17, 18, 19, 20, 21, 22, 23, 24, 25]]
structure ActV where
  kind : Int
  at_ : Int
  text : ByteArray
def actRow (a : ActV) : List T := [.int .i64 a.kind, .int .i64 a.at_, .str a.text]
structure WorkV where
  f : FtlV
  acts : List ActV
  ok : Bool
/-- The shape of what is worked on. -/
structure FShape (f : FtlV) : Prop where
  pl : f.pages.length = 60
  ps : ∀ s ∈ f.pages, s.size ≤ 800
  wl : f.wear.length = 10
  wb : ∀ n ∈ f.wear, 0 ≤ n ∧ n ≤ 1000000000
  ml : f.map.length = 26
  mb : ∀ n ∈ f.map, -1 ≤ n ∧ n < 60
  q1 : 1 ≤ f.seq
  q2 : f.seq ≤ 1000000000
theorem FShape.small {f : FtlV} (h : FShape f) : f.small :=
  ⟨by rw [h.pl]; decide, by rw [h.wl]; decide, by rw [h.ml]; decide, fun s hs => Nat.lt_of_le_of_lt (h.ps s hs) (by decide)⟩
theorem chipOk_parts {p : List ByteArray} {w : List Int} (h : chipOk p w = true) : p.length = 60 ∧ (∀ s ∈ p, s.size ≤ 800) ∧ w.length = 10 ∧ ∀ n ∈ w, 0 ≤ n ∧ n ≤ 1000000000 := by
  unfold chipOk at h
  simp only [Bool.and_eq_true, decide_eq_true_eq, Bool.not_eq_true', List.any_eq_false, decide_eq_false_iff_not] at h
  obtain ⟨⟨h1, h2⟩, h3, h4⟩ := h
  refine ⟨by omega, fun s hs => by have := h3 s hs; omega, by omega, fun n hn => ?_⟩
  have := h4 n hn
  unfold inB at this
  simpa using this
theorem chipOk_of {p : List ByteArray} {w : List Int} (h1 : p.length = 60) (h2 : ∀ s ∈ p, s.size ≤ 800) (h3 : w.length = 10) (h4 : ∀ n ∈ w, 0 ≤ n ∧ n ≤ 1000000000) : chipOk p w = true := by
  unfold chipOk
  simp only [Bool.and_eq_true, decide_eq_true_eq, Bool.not_eq_true', List.any_eq_false, decide_eq_false_iff_not]
  refine ⟨⟨by omega, by omega⟩, fun s hs => by have := h2 s hs; omega, fun n hn => ?_⟩
  have := h4 n hn
  unfold inB
  simpa using this
theorem mountC_shape {p : List ByteArray} {w : List Int} (h : chipOk p w = true) : FShape (mountC p w) ∧ (mountC p w).pages = p ∧ (mountC p w).wear = w := by
  obtain ⟨h1, h2, h3, h4⟩ := chipOk_parts h
  obtain ⟨m1, m2, m3⟩ := mount_inv p
  unfold mountC
  rw [if_pos h]
  refine ⟨⟨h1, h2, h3, h4, m1, fun n hn => ?_, m2.1, m2.2⟩, rfl, rfl⟩
  obtain ⟨j, hj⟩ := List.getElem?_of_mem hn
  rcases m3 j n hj with e | ⟨k, u, e, hk, _⟩
  · omega
  · have := (List.getElem?_eq_some_iff.1 hk).1
    omega
theorem recText_size (s q : Int) (d : ByteArray) : (recText s q d).size ≤ 800 := by
  unfold recText
  split
  · rw [show (⟨(putNum (sumB (recBody s q d)) ++ recBody s q d).toArray⟩ : ByteArray).size = (putNum (sumB (recBody s q d)) ++ recBody s q d).length from by simp [ByteArray.size]]
    unfold recBody
    simp only [List.length_append]
    have h1 := putNum_len (sumB ((putNum s ++ putNum q) ++ putText d))
    have h2 := putNum_len s
    have h3 := putNum_len q
    have h4 := putText_len d
    omega
  · exact Nat.zero_le _
theorem recText_sector {s q : Int} {d : ByteArray} (h : recText s q d ≠ ⟨#[]⟩) : 0 ≤ s ∧ s ≤ 25 := by
  unfold recText at h
  split at h
  · rename_i hk
    unfold recOkB inB at hk
    simp only [Bool.and_eq_true, decide_eq_true_eq] at hk
    omega
  · exact absurd rfl h
def burnW (W : WorkV) (s : Int) (d : ByteArray) : WorkV :=
  if nextF W.f.pages W.f.wear < 0 ∨ recText s W.f.seq d = ⟨#[]⟩ ∨ W.f.seq = 1000000000 then { W with ok := false }
  else ⟨⟨W.f.pages.set (nextF W.f.pages W.f.wear).toNat (recText s W.f.seq d), W.f.wear, W.f.map.set s.toNat (nextF W.f.pages W.f.wear), W.f.seq + 1⟩, W.acts ++ [⟨1, nextF W.f.pages W.f.wear, recText s W.f.seq d⟩], W.ok⟩
theorem burnW_shape {W : WorkV} (h : FShape W.f) (s : Int) (d : ByteArray) : FShape (burnW W s d).f ∧ (burnW W s d).acts.length ≤ W.acts.length + 1 := by
  unfold burnW
  split
  · exact ⟨h, Nat.le_succ _⟩
  · rename_i hc
    have hn := nextF_in W.f.pages W.f.wear
    refine ⟨⟨by simp only [List.length_set]; exact h.pl, fun t ht => ?_, h.wl, h.wb, by simp only [List.length_set]; exact h.ml, fun n hn2 => ?_, ?_, ?_⟩, by simp⟩
    · rcases List.mem_or_eq_of_mem_set ht with h1 | h1
      · exact h.ps t h1
      · rw [h1]; exact recText_size _ _ _
    · rcases List.mem_or_eq_of_mem_set hn2 with h1 | h1
      · exact h.mb n h1
      · rw [h1]; exact ⟨hn.1, hn.2⟩
    · have := h.q1; simp only; omega
    · have := h.q2
      have : ¬ W.f.seq = 1000000000 := fun e => hc (.inr (.inr e))
      simp only; omega
def wipeTo (p : List ByteArray) (b : Nat) : Nat → List ByteArray
  | 0 => p
  | i + 1 => (wipeTo p b i).set (b * 6 + i) ⟨#[]⟩
theorem wipeTo_shape (p : List ByteArray) (b m : Nat) (hp : ∀ s ∈ p, s.size ≤ m) : ∀ i, (wipeTo p b i).length = p.length ∧ ∀ s ∈ wipeTo p b i, s.size ≤ m
  | 0 => ⟨rfl, hp⟩
  | i + 1 => by
    obtain ⟨h1, h2⟩ := wipeTo_shape p b m hp i
    unfold wipeTo
    refine ⟨by rw [List.length_set, h1], fun s hs => ?_⟩
    rcases List.mem_or_eq_of_mem_set hs with h | h
    · exact h2 s h
    · rw [h]; exact Nat.zero_le _
def wearUp (w : List Int) (b : Nat) : List Int := w.set b (w.getD b 0 + 1)
theorem wearUp_ok {w : List Int} {b : Nat} (hw : ∀ n ∈ w, 0 ≤ n ∧ n ≤ 1000000000) (h : w.getD b 0 ≠ 1000000000) : ∀ n ∈ wearUp w b, 0 ≤ n ∧ n ≤ 1000000000 := by
  intro n hn
  unfold wearUp at hn
  rcases List.mem_or_eq_of_mem_set hn with h1 | h1
  · exact hw n h1
  · have : 0 ≤ w.getD b 0 ∧ w.getD b 0 ≤ 1000000000 := by
      rw [List.getD_eq_getElem?_getD]
      cases e : w[b]? with
      | none => exact ⟨by decide, by decide⟩
      | some x => exact hw x (List.mem_of_getElem? e)
    omega
/-- Over what lives in a block. -/
def cleanGo (b : Int) : List Int → WorkV → WorkV
  | [], W => W
  | x :: r, W => if W.ok = false then W
    else if nextF W.f.pages W.f.wear < 0 ∨ nextF W.f.pages W.f.wear / 6 = b then { W with ok := false }
    else cleanGo b r (burnW W (recReadS (W.f.pages.getD x.toNat ⟨#[]⟩)).1.1 (recReadS (W.f.pages.getD x.toNat ⟨#[]⟩)).1.2.2)
theorem cleanGo_shape (b : Int) : ∀ (l : List Int) (W : WorkV), FShape W.f → FShape (cleanGo b l W).f ∧ (cleanGo b l W).acts.length ≤ W.acts.length + l.length
  | [], W, h => ⟨h, Nat.le_refl _⟩
  | x :: r, W, h => by
    unfold cleanGo
    split
    · exact ⟨h, by simp⟩
    split
    · exact ⟨h, by simp⟩
    · obtain ⟨h1, h2⟩ := burnW_shape h (recReadS (W.f.pages.getD x.toNat ⟨#[]⟩)).1.1 (recReadS (W.f.pages.getD x.toNat ⟨#[]⟩)).1.2.2
      obtain ⟨h3, h4⟩ := cleanGo_shape b r _ h1
      exact ⟨h3, by rw [List.length_cons]; omega⟩
def cleanEnd (W : WorkV) (b : Nat) : WorkV :=
  if W.ok = false ∨ W.f.wear.getD b 0 = 1000000000 then { W with ok := false }
  else ⟨mountC (wipeTo W.f.pages b 6) (wearUp W.f.wear b), W.acts ++ [⟨2, b, ⟨#[]⟩⟩], W.ok⟩
theorem cleanEnd_shape {W : WorkV} (h : FShape W.f) (b : Nat) : FShape (cleanEnd W b).f ∧ (cleanEnd W b).acts.length ≤ W.acts.length + 1 := by
  unfold cleanEnd
  split
  · exact ⟨h, Nat.le_succ _⟩
  · rename_i hc
    obtain ⟨h1, h2⟩ := wipeTo_shape W.f.pages b 800 h.ps 6
    refine ⟨(mountC_shape (chipOk_of (by rw [h1, h.pl]) h2 (by unfold wearUp; rw [List.length_set, h.wl]) (wearUp_ok h.wb (fun e => hc (.inr e))))).1, by simp⟩
def cleanW (W : WorkV) (b : Nat) : WorkV := cleanEnd (cleanGo b (livesF W.f.map b) W) b
theorem once_le {v : Int} : ∀ {l : List Int}, (∀ i j : Nat, l[i]? = some v → l[j]? = some v → i = j) → (l.filter (fun x => decide (x = v))).length ≤ 1
  | [], _ => Nat.zero_le _
  | x :: l, h => by
    rw [List.filter_cons]
    by_cases hx : x = v
    · have hn : ∀ y ∈ l, ¬ y = v := fun y hy e => by
        obtain ⟨j, hj⟩ := List.getElem?_of_mem hy
        have := h 0 (j + 1) (by rw [List.getElem?_cons_zero, hx]) (by rw [List.getElem?_cons_succ, hj, e])
        omega
      rw [decide_eq_true hx, if_pos rfl, List.filter_eq_nil_iff.2 (fun y hy => by simp [hn y hy])]
      exact Nat.le_refl _
    · rw [decide_eq_false hx, if_neg (by simp)]
      exact once_le (fun i j hi hj => by
        have := h (i + 1) (j + 1) (by simpa using hi) (by simpa using hj)
        omega)
theorem right_once {f : FtlV} (h : f.right) (v : Nat) : ∀ i j : Nat, f.map[i]? = some (v : Int) → f.map[j]? = some (v : Int) → i = j := by
  intro i j hi hj
  rcases h.at_ i _ hi with e | ⟨a, u, ea, hu, _, es⟩
  · omega
  rcases h.at_ j _ hj with e | ⟨b, t, eb, ht, _, et⟩
  · omega
  obtain rfl : a = b := by omega
  rw [hu] at ht
  obtain rfl := Option.some.inj ht
  omega
theorem livesTo_len {f : FtlV} (h : f.right) (b : Nat) : ∀ i, (livesTo f.map b i).length ≤ i
  | 0 => Nat.le_refl _
  | i + 1 => by
    have h1 := livesTo_len h b i
    have h2 := once_le (right_once h (b * 6 + i))
    unfold livesTo
    rw [List.length_append]
    omega
theorem livesF_len {f : FtlV} (h : f.right) (b : Nat) : (livesF f.map b).length ≤ 6 := livesTo_len h b 6
theorem mountC_right {p : List ByteArray} {w : List Int} (h : chipOk p w = true) : (mountC p w).right := by
  obtain ⟨h1, h2, h3⟩ := mountC_shape h
  obtain ⟨m1, m2, m3⟩ := mount_inv p
  refine ⟨h1.small, h1.ml, ?_⟩
  unfold mountC
  rw [if_pos h]
  exact m3
theorem livesF_mem {m : List Int} {b : Nat} {x : Int} (h : x ∈ livesF m b) : ∃ i : Nat, i < 6 ∧ x = ((b * 6 + i : Nat) : Int) ∧ x ∈ m := by
  have hg : ∀ i, x ∈ livesTo m b i → ∃ j : Nat, j < i ∧ x = ((b * 6 + j : Nat) : Int) ∧ x ∈ m := by
    intro i
    induction i with
    | zero => intro h; cases h
    | succ i ih =>
      intro h
      unfold livesTo at h
      rcases List.mem_append.1 h with h | h
      · obtain ⟨j, h1, h2⟩ := ih h
        exact ⟨j, by omega, h2⟩
      · rw [List.mem_filter, decide_eq_true_eq] at h
        exact ⟨i, by omega, h.2, h.1⟩
  exact hg 6 h
/-- What is right, and of the shape. -/
structure FGood (f : FtlV) : Prop where
  shape : FShape f
  right : f.right
theorem shape_chip {f : FtlV} (h : FShape f) : chipOk f.pages f.wear = true := chipOk_of h.pl h.ps h.wl h.wb
theorem mountC_good {p : List ByteArray} {w : List Int} (h : chipOk p w = true) : FGood (mountC p w) := ⟨(mountC_shape h).1, mountC_right h⟩
theorem cleanW_shape {W : WorkV} (h : FGood W.f) (b : Nat) : FShape (cleanW W b).f ∧ (cleanW W b).acts.length ≤ W.acts.length + 7 ∧ ((cleanW W b).ok = true → FGood (cleanW W b).f) := by
  obtain ⟨h1, h2⟩ := cleanGo_shape b (livesF W.f.map b) W h.shape
  obtain ⟨h3, h4⟩ := cleanEnd_shape h1 b
  have h5 := livesF_len h.right b
  refine ⟨h3, by unfold cleanW; omega, fun hok => ?_⟩
  unfold cleanW at hok ⊢
  generalize cleanGo b (livesF W.f.map b) W = V at h1 hok h3
  unfold cleanEnd at hok h3 ⊢
  split at hok
  · cases hok
  · rename_i hc
    rw [if_neg hc] at h3 ⊢
    obtain ⟨g1, g2⟩ := wipeTo_shape V.f.pages b 800 h1.ps 6
    exact mountC_good (chipOk_of (by rw [g1, h1.pl]) g2 (by unfold wearUp; rw [List.length_set, h1.wl]) (wearUp_ok h1.wb (fun e => hc (.inr e))))
/-- The block that is worth the least, out of those but the open one. -/
def worstGo (f : FtlV) (op : Int) : Nat → Nat → Int → Int → Int × Int
  | 0, _, best, few => (best, few)
  | n + 1, b, best, few =>
    if (clearF f.pages b).1 = 6 ∨ (b : Int) = op then worstGo f op n (b + 1) best few
    else if best < 0 ∨ ((livesF f.map b).length : Int) < few ∨ (((livesF f.map b).length : Int) = few ∧ f.wear.getD b 0 < f.wear.getD best.toNat 0) then worstGo f op n (b + 1) b (livesF f.map b).length
    else worstGo f op n (b + 1) best few
def worstF (f : FtlV) : Int := if ftlOk f = true then (if (worstGo f (openF f.pages f.wear) 10 0 (-1) 0).2 = 6 then -1 else (worstGo f (openF f.pages f.wear) 10 0 (-1) 0).1) else -1
theorem worstGo_in (f : FtlV) (op : Int) : ∀ (n b : Nat) (best few : Int), b + n = 10 → -1 ≤ best → best < 10 → -1 ≤ (worstGo f op n b best few).1 ∧ (worstGo f op n b best few).1 < 10
  | 0, b, best, few, _, h1, h2 => ⟨h1, h2⟩
  | n + 1, b, best, few, hb, h1, h2 => by
    unfold worstGo
    split
    · exact worstGo_in f op n (b + 1) best few (by omega) h1 h2
    split
    · exact worstGo_in f op n (b + 1) b _ (by omega) (by omega) (by omega)
    · exact worstGo_in f op n (b + 1) best few (by omega) h1 h2
theorem worstF_in (f : FtlV) : -1 ≤ worstF f ∧ worstF f < 10 := by
  unfold worstF
  split
  · split
    · decide
    · exact worstGo_in f _ 10 0 (-1) 0 rfl (by decide) (by decide)
  · decide
def roomGo : Nat → WorkV → WorkV
  | 0, W => W
  | n + 1, W => if W.ok = false then W
    else if 2 < (freeB W.f.pages W.f.wear).length ∨ ((freeB W.f.pages W.f.wear).length = 2 ∧ 0 ≤ openF W.f.pages W.f.wear) then W
    else if worstF W.f < 0 then { W with ok := false }
    else roomGo n (cleanW W (worstF W.f).toNat)
theorem roomGo_shape : ∀ (n : Nat) (W : WorkV), FShape W.f → (W.ok = true → FGood W.f) → FShape (roomGo n W).f ∧ (roomGo n W).acts.length ≤ W.acts.length + 7 * n
  | 0, W, h, _ => ⟨h, Nat.le_refl _⟩
  | n + 1, W, h, hg => by
    unfold roomGo
    split
    · exact ⟨h, by omega⟩
    rename_i hok
    have hg := hg (by cases e : W.ok; exact absurd e hok; rfl)
    split
    · exact ⟨h, by omega⟩
    split
    · exact ⟨h, by simp only; omega⟩
    · obtain ⟨h1, h2, h3⟩ := cleanW_shape hg (worstF W.f).toNat
      obtain ⟨h4, h5⟩ := roomGo_shape n _ h1 h3
      exact ⟨h4, by omega⟩
def doneW (f : FtlV) (W : WorkV) : List ActV × FtlV × Bool := if W.ok = false then ([], f, false) else (W.acts, mountC W.f.pages W.f.wear, true)
def planW (f : FtlV) (s : Int) (d : ByteArray) : WorkV := if (roomGo 10 ⟨f, [], recOkB s f.seq d⟩).ok = true then burnW (roomGo 10 ⟨f, [], recOkB s f.seq d⟩) s d else roomGo 10 ⟨f, [], recOkB s f.seq d⟩
def planF (f : FtlV) (s : Int) (d : ByteArray) : List ActV × FtlV × Bool := if ftlOk f = true then doneW f (planW f s d) else ([], zFtl, false)
theorem planW_shape {f : FtlV} (h : FGood f) (s : Int) (d : ByteArray) : FShape (planW f s d).f ∧ (planW f s d).acts.length ≤ 71 := by
  obtain ⟨h1, h2⟩ := roomGo_shape 10 ⟨f, [], recOkB s f.seq d⟩ h.shape (fun _ => h)
  unfold planW
  simp only [List.length_nil] at h2
  split
  · obtain ⟨h3, h4⟩ := burnW_shape h1 s d
    exact ⟨h3, by omega⟩
  · exact ⟨h1, by omega⟩
theorem planF_shape {f : FtlV} (h : FGood f) (s : Int) (d : ByteArray) : (planF f s d).1.length ≤ 71 ∧ ((planF f s d).2.2 = true → FGood (planF f s d).2.1) := by
  obtain ⟨h1, h2⟩ := planW_shape h s d
  unfold planF doneW
  split
  · split
    · exact ⟨Nat.zero_le _, fun h => nomatch h⟩
    · exact ⟨h2, fun _ => mountC_good (shape_chip h1)⟩
  · exact ⟨Nat.zero_le _, fun h => nomatch h⟩
end Go.Proofs.YtkijdbljnefeaaaGreat
namespace Go.Proofs.YtkijdbljnefeaaaGreat
open Go.VM Go
set_option maxRecDepth 100000
attribute [-go_sem] runW_cons
attribute [local congr] vw_congr runV_congr runH_congr runW_congr runX_congr stuckV_congr stuckX_congr
theorem filter_take {l : List Int} {s : Nat} {x : Int} (v : Int) (h : l[s]? = some x) : (l.take (s + 1)).filter (fun x => decide (x = v)) = (l.take s).filter (fun x => decide (x = v)) ++ (if x = v then [v] else []) := by
  rw [List.take_add_one, h, List.filter_append]
  by_cases e : x = v
  · simp [e]
  · simp [e]
set_option maxHeartbeats 1000000 in
theorem runs_34 (f : FtlV) (hm : f.map.length ≤ 100) (b : Nat) (hb : b < 10) :
    Runs Tryz.prog 34 [.agg [.v (.list false 1 (f.pages.map sRow)), .v (.list false 1 (f.wear.map nRow)), .v (.list false 1 (f.map.map nRow)), .v (.int .i64 f.seq)], .one (.v (.int .i64 b))] [.one (.v (.list true 1 ((livesF f.map b).map nRow)))] [] := by
  refine runs_tab (tab := [(0, .agg [.c (.list false 1 (f.pages.map sRow)), .c (.list false 1 (f.wear.map nRow)), .c (.list false 1 (f.map.map nRow)), .c (.int .i64 f.seq)]), (1, .c (.int .i64 b))]) (rts := []) (n := 38) (k := 5) Tryz.func34 rfl rfl (by simp) rfl (fun t => ?_) rfl ?_
  · rcases t with _ | _ | t <;> rfl
  refine vw_go rfl ?_; simp only [go_sem, setCells, setIn]
  refine vw_go rfl ?_; simp only [range1, List.replicate_succ, List.replicate_zero, List.flatten_cons, List.flatten_nil, List.range_zero, gt_iff_lt, go_sem, setCells, setIn]
  refine vw_seq ?_
  refine vw_go rfl ?_; simp only [go_sem, setCells, setIn]
  refine vw_block ?_
  refine vw_loop_tab (α := Nat × List Int × List Path) (fun x => 6 - x.1) (fun x => ⟨tabE [(1, .c (.int .i64 b)), (2, .ptr 5 [] 0 0 0), (5, .al 6 [] 0 1 0 x.2.1.length), (6, .c (.int .i64 x.1))], tabS [(5, some ⟨true, 4, [[.list false 1 (f.pages.map sRow), .list false 1 (f.wear.map nRow), .list false 1 (f.map.map nRow), .int .i64 f.seq]], []⟩), (6, some ⟨false, 1, x.2.1.map nRow, x.2.2⟩)], 7⟩)
    (fun x => x.1 ≤ 6 ∧ x.2.1 = livesTo f.map b x.1 ∧ x.2.1.length ≤ 100 * x.1) (x := (0, [], [])) ?round ?h0 ?hn
  case h0 => exact ⟨Nat.zero_le _, rfl, Nat.le_refl _⟩
  case hn =>
    refine norm_to [(5, 5), (65541, 6)] rfl ?_ ?_ <;> simp only [go_sem]
  rintro ⟨i, q, lg⟩ ⟨hi, hq, hql⟩
  simp only at hi hq hql
  refine vw_seq ?_
  by_cases hc : (i : Int) < 6
  case neg =>
    obtain rfl : i = 6 := by omega
    have bq : List.take q.length (q.map nRow) = q.map nRow := List.take_of_length_le (by simp)
    unfold livesF
    rw [← hq]
    refine vw_go rfl ?_; simp only [hc, go_sem, setCells, setIn]
    refine vw_cond (t := false) rfl (fun h => nomatch h) (fun _ => ?_)
    refine vw_exit (x_then (x_then (x_block (n_then ?_))))
    refine vw_go rfl ?_; simp only [go_sem, setCells, setIn]
    exact vw_ret (e_ret (ret_by rfl rfl (by simp [RB]) rfl (by simp only [takeCs, takeC, go_sem, setCells, setIn])))
  have w1 : IntKind.wrap .i64 ((i:Int) + 1) = ((i + 1 : Nat) : Int) := by rw [wrap_i64 (by omega) (by omega)]; rfl
  have w4 : IntKind.wrap .i64 ((b : Int) * 6) = (b : Int) * 6 := wrap_i64 (by omega) (by omega)
  have w5 : IntKind.wrap .i64 ((b : Int) * 6 + (i : Int)) = ((b * 6 + i : Nat) : Int) := by rw [wrap_i64 (by omega) (by omega)]; push_cast; rfl
  refine vw_go rfl ?_; simp only [hc, go_sem, setCells, setIn]
  refine vw_cond (t := true) rfl (fun _ => ?_) (fun h => nomatch h)
  refine vw_skip (n_then ?_)
  refine vw_seq ?_
  refine vw_block ?_
  refine vw_go rfl ?_; simp only [go_sem, setCells, setIn]
  refine vw_block ?_
  refine vw_loop_tab (α := Nat × List Int × List Path) (fun x => f.map.length - x.1) (fun x => ⟨tabE [(1, .c (.int .i64 b)), (2, .ptr 5 [] 0 0 0), (5, .al 6 [] 0 1 0 x.2.1.length), (6, .c (.int .i64 i)), (7, .c (.int .i64 x.1))], tabS [(5, some ⟨true, 4, [[.list false 1 (f.pages.map sRow), .list false 1 (f.wear.map nRow), .list false 1 (f.map.map nRow), .int .i64 f.seq]], []⟩), (6, some ⟨false, 1, x.2.1.map nRow, x.2.2⟩)], 7⟩)
    (fun x => x.1 ≤ f.map.length ∧ x.2.1 = q ++ (f.map.take x.1).filter (fun x => decide (x = ((b * 6 + i : Nat) : Int))) ∧ x.2.1.length ≤ 100 * i + x.1) (x := (0, q, lg)) ?round2 ?h02 ?hn2
  case h02 => exact ⟨Nat.zero_le _, by rw [List.take_zero, List.filter_nil, List.append_nil], by simp only; omega⟩
  case hn2 =>
    refine norm_to [(5, 5), (6, 6)] rfl ?_ ?_ <;> simp only [go_sem]
  rintro ⟨s, u, lu⟩ ⟨hs, hu, hul⟩
  simp only at hs hu hul
  refine vw_seq ?_
  by_cases hd : (s : Int) < f.map.length
  case neg =>
    obtain rfl : s = f.map.length := by omega
    rw [List.take_length] at hu
    have hl2 : livesTo f.map b (i + 1) = u := by rw [livesTo, ← hq, hu]
    refine vw_go rfl ?_; simp only [hd, go_sem, setCells, setIn]
    refine vw_cond (t := false) rfl (fun h => nomatch h) (fun _ => ?_)
    refine vw_exit (x_then (x_then (x_block (n_block (n_then ?_)))))
    refine vw_last rfl ?_; simp only [w1, go_sem, setCells, setIn]
    refine (n_then ?_)
    refine ⟨(i + 1, u, lu), by simp only; omega, ⟨by simp only; omega, hl2.symm, by simp only; omega⟩, ?_⟩
    refine norm_to [(5, 5), (6, 6)] rfl ?_ ?_ <;> simp only [go_sem]
  obtain ⟨x, hx⟩ : ∃ x, f.map[s]? = some x := ⟨_, List.getElem?_eq_getElem (by omega)⟩
  have d0 : (0:Int) ≤ (s : Int) := by omega
  have d1 : s < f.map.length := by omega
  have w3 : IntKind.wrap .i64 ((s:Int) + 1) = ((s + 1 : Nat) : Int) := by rw [wrap_i64 (by omega) (by omega)]; rfl
  have bu : List.take u.length (u.map nRow) = u.map nRow := List.take_of_length_le (by simp)
  have hf := filter_take ((b * 6 + i : Nat) : Int) hx
  refine vw_go rfl ?_; simp only [hd, go_sem, setCells, setIn]
  refine vw_cond (t := true) rfl (fun _ => ?_) (fun h => nomatch h)
  refine vw_skip (n_then ?_)
  refine vw_seq ?_
  refine vw_block ?_
  by_cases he : x = ((b * 6 + i : Nat) : Int)
  · rw [if_pos he] at hf
    have B1 : ¬ (u.length + 1 + 1) * (8 + 1) > bigRow := big9 (by omega)
    refine vw_go rfl ?_; simp only [d0, hd, d1, Int.toNat_natCast, getD_map_of hx, nRow, w4, w5, he, go_sem, setCells, setIn]
    refine vw_cond (t := true) rfl (fun _ => ?_) (fun h => nomatch h)
    refine vw_last rfl ?_; simp only [bu, w4, w5, B1, range1, List.replicate_succ, List.replicate_zero, List.flatten_cons, List.flatten_nil, List.range_zero, gt_iff_lt, List.drop_length, go_sem, setCells, setIn]
    refine (n_block (n_then ?_))
    refine vw_last rfl ?_; simp only [w3, go_sem, setCells, setIn]
    refine (n_then ?_)
    have e4 : u.map nRow ++ [[.int .i64 ((b * 6 + i : Nat) : Int)]] = (u ++ [((b * 6 + i : Nat) : Int)]).map nRow := by simp [nRow]
    rw [e4]
    refine ⟨(s + 1, u ++ [((b * 6 + i : Nat) : Int)], []), by simp only; omega, ⟨by simp only; omega, by rw [hf, hu, List.append_assoc], by simp; omega⟩, ?_⟩
    have e5 : u.length + 1 = (u ++ [((b * 6 + i : Nat) : Int)]).length := by simp
    rw [e5]
    generalize u ++ [((b * 6 + i : Nat) : Int)] = u'
    refine norm_to [(5, 5), (137223, 6)] rfl ?_ ?_ <;> simp only [go_sem]
  · rw [if_neg he, List.append_nil] at hf
    refine vw_go rfl ?_; simp only [d0, hd, d1, Int.toNat_natCast, getD_map_of hx, nRow, w4, w5, he, go_sem, setCells, setIn]
    refine vw_cond (t := false) rfl (fun h => nomatch h) (fun _ => ?_)
    refine vw_skip (n_block (n_then ?_))
    refine vw_last rfl ?_; simp only [w3, go_sem, setCells, setIn]
    refine (n_then ?_)
    refine ⟨(s + 1, u, lu), by simp only; omega, ⟨by simp only; omega, by rw [hf]; exact hu, by simp only; omega⟩, ?_⟩
    refine norm_to [(5, 5), (6, 6)] rfl ?_ ?_ <;> simp only [go_sem]
set_option maxHeartbeats 2000000 in
theorem runs_110 (f : FtlV) (hs : FShape f) : Runs Tryz.prog 110 [.agg [.v (.list false 1 (f.pages.map sRow)), .v (.list false 1 (f.wear.map nRow)), .v (.list false 1 (f.map.map nRow)), .v (.int .i64 f.seq)]] [.one (.v (.int .i64 (worstF f)))] [] := by
  refine runs_tab (tab := [(0, .agg [.c (.list false 1 (f.pages.map sRow)), .c (.list false 1 (f.wear.map nRow)), .c (.list false 1 (f.map.map nRow)), .c (.int .i64 f.seq)])]) (rts := []) (n := 70) (k := 4) Tryz.func110 rfl rfl (by simp) rfl (fun t => ?_) rfl ?_
  · rcases t with _ | t <;> rfl
  have rO := runs_33 f hs.small
  have rN := runs_109 f.pages f.wear hs.pl hs.wl
  unfold worstF
  cases hok : ftlOk f
  · rw [hok] at rO
    rw [if_neg (by simp)]
    refine vw_go rfl ?_; simp only [go_sem, setCells, setIn]
    refine vw_seq ?_
    refine vw_go rfl ?_; simp only [go_sem, setCells, setIn]
    refine ⟨_, _, call_rx [0] Tryz.func33 (rO) rfl rfl rfl rfl rfl rfl rfl (by simp [lendAll, lendC, seek, fresh, nav, rcells, RT.cells, VV.cells, tabE_cons, tabS_cons, ev, take_map_len, sRow_r1, sRow_comp, sRow_clean, nRow_r1, nRow_comp, nRow_clean]) rfl (by simp [rcells, RT.cells, CT.clean, T.clean, sRow_r1, sRow_comp, sRow_clean, nRow_r1, nRow_comp, nRow_clean]) rfl rfl, ?_⟩
    simp only [runH, runX, go_sem, setCells, setIn]
    refine vw_cond (t := true) rfl (fun _ => ?_) (fun h => nomatch h)
    refine vw_go rfl ?_; simp only [go_sem, setCells, setIn]
    exact vw_ret (r_then (e_ret (ret_of rfl rfl (by simp [RB]) rfl rfl)))
  rw [hok] at rO
  rw [if_pos rfl]
  generalize openF f.pages f.wear = op at rN ⊢
  generalize hW : worstGo f op 10 0 (-1) 0 = W
  refine vw_go rfl ?_; simp only [go_sem, setCells, setIn]
  refine vw_seq ?_
  refine vw_go rfl ?_; simp only [go_sem, setCells, setIn]
  refine ⟨_, _, call_rx [0] Tryz.func33 (rO) rfl rfl rfl rfl rfl rfl rfl (by simp [lendAll, lendC, seek, fresh, nav, rcells, RT.cells, VV.cells, tabE_cons, tabS_cons, ev, take_map_len, sRow_r1, sRow_comp, sRow_clean, nRow_r1, nRow_comp, nRow_clean]) rfl (by simp [rcells, RT.cells, CT.clean, T.clean, sRow_r1, sRow_comp, sRow_clean, nRow_r1, nRow_comp, nRow_clean]) rfl rfl, ?_⟩
  simp only [runH, runX, go_sem, setCells, setIn]
  refine vw_cond (t := false) rfl (fun h => nomatch h) (fun _ => ?_)
  refine vw_skip (n_then ?_)
  refine vw_go rfl ?_; simp only [go_sem, setCells, setIn]
  refine vw_go rfl ?_; simp only [go_sem, setCells, setIn]
  refine ⟨_, _, call_rx [0] Tryz.func109 (rN) rfl rfl rfl rfl rfl rfl rfl (by simp [lendAll, lendC, seek, fresh, nav, rcells, RT.cells, VV.cells, tabE_cons, tabS_cons, ev, take_map_len, sRow_r1, sRow_comp, sRow_clean, nRow_r1, nRow_comp, nRow_clean]) rfl (by simp [rcells, RT.cells, CT.clean, T.clean, sRow_r1, sRow_comp, sRow_clean, nRow_r1, nRow_comp, nRow_clean]) rfl rfl, ?_⟩
  simp only [runH, runX, go_sem, setCells, setIn]
  refine vw_seq ?_
  refine vw_go rfl ?_; simp only [go_sem, setCells, setIn]
  refine vw_block ?_
  refine vw_loop_tab (α := Nat × Int × Int) (fun x => 10 - x.1) (fun x => ⟨tabE [(1, .ptr 4 [] 0 0 0), (3, .c (.int .i64 x.2.1)), (4, .c (.int .i64 x.2.2)), (5, .c (.int .i64 op)), (6, .c (.int .i64 x.1))], tabS [(4, some ⟨true, 4, [[.list false 1 (f.pages.map sRow), .list false 1 (f.wear.map nRow), .list false 1 (f.map.map nRow), .int .i64 f.seq]], []⟩)], 5⟩)
    (fun x => x.1 ≤ 10 ∧ -1 ≤ x.2.1 ∧ x.2.1 < 10 ∧ worstGo f op (10 - x.1) x.1 x.2.1 x.2.2 = W) (x := (0, -1, 0)) ?round ?h0 ?hn
  case h0 => exact ⟨Nat.zero_le _, by decide, by decide, hW⟩
  case hn =>
    refine norm_to [(4, 4)] rfl ?_ ?_ <;> simp only [go_sem]
  rintro ⟨b, best, few⟩ ⟨hb, b1, b2, hg⟩
  simp only at hb b1 b2 hg
  refine vw_seq ?_
  by_cases hc : (b : Int) < 10
  case neg =>
    obtain rfl : b = 10 := by omega
    rw [Nat.sub_self, worstGo] at hg
    subst hg
    refine vw_go rfl ?_; simp only [hc, go_sem, setCells, setIn]
    refine vw_cond (t := false) rfl (fun h => nomatch h) (fun _ => ?_)
    refine vw_exit (x_then (x_then (x_block (n_then ?_))))
    refine vw_seq ?_
    by_cases h6 : few = 6
    · rw [if_pos h6]
      refine vw_go rfl ?_; simp only [h6, go_sem, setCells, setIn]
      refine vw_cond (t := true) rfl (fun _ => ?_) (fun h => nomatch h)
      refine vw_go rfl ?_; simp only [go_sem, setCells, setIn]
      exact vw_ret (r_then (e_ret (ret_of rfl rfl (by simp [RB]) rfl rfl)))
    · rw [if_neg h6]
      refine vw_go rfl ?_; simp only [h6, go_sem, setCells, setIn]
      refine vw_cond (t := false) rfl (fun h => nomatch h) (fun _ => ?_)
      refine vw_skip (n_then ?_)
      refine vw_go rfl ?_; simp only [go_sem, setCells, setIn]
      exact vw_ret (e_ret (ret_of rfl rfl (by simp [RB]) rfl rfl))
  obtain ⟨m, hm⟩ : ∃ m, 10 - b = m + 1 := ⟨9 - b, by omega⟩
  have hm2 : 10 - (b + 1) = m := by omega
  rw [hm, worstGo] at hg
  have rC := runs_27 f.pages f.wear hs.pl b (by omega)
  have rL := runs_34 f (by rw [hs.ml]; decide) b (by omega)
  generalize clearF f.pages b = C at rC hg
  obtain ⟨n, tail⟩ := C
  simp only at rC hg
  generalize livesF f.map b = li at rL hg
  have bl : List.take li.length (li.map nRow) = li.map nRow := List.take_of_length_le (by simp)
  have w1 : IntKind.wrap .i64 ((b:Int) + 1) = ((b + 1 : Nat) : Int) := by rw [wrap_i64 (by omega) (by omega)]; rfl
  refine vw_go rfl ?_; simp only [hc, go_sem, setCells, setIn]
  refine vw_cond (t := true) rfl (fun _ => ?_) (fun h => nomatch h)
  refine vw_skip (n_then ?_)
  refine vw_seq ?_
  refine vw_block ?_
  refine vw_go rfl ?_; simp only [go_sem, setCells, setIn]
  refine ⟨_, _, call_rx [0, 0] Tryz.func27 (rC) rfl rfl rfl rfl rfl rfl rfl (by simp [lendAll, lendC, seek, fresh, nav, rcells, RT.cells, VV.cells, tabE_cons, tabS_cons, ev, take_map_len, sRow_r1, sRow_comp, sRow_clean, nRow_r1, nRow_comp, nRow_clean]) rfl (by simp [rcells, RT.cells, CT.clean, T.clean, sRow_r1, sRow_comp, sRow_clean, nRow_r1, nRow_comp, nRow_clean]) rfl rfl, ?_⟩
  simp only [runH, runX, go_sem, setCells, setIn]
  refine vw_go rfl ?_; simp only [go_sem, setCells, setIn]
  refine ⟨_, _, call_rx [0, 0] Tryz.func34 (rL) rfl rfl rfl rfl rfl rfl rfl (by simp [lendAll, lendC, seek, fresh, nav, rcells, RT.cells, VV.cells, tabE_cons, tabS_cons, ev, take_map_len, sRow_r1, sRow_comp, sRow_clean, nRow_r1, nRow_comp, nRow_clean]) rfl (by simp [rcells, RT.cells, CT.clean, T.clean, sRow_r1, sRow_comp, sRow_clean, nRow_r1, nRow_comp, nRow_clean]) rfl rfl, ?_⟩
  simp only [runH, runX, bl, go_sem, setCells, setIn]
  refine vw_join (α := Unit) (fun _ => ⟨tabE [(1, .ptr 4 [] 0 0 0), (3, .c (.int .i64 best)), (4, .c (.int .i64 few)), (5, .c (.int .i64 op)), (6, .c (.int .i64 b)), (9, .c (.int .i64 li.length))], tabS [(4, some ⟨true, 4, [[.list false 1 (f.pages.map sRow), .list false 1 (f.wear.map nRow), .list false 1 (f.map.map nRow), .int .i64 f.seq]], []⟩)], 5⟩)
    (fun _ => ¬ (n = 6 ∨ (b : Int) = op)) ?_ ?_
  · by_cases h6 : n = 6
    · have q6 : (n : Int) = 6 := by omega
      rw [if_pos (.inl h6)] at hg
      refine vw_go rfl ?_; simp only [q6, go_sem, setCells, setIn]
      refine vw_cond (t := true) rfl (fun _ => ?_) (fun h => nomatch h)
      refine vw_exit (x_then (x_block (n_then ?_)))
      refine vw_last rfl ?_; simp only [w1, go_sem, setCells, setIn]
      refine (n_then ?_)
      refine ⟨(b + 1, best, few), by simp only; omega, ⟨by simp only; omega, b1, b2, by rw [← hm2] at hg; exact hg⟩, ?_⟩
      refine norm_to [(4, 4)] rfl ?_ ?_ <;> simp only [go_sem]
    have q6 : ¬ (n : Int) = 6 := by omega
    by_cases ho : (b : Int) = op
    · rw [if_pos (.inr ho)] at hg
      subst ho
      refine vw_go rfl ?_; simp only [q6, go_sem, setCells, setIn]
      refine vw_cond (t := true) rfl (fun _ => ?_) (fun h => nomatch h)
      refine vw_exit (x_then (x_block (n_then ?_)))
      refine vw_last rfl ?_; simp only [w1, go_sem, setCells, setIn]
      refine (n_then ?_)
      refine ⟨(b + 1, best, few), by simp only; omega, ⟨by simp only; omega, b1, b2, by rw [← hm2] at hg; exact hg⟩, ?_⟩
      refine norm_to [(4, 4)] rfl ?_ ?_ <;> simp only [go_sem]
    · (refine vw_go rfl ?_; simp only [q6, ho, go_sem, setCells, setIn])
      refine vw_cond (t := false) rfl (fun h => nomatch h) (fun _ => ?_)
      refine vw_skip (n_then ⟨(), h6, ?_⟩)
      refine norm_to [(4, 4)] rfl ?_ ?_ <;> simp only [go_sem]
  rintro _ hno
  rw [if_neg hno] at hg
  obtain ⟨wb, hwb⟩ : ∃ x, f.wear[b]? = some x := ⟨_, List.getElem?_eq_getElem (by rw [hs.wl]; omega)⟩
  have c0 : (0:Int) ≤ (b : Int) := by omega
  have c1 : (b : Int) < (f.wear.length : Int) := by rw [hs.wl]; omega
  have c2 : b < f.wear.length := by rw [hs.wl]; omega
  rw [getD_of hwb] at hg
  refine vw_drawA mixed rfl rfl ?_; intro A hAA
  have k2 : (A[2]?).bind (·.dst) = some 40 := by subst hAA; rfl
  have k7 : (A[7]?).bind (·.dst) = some 45 := by subst hAA; rfl
  have k11 : (A[11]?).bind (·.dst) = some 49 := by subst hAA; rfl
  by_cases h1 : best < 0
  case pos =>
    rw [if_pos (.inl h1)] at hg
    simp (maxSteps := 1000000) only [k2, k7, k11, h1, go_sem, setCells, setIn, runW_step]
    refine ⟨by subst hAA; exact allOk_pre aheadPFPlaceT1 (by kernel_rfl) (Nat.le_of_ble_eq_true (by kernel_rfl)) (by kernel_rfl), ?_⟩
    refine vw_cond (t := true) rfl (fun _ => ?_) (fun h => nomatch h)
    refine vw_go rfl ?_; simp only [go_sem, setCells, setIn]
    refine vw_last rfl ?_; simp only [go_sem, setCells, setIn]
    refine (n_block (n_then ?_))
    refine vw_last rfl ?_; simp only [w1, go_sem, setCells, setIn]
    refine (n_then ?_)
    refine ⟨(b + 1, b, li.length), by simp only; omega, ⟨by simp only; omega, by simp only; omega, by simp only; omega, by rw [← hm2] at hg; exact hg⟩, ?_⟩
    refine norm_to [(4, 4)] rfl ?_ ?_ <;> simp only [go_sem]
  by_cases h2 : (li.length : Int) < few
  case pos =>
    rw [if_pos (.inr (.inl h2))] at hg
    simp (maxSteps := 1000000) only [k2, k7, k11, h1, h2, go_sem, setCells, setIn, runW_step]
    refine ⟨by subst hAA; exact allOk_pre aheadPFPlaceT1 (by kernel_rfl) (Nat.le_of_ble_eq_true (by kernel_rfl)) (by kernel_rfl), ?_⟩
    refine vw_cond (t := true) rfl (fun _ => ?_) (fun h => nomatch h)
    refine vw_go rfl ?_; simp only [go_sem, setCells, setIn]
    refine vw_last rfl ?_; simp only [go_sem, setCells, setIn]
    refine (n_block (n_then ?_))
    refine vw_last rfl ?_; simp only [w1, go_sem, setCells, setIn]
    refine (n_then ?_)
    refine ⟨(b + 1, b, li.length), by simp only; omega, ⟨by simp only; omega, by simp only; omega, by simp only; omega, by rw [← hm2] at hg; exact hg⟩, ?_⟩
    refine norm_to [(4, 4)] rfl ?_ ?_ <;> simp only [go_sem]
  by_cases h3 : (li.length : Int) = few
  case neg =>
    rw [if_neg (by rintro (h | h | h); exact h1 h; exact h2 h; exact h3 h.1)] at hg
    simp (maxSteps := 1000000) only [k2, k7, k11, h1, h2, h3, go_sem, setCells, setIn, runW_step]
    refine ⟨by subst hAA; exact allOk_pre aheadPFPlaceT1 (by kernel_rfl) (Nat.le_of_ble_eq_true (by kernel_rfl)) (by kernel_rfl), ?_⟩
    refine vw_cond (t := false) rfl (fun h => nomatch h) (fun _ => ?_)
    refine vw_skip (n_block (n_then ?_))
    refine vw_last rfl ?_; simp only [w1, go_sem, setCells, setIn]
    refine (n_then ?_)
    refine ⟨(b + 1, best, few), by simp only; omega, ⟨by simp only; omega, b1, b2, by rw [← hm2] at hg; exact hg⟩, ?_⟩
    refine norm_to [(4, 4)] rfl ?_ ?_ <;> simp only [go_sem]
  have q2 : decide ((li.length : Int) < few) = false := decide_eq_false h2
  have q3 : decide ((li.length : Int) = few) = true := decide_eq_true h3
  obtain ⟨B, rfl⟩ : ∃ B : Nat, best = B := ⟨best.toNat, by omega⟩
  obtain ⟨wB, hwB⟩ : ∃ x, f.wear[B]? = some x := ⟨_, List.getElem?_eq_getElem (by rw [hs.wl]; omega)⟩
  rw [Int.toNat_natCast, getD_of hwB] at hg
  have d0 : (0:Int) ≤ (B : Int) := by omega
  have d1 : (B : Int) < (f.wear.length : Int) := by rw [hs.wl]; omega
  have d2 : B < f.wear.length := by rw [hs.wl]; omega
  by_cases hlt : wb < wB
  · rw [if_pos (.inr (.inr ⟨h3, hlt⟩))] at hg
    simp (maxSteps := 1000000) only [k2, k7, k11, h1, q2, q3, c0, c1, c2, d0, d1, d2, Int.toNat_natCast, getD_map_of hwb, getD_map_of hwB, nRow, hlt, go_sem, setCells, setIn, runW_step]
    refine ⟨by subst hAA; exact allOk_pre aheadPFPlaceT1 (by kernel_rfl) (Nat.le_of_ble_eq_true (by kernel_rfl)) (by kernel_rfl), ?_⟩
    refine vw_cond (t := true) rfl (fun _ => ?_) (fun h => nomatch h)
    refine vw_go rfl ?_; simp only [go_sem, setCells, setIn]
    refine vw_last rfl ?_; simp only [go_sem, setCells, setIn]
    refine (n_block (n_then ?_))
    refine vw_last rfl ?_; simp only [w1, go_sem, setCells, setIn]
    refine (n_then ?_)
    refine ⟨(b + 1, b, li.length), by simp only; omega, ⟨by simp only; omega, by simp only; omega, by simp only; omega, by rw [← hm2] at hg; exact hg⟩, ?_⟩
    refine norm_to [(4, 4)] rfl ?_ ?_ <;> simp only [go_sem]
  · rw [if_neg (by rintro (h | h | h); exact h1 h; exact h2 h; exact hlt h.2)] at hg
    simp (maxSteps := 1000000) only [k2, k7, k11, h1, q2, q3, c0, c1, c2, d0, d1, d2, Int.toNat_natCast, getD_map_of hwb, getD_map_of hwB, nRow, hlt, go_sem, setCells, setIn, runW_step]
    refine ⟨by subst hAA; exact allOk_pre aheadPFPlaceT1 (by kernel_rfl) (Nat.le_of_ble_eq_true (by kernel_rfl)) (by kernel_rfl), ?_⟩
    refine vw_cond (t := false) rfl (fun h => nomatch h) (fun _ => ?_)
    refine vw_skip (n_block (n_then ?_))
    refine vw_last rfl ?_; simp only [w1, go_sem, setCells, setIn]
    refine (n_then ?_)
    refine ⟨(b + 1, B, few), by simp only; omega, ⟨by simp only; omega, b1, b2, by rw [← hm2] at hg; exact hg⟩, ?_⟩
    refine norm_to [(4, 4)] rfl ?_ ?_ <;> simp only [go_sem]
end Go.Proofs.YtkijdbljnefeaaaGreat
