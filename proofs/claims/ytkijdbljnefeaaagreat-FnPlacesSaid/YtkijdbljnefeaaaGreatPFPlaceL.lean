/- Plain law: numbers in order. Plain law: the first clear page of a block; the next page; what lives in a block. -/
import Derived.Test.YtkijdbljnefeaaaGreatPFPlaceS
import Derived.Test.YtkijdbljnefeaaaGreatPFPlaceT
set_option linter.unusedSimpArgs false
set_option linter.unusedVariables false
namespace Go.Proofs.YtkijdbljnefeaaaGreat
open Go.VM Go
def AscN (l : List Int) : Prop := l.Pairwise fun a b => a < b
def insN (L : List Int) (s : Int) : List Int := L.takeWhile (fun u => decide (u < s)) ++ s :: L.dropWhile (fun u => decide (u < s))
def sortN (l : List Int) : List Int := l.foldl insN []
theorem insN_of {A B : List Int} {s : Int} (hA : ∀ u ∈ A, u < s) (hB : ∀ u ∈ B, s < u) : insN (A ++ B) s = A ++ s :: B := by
  unfold insN
  have h1 : (A ++ B).takeWhile (fun u => decide (u < s)) = A := by
    rw [List.takeWhile_append_of_pos (fun u hu => decide_eq_true (hA u hu))]
    cases B with
    | nil => simp
    | cons x B =>
      rw [List.takeWhile_cons, if_neg (by have := hB x (by simp); simp; omega), List.append_nil]
  have h2 : (A ++ B).dropWhile (fun u => decide (u < s)) = B := by
    rw [List.dropWhile_append_of_pos (fun u hu => decide_eq_true (hA u hu))]
    cases B with
    | nil => rfl
    | cons x B =>
      rw [List.dropWhile_cons, if_neg (by have := hB x (by simp); simp; omega)]
  rw [h1, h2]
theorem insN_split : ∀ {L : List Int} {s : Int}, AscN L → s ∉ L → ∃ A B, L = A ++ B ∧ (∀ u ∈ A, u < s) ∧ (∀ u ∈ B, s < u) ∧ AscN (A ++ s :: B)
  | [], s, _, _ => ⟨[], [], rfl, (fun u h => nomatch h), (fun u h => nomatch h), by simp [AscN]⟩
  | x :: L, s, ha, hs => by
    unfold AscN at ha
    rw [List.pairwise_cons] at ha
    rw [List.mem_cons, not_or] at hs
    rcases Int.lt_or_gt_of_ne hs.1 with h | h
    · refine ⟨[], x :: L, rfl, (fun u h => nomatch h), fun u hu => ?_, ?_⟩
      · rcases List.mem_cons.1 hu with rfl | hu
        · exact h
        · exact Int.lt_trans h (ha.1 u hu)
      · unfold AscN
        rw [List.nil_append, List.pairwise_cons, List.pairwise_cons]
        refine ⟨fun u hu => ?_, ha⟩
        rcases List.mem_cons.1 hu with rfl | hu
        · exact h
        · exact Int.lt_trans h (ha.1 u hu)
    · obtain ⟨A, B, e, hA, hB, hAB⟩ := insN_split ha.2 hs.2
      refine ⟨x :: A, B, by rw [e]; rfl, fun u hu => ?_, hB, ?_⟩
      · rcases List.mem_cons.1 hu with rfl | hu
        · exact h
        · exact hA u hu
      · unfold AscN at hAB ⊢
        rw [List.cons_append, List.pairwise_cons]
        refine ⟨fun u hu => ?_, hAB⟩
        rcases List.mem_append.1 hu with hu | hu
        · exact ha.1 u (by rw [e]; exact List.mem_append_left _ hu)
        · rcases List.mem_cons.1 hu with rfl | hu
          · exact h
          · exact ha.1 u (by rw [e]; exact List.mem_append_right _ hu)
theorem insN_asc {L : List Int} {s : Int} (h : AscN L) (hs : s ∉ L) : AscN (insN L s) := by
  obtain ⟨A, B, rfl, hA, hB, hAB⟩ := insN_split h hs
  rw [insN_of hA hB]; exact hAB
theorem insN_mem {L : List Int} {s x : Int} : x ∈ insN L s ↔ x = s ∨ x ∈ L := by
  unfold insN
  have := List.takeWhile_append_dropWhile (p := fun u => decide (u < s)) (l := L)
  rw [List.mem_append, List.mem_cons]
  constructor
  · rintro (h | h | h)
    · exact .inr (by rw [← this]; exact List.mem_append_left _ h)
    · exact .inl h
    · exact .inr (by rw [← this]; exact List.mem_append_right _ h)
  · rintro (h | h)
    · exact .inr (.inl h)
    · rw [← this] at h
      rcases List.mem_append.1 h with h | h
      · exact .inl h
      · exact .inr (.inr h)
theorem insN_len (L : List Int) (s : Int) : (insN L s).length = L.length + 1 := by
  unfold insN
  have := congrArg List.length (List.takeWhile_append_dropWhile (p := fun u => decide (u < s)) (l := L))
  rw [List.length_append] at this
  simp only [List.length_append, List.length_cons]
  omega
theorem sortN_asc : ∀ (l acc : List Int), AscN acc → l.Nodup → (∀ x ∈ l, x ∉ acc) → AscN (l.foldl insN acc) ∧ ∀ x, x ∈ l.foldl insN acc ↔ x ∈ l ∨ x ∈ acc
  | [], acc, h, _, _ => ⟨h, fun x => by simp⟩
  | s :: l, acc, h, hd, hn => by
    rw [List.nodup_cons] at hd
    obtain ⟨h1, h2⟩ := sortN_asc l (insN acc s) (insN_asc h (hn s (by simp))) hd.2 (fun x hx => by
      rw [insN_mem]
      rintro (rfl | h)
      · exact hd.1 hx
      · exact hn x (by simp [hx]) h)
    refine ⟨h1, fun x => ?_⟩
    rw [List.foldl_cons, h2, insN_mem, List.mem_cons]
    constructor
    · rintro (h | h | h)
      · exact .inl (.inr h)
      · exact .inl (.inl h)
      · exact .inr h
    · rintro ((h | h) | h)
      · exact .inr (.inl h)
      · exact .inl h
      · exact .inr (.inr h)
theorem ascN_ext : ∀ {a b : List Int}, AscN a → AscN b → (∀ x, x ∈ a ↔ x ∈ b) → a = b
  | [], [], _, _, _ => rfl
  | [], y :: b, _, _, h => absurd ((h y).2 (by simp)) (by simp)
  | x :: a, [], _, _, h => absurd ((h x).1 (by simp)) (by simp)
  | x :: a, y :: b, ha, hb, h => by
    unfold AscN at ha hb
    rw [List.pairwise_cons] at ha hb
    have hxy : x = y := by
      rcases List.mem_cons.1 ((h x).1 (by simp)) with e | e
      · exact e
      · rcases List.mem_cons.1 ((h y).2 (by simp)) with e2 | e2
        · exact e2.symm
        · have := hb.1 x e; have := ha.1 y e2; omega
    subst hxy
    congr 1
    refine ascN_ext ha.2 hb.2 (fun z => ?_)
    constructor
    · intro hz
      rcases List.mem_cons.1 ((h z).1 (List.mem_cons_of_mem _ hz)) with e | e
      · subst e; have := ha.1 z hz; omega
      · exact e
    · intro hz
      rcases List.mem_cons.1 ((h z).2 (List.mem_cons_of_mem _ hz)) with e | e
      · subst e; have := hb.1 z hz; omega
      · exact e
end Go.Proofs.YtkijdbljnefeaaaGreat
namespace Go.Proofs.YtkijdbljnefeaaaGreat
open Go.VM Go
def pagesB (p : List ByteArray) (b : Nat) : List ByteArray := (p.drop (b * 6)).take 6
def fcF (p : List ByteArray) (b : Nat) : Int := if (clearF p b).2 = (clearF p b).1 ∧ 0 < (clearF p b).1 then 6 - ((clearF p b).1 : Int) else -1
def stepB (t : Bool) (x : Nat × Nat) : Nat × Nat := if t = true then (x.1 + 1, x.2 + 1) else (x.1, 0)
theorem fc_bool : ∀ t0 t1 t2 t3 t4 t5 : Bool, (if idxOf id [t0, t1, t2, t3, t4, t5] 0 < 0 ∨ ([t0, t1, t2, t3, t4, t5].drop (idxOf id [t0, t1, t2, t3, t4, t5] 0).toNat).any (!·) = true then (-1 : Int) else idxOf id [t0, t1, t2, t3, t4, t5] 0)
    = if (stepB t5 (stepB t4 (stepB t3 (stepB t2 (stepB t1 (stepB t0 (0, 0))))))).2 = (stepB t5 (stepB t4 (stepB t3 (stepB t2 (stepB t1 (stepB t0 (0, 0))))))).1 ∧ 0 < (stepB t5 (stepB t4 (stepB t3 (stepB t2 (stepB t1 (stepB t0 (0, 0))))))).1 then 6 - ((stepB t5 (stepB t4 (stepB t3 (stepB t2 (stepB t1 (stepB t0 (0, 0))))))).1 : Int) else -1 := by decide
theorem idxOf_map {α : Type} (p : α → Bool) : ∀ (l : List α) (i : Nat), idxOf p l i = idxOf id (l.map p) i
  | [], i => rfl
  | x :: l, i => by
    simp only [List.map_cons, idxOf, id]
    rw [idxOf_map p l (i + 1)]
theorem idxOf_lt {α : Type} (p : α → Bool) : ∀ (l : List α) (i : Nat), 0 < l.length → idxOf p l i < (i : Int) + l.length
  | [], i, h => by cases h
  | x :: l, i, _ => by
    rw [idxOf, List.length_cons]
    split
    · omega
    · rcases l with _ | ⟨y, l⟩
      · rw [idxOf]; omega
      · have := idxOf_lt p (y :: l) (i + 1) (by simp)
        omega
theorem idxOf_ge {α : Type} (p : α → Bool) : ∀ (l : List α) (i : Nat), -1 ≤ idxOf p l i
  | [], i => by rw [idxOf]; omega
  | x :: l, i => by
    rw [idxOf]
    split
    · omega
    · exact idxOf_ge p l (i + 1)
theorem clearTo_step (p : List ByteArray) (b i : Nat) : clearTo p b (i + 1) = stepB (decide (⟨#[]⟩ = p.getD (b * 6 + i) ⟨#[]⟩)) (clearTo p b i) := by
  rw [clearTo, stepB]
  by_cases h : p.getD (b * 6 + i) ⟨#[]⟩ = ⟨#[]⟩
  · rw [if_pos h, if_pos (decide_eq_true h.symm)]
  · rw [if_neg h, if_neg (by rw [decide_eq_true_eq]; exact fun e => h e.symm)]
theorem pagesB_eq {p : List ByteArray} {b : Nat} (h : b * 6 + 6 ≤ p.length) : pagesB p b = [p.getD (b * 6) ⟨#[]⟩, p.getD (b * 6 + 1) ⟨#[]⟩, p.getD (b * 6 + 2) ⟨#[]⟩, p.getD (b * 6 + 3) ⟨#[]⟩, p.getD (b * 6 + 4) ⟨#[]⟩, p.getD (b * 6 + 5) ⟨#[]⟩] := by
  have g : ∀ i, i < p.length → p.drop i = p.getD i ⟨#[]⟩ :: p.drop (i + 1) := fun i hi => by
    rw [List.getD_eq_getElem?_getD, List.getElem?_eq_getElem hi]
    exact List.drop_eq_getElem_cons hi
  unfold pagesB
  rw [g (b * 6) (by omega), g (b * 6 + 1) (by omega), g (b * 6 + 1 + 1) (by omega), g (b * 6 + 1 + 1 + 1) (by omega), g (b * 6 + 1 + 1 + 1 + 1) (by omega), g (b * 6 + 1 + 1 + 1 + 1 + 1) (by omega)]
  rfl
theorem fc_law {p : List ByteArray} {b : Nat} (h : b * 6 + 6 ≤ p.length) :
    (if idxOf (fun x => decide (⟨#[]⟩ = x)) (pagesB p b) 0 < 0 ∨ ((pagesB p b).drop (idxOf (fun x => decide (⟨#[]⟩ = x)) (pagesB p b) 0).toNat).any (fun x => decide (¬ x = ⟨#[]⟩)) = true then (-1 : Int) else idxOf (fun x => decide (⟨#[]⟩ = x)) (pagesB p b) 0) = fcF p b := by
  have e1 : (fun x : ByteArray => decide (¬ x = ⟨#[]⟩)) = (fun x => (!·) (decide (⟨#[]⟩ = x))) := by
    funext x
    by_cases h : x = ⟨#[]⟩
    · simp [h]
    · have : ¬ ⟨#[]⟩ = x := fun e => h e.symm
      simp [h, this]
  have e2 : ∀ (l : List ByteArray), l.any (fun x => decide (¬ x = ⟨#[]⟩)) = (l.map (fun x => decide (⟨#[]⟩ = x))).any (!·) := fun l => by rw [List.any_map, e1]; rfl
  rw [e2, idxOf_map, List.map_drop, pagesB_eq h]
  simp only [List.map_cons, List.map_nil]
  have := fc_bool (decide (⟨#[]⟩ = p.getD (b * 6) ⟨#[]⟩)) (decide (⟨#[]⟩ = p.getD (b * 6 + 1) ⟨#[]⟩)) (decide (⟨#[]⟩ = p.getD (b * 6 + 2) ⟨#[]⟩)) (decide (⟨#[]⟩ = p.getD (b * 6 + 3) ⟨#[]⟩)) (decide (⟨#[]⟩ = p.getD (b * 6 + 4) ⟨#[]⟩)) (decide (⟨#[]⟩ = p.getD (b * 6 + 5) ⟨#[]⟩))
  rw [this]
  unfold fcF clearF
  rw [clearTo_step, clearTo_step, clearTo_step, clearTo_step, clearTo_step, clearTo_step]
  rfl
theorem clearTo_full (p : List ByteArray) (b : Nat) : ∀ i, (clearTo p b i).1 = i → (clearTo p b i).2 = i
  | 0, _ => rfl
  | i + 1, h => by
    have hle := clearTo_le p b i
    rw [clearTo] at h ⊢
    by_cases g : p.getD (b * 6 + i) ⟨#[]⟩ = ⟨#[]⟩
    · rw [if_pos g] at h ⊢
      simp only at h ⊢
      rw [clearTo_full p b i (by omega)]
    · rw [if_neg g] at h
      simp only at h
      omega
theorem clearTo_tail (p : List ByteArray) (b : Nat) : ∀ i j, i - (clearTo p b i).2 ≤ j → j < i → p.getD (b * 6 + j) ⟨#[]⟩ = ⟨#[]⟩
  | 0, j, _, h => by omega
  | i + 1, j, h1, h2 => by
    rw [clearTo] at h1
    by_cases g : p.getD (b * 6 + i) ⟨#[]⟩ = ⟨#[]⟩
    · rw [if_pos g] at h1
      simp only at h1
      by_cases e : j = i
      · rw [e]; exact g
      · exact clearTo_tail p b i j (by omega) (by omega)
    · rw [if_neg g] at h1
      simp only at h1
      omega
theorem fcF_in (p : List ByteArray) (b : Nat) : -1 ≤ fcF p b ∧ fcF p b < 6 := by
  have := clearTo_le p b 6
  unfold fcF clearF
  split <;> omega
theorem fcF_free (p : List ByteArray) (b : Nat) : fcF p b = 0 ↔ (clearF p b).1 = 6 := by
  have h1 := clearTo_le p b 6
  have h2 := clearTo_full p b 6
  unfold fcF clearF
  split <;> omega
theorem fcF_open (p : List ByteArray) (b : Nat) : 0 < fcF p b ↔ 0 < (clearF p b).1 ∧ (clearF p b).1 < 6 ∧ (clearF p b).2 = (clearF p b).1 := by
  have h1 := clearTo_le p b 6
  unfold fcF clearF
  split <;> omega
theorem fcF_page {p : List ByteArray} {b : Nat} (h : 0 ≤ fcF p b) : ∀ j, (fcF p b).toNat ≤ j → j < 6 → p.getD (b * 6 + j) ⟨#[]⟩ = ⟨#[]⟩ := by
  intro j hj hj6
  have h1 := clearTo_le p b 6
  refine clearTo_tail p b 6 j ?_ hj6
  unfold fcF clearF at h hj
  split at h <;> rename_i hc
  · rw [if_pos hc] at hj; omega
  · omega
theorem freeTo_mem (p : List ByteArray) : ∀ n x, x ∈ freeTo p n → ∃ b : Nat, x = (b : Int) ∧ b < n ∧ (clearF p b).1 = 6
  | 0, x, h => by cases h
  | n + 1, x, h => by
    rw [freeTo] at h
    split at h
    · rename_i hc
      rcases List.mem_append.1 h with h | h
      · obtain ⟨b, h1, h2, h3⟩ := freeTo_mem p n x h
        exact ⟨b, h1, by omega, h3⟩
      · rw [List.mem_singleton] at h
        exact ⟨n, h, by omega, hc⟩
    · obtain ⟨b, h1, h2, h3⟩ := freeTo_mem p n x h
      exact ⟨b, h1, by omega, h3⟩
def freeFrom (p : List ByteArray) : Nat → Nat → List Int
  | 0, _ => []
  | n + 1, b => if (clearF p b).1 = 6 then (b : Int) :: freeFrom p n (b + 1) else freeFrom p n (b + 1)
theorem freeTo_from (p : List ByteArray) : ∀ n b, freeTo p b ++ freeFrom p n b = freeTo p (b + n)
  | 0, b => by rw [freeFrom, List.append_nil]; rfl
  | n + 1, b => by
    have ih := freeTo_from p n (b + 1)
    rw [show b + (n + 1) = b + 1 + n by omega, ← ih, freeFrom, freeTo]
    split
    · rw [List.append_assoc]; rfl
    · rfl
theorem freeTo_eq (p : List ByteArray) : freeTo p 10 = freeFrom p 10 0 := (freeTo_from p 10 0).symm
def opnGo (p : List ByteArray) : Nat → Nat → Int
  | 0, _ => -1
  | n + 1, b => if 0 < fcF p b then (b : Int) * 6 + fcF p b else opnGo p n (b + 1)
theorem opnGo_in (p : List ByteArray) : ∀ n b, -1 ≤ opnGo p n b
  | 0, _ => by rw [opnGo]; omega
  | n + 1, b => by
    unfold opnGo
    split
    · omega
    · exact opnGo_in p n (b + 1)
def bestS (w : List Int) (best b : Int) : Int := if best < 0 ∨ w.getD b.toNat 0 < w.getD best.toNat 0 then b else best
theorem nextGo_opn (p : List ByteArray) (w : List Int) : ∀ (n b : Nat) (best : Int), nextGo p w n b best = if 0 ≤ opnGo p n b then opnGo p n b else if (freeFrom p n b).foldl (bestS w) best < 0 then -1 else (freeFrom p n b).foldl (bestS w) best * 6
  | 0, b, best => by rw [nextGo, opnGo, freeFrom]; rfl
  | n + 1, b, best => by
    rw [nextGo, opnGo, freeFrom]
    by_cases ho : 0 < fcF p b
    · have hc := (fcF_open p b).1 ho
      rw [if_pos hc, if_pos ho, if_pos (by omega)]
      unfold fcF
      rw [if_pos ⟨hc.2.2, hc.1⟩]
      omega
    · rw [if_neg (fun h => ho ((fcF_open p b).2 h)), if_neg ho, nextGo_opn p w n (b + 1)]
      by_cases h6 : (clearF p b).1 = 6
      · rw [if_pos h6, List.foldl_cons]
        have e : (if (clearF p b).1 = 6 ∧ (best < 0 ∨ w.getD b 0 < w.getD best.toNat 0) then (b : Int) else best) = bestS w best (b : Int) := by
          unfold bestS
          rw [Int.toNat_natCast]
          by_cases hx : best < 0 ∨ w.getD b 0 < w.getD best.toNat 0
          · rw [if_pos ⟨h6, hx⟩, if_pos hx]
          · rw [if_neg (fun h => hx h.2), if_neg hx]
        rw [e]
      · have e : (if (clearF p b).1 = 6 ∧ (best < 0 ∨ w.getD b 0 < w.getD best.toNat 0) then (b : Int) else best) = best := if_neg (fun h => h6 h.1)
        rw [if_neg h6, e]
theorem nextF_opn (p : List ByteArray) (w : List Int) : nextF p w = if 0 ≤ opnGo p 10 0 then opnGo p 10 0 else if (freeTo p 10).foldl (bestS w) (-1) < 0 then -1 else (freeTo p 10).foldl (bestS w) (-1) * 6 := by
  rw [freeTo_eq]; exact nextGo_opn p w 10 0 (-1)
theorem opnGo_clear (p : List ByteArray) : ∀ n b, 0 ≤ opnGo p n b → p.getD (opnGo p n b).toNat ⟨#[]⟩ = ⟨#[]⟩
  | 0, _, h => by rw [opnGo] at h; omega
  | n + 1, b, h => by
    unfold opnGo at h ⊢
    split
    · rename_i ho
      have := fcF_in p b
      have e : ((b : Int) * 6 + fcF p b).toNat = b * 6 + (fcF p b).toNat := by omega
      rw [e]
      exact fcF_page (by omega) _ (Nat.le_refl _) (by omega)
    · rename_i ho
      rw [if_neg ho] at h
      exact opnGo_clear p n (b + 1) h
theorem best_mem (w : List Int) : ∀ (l : List Int) (best : Int), l.foldl (bestS w) best = best ∨ l.foldl (bestS w) best ∈ l
  | [], best => .inl rfl
  | x :: l, best => by
    rw [List.foldl_cons]
    rcases best_mem w l (bestS w best x) with h | h
    · rw [h]
      unfold bestS
      split
      · exact .inr (List.mem_cons_self ..)
      · exact .inl rfl
    · exact .inr (List.mem_cons_of_mem _ h)
theorem nextF_clear {p : List ByteArray} {w : List Int} (h : 0 ≤ nextF p w) : p.getD (nextF p w).toNat ⟨#[]⟩ = ⟨#[]⟩ := by
  rw [nextF_opn] at h ⊢
  split
  · rename_i ho; exact opnGo_clear p 10 0 ho
  rename_i ho
  rw [if_neg ho] at h
  split
  · rename_i hb; rw [if_pos hb] at h; omega
  rename_i hb
  rcases best_mem w (freeTo p 10) (-1) with e | e
  · rw [e] at hb; omega
  obtain ⟨b, h1, h2, h3⟩ := freeTo_mem p 10 _ e
  rw [h1]
  have e2 : ((b : Int) * 6).toNat = b * 6 + 0 := by omega
  rw [e2]
  have hz := (fcF_free p b).2 h3
  exact fcF_page (by omega) 0 (by omega) (by decide)
theorem free_clear {p : List ByteArray} {x : Int} {n : Nat} (h : x ∈ freeTo p n) {k : Nat} (hk : k < 6) : 0 ≤ x ∧ x < n ∧ p.getD (x.toNat * 6 + k) ⟨#[]⟩ = ⟨#[]⟩ := by
  obtain ⟨b, rfl, h2, h3⟩ := freeTo_mem p n _ h
  have hz := (fcF_free p b).2 h3
  exact ⟨by omega, by omega, by rw [Int.toNat_natCast]; exact fcF_page (by omega) k (by omega) hk⟩
/-! ### what lives in a block -/
def livesI (m : List Int) (b : Int) : List Int := m.filter (fun x => decide (0 ≤ x ∧ x / 6 = b))
theorem livesI_mem {m : List Int} {b x : Int} : x ∈ livesI m b ↔ x ∈ m ∧ 0 ≤ x ∧ x / 6 = b := by
  unfold livesI
  rw [List.mem_filter, decide_eq_true_eq]
theorem filter_nodup {q : Int → Bool} : ∀ {m : List Int}, (∀ (i j : Nat) (v : Int), m[i]? = some v → m[j]? = some v → q v = true → i = j) → (m.filter q).Nodup
  | [], _ => by simp
  | x :: m, h => by
    have hm : (m.filter q).Nodup := filter_nodup fun i j v h1 h2 h3 => by
      have := h (i + 1) (j + 1) v (by simpa using h1) (by simpa using h2) h3
      omega
    by_cases hx : q x = true
    · rw [List.filter_cons_of_pos hx, List.nodup_cons]
      refine ⟨fun hmem => ?_, hm⟩
      obtain ⟨j, hj⟩ := List.getElem?_of_mem (List.mem_filter.1 hmem).1
      have := h 0 (j + 1) x (by simp) (by simpa using hj) hx
      omega
    · rw [List.filter_cons_of_neg (by simpa using hx)]
      exact hm
theorem livesI_nodup {f : FtlV} (h : f.right) (b : Int) : (livesI f.map b).Nodup := by
  refine filter_nodup fun i j v h1 h2 h3 => ?_
  rw [decide_eq_true_eq] at h3
  obtain ⟨n, rfl⟩ : ∃ n : Nat, v = n := ⟨v.toNat, by omega⟩
  exact right_once h n i j h1 h2
theorem livesTo_asc {f : FtlV} (h : f.right) (b : Nat) : ∀ i, AscN (livesTo f.map b i) ∧ ∀ x ∈ livesTo f.map b i, x < ((b * 6 + i : Nat) : Int)
  | 0 => ⟨by simp [livesTo, AscN], fun x h => by cases h⟩
  | i + 1 => by
    obtain ⟨h1, h2⟩ := livesTo_asc h b i
    have h3 := once_le (right_once h (b * 6 + i))
    rw [livesTo]
    have h4 : ∀ x ∈ f.map.filter (fun x => decide (x = ((b * 6 + i : Nat) : Int))), x = ((b * 6 + i : Nat) : Int) := fun x hx => by
      rw [List.mem_filter, decide_eq_true_eq] at hx; exact hx.2
    generalize f.map.filter (fun x => decide (x = ((b * 6 + i : Nat) : Int))) = l at h3 h4
    refine ⟨?_, fun x hx => ?_⟩
    · unfold AscN at h1 ⊢
      rw [List.pairwise_append]
      refine ⟨h1, ?_, fun x hx y hy => by rw [h4 y hy]; exact h2 x hx⟩
      rcases l with _ | ⟨x, _ | ⟨y, l⟩⟩
      · exact List.Pairwise.nil
      · exact List.pairwise_singleton _ _
      · simp at h3
    · rcases List.mem_append.1 hx with hx | hx
      · have := h2 x hx; omega
      · have := h4 x hx; omega
theorem livesTo_of {m : List Int} {b : Nat} {x : Int} (hx : x ∈ m) : ∀ i j : Nat, j < i → x = ((b * 6 + j : Nat) : Int) → x ∈ livesTo m b i
  | 0, j, h, _ => by omega
  | i + 1, j, h, e => by
    rw [livesTo]
    by_cases hj : j = i
    · subst hj
      exact List.mem_append_right _ (List.mem_filter.2 ⟨hx, decide_eq_true e⟩)
    · exact List.mem_append_left _ (livesTo_of hx i j (by omega) e)
theorem sortN_len : ∀ (l acc : List Int), (l.foldl insN acc).length = l.length + acc.length
  | [], acc => by simp
  | x :: l, acc => by
    rw [List.foldl_cons, sortN_len l, insN_len, List.length_cons]
    omega
theorem lives_law {f : FtlV} (h : f.right) (b : Nat) : sortN (livesI f.map b) = livesF f.map b := by
  obtain ⟨h1, h2⟩ := sortN_asc (livesI f.map b) [] (by simp [AscN]) (livesI_nodup h b) (fun x _ h => by cases h)
  refine ascN_ext h1 (livesTo_asc h b 6).1 fun x => ?_
  unfold sortN
  rw [h2 x, livesI_mem]
  constructor
  · rintro (⟨g1, g2, g3⟩ | g)
    · exact livesTo_of g1 6 (x - (b : Int) * 6).toNat (by omega) (by omega)
    · cases g
  · intro g
    obtain ⟨i, g1, g2, g3⟩ := livesF_mem g
    exact .inl ⟨g3, by omega, by omega⟩
theorem livesI_len {f : FtlV} (h : f.right) (b : Nat) : (livesI f.map b).length ≤ 6 := by
  have h1 := livesF_len h b
  rw [← lives_law h] at h1
  unfold sortN at h1
  rw [sortN_len] at h1
  simpa using h1
/-- What Lives tells. -/
def livesC (f : FtlV) (b : Int) : List Int := if inB b 0 9 = true ∧ ftlOk f = true then livesF f.map b.toNat else []
theorem livesI_out {f : FtlV} (h : f.right) (h60 : f.pages.length = 60) {b : Int} (hb : ¬ (0 ≤ b ∧ b ≤ 9)) : livesI f.map b = [] := by
  refine List.eq_nil_iff_forall_not_mem.2 fun x hx => ?_
  obtain ⟨g1, g2, g3⟩ := livesI_mem.1 hx
  obtain ⟨i, hi⟩ := List.getElem?_of_mem g1
  rcases h.at_ i x hi with e | ⟨j, u, e, hu, _⟩
  · omega
  · have := lt_of_getl hu
    omega
end Go.Proofs.YtkijdbljnefeaaaGreat
