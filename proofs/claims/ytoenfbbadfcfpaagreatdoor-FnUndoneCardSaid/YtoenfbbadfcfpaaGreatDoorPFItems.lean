/- Lists of items, the plain law of paths that are moved: a path's names where it is cut; how many bytes 47 a path has. Items: what a volume has, of both. -/
import Derived.Test.YtoenfbbadfcfpaaGreatDoorPFItemsOk
import Derived.Test.YtoenfbbadfcfpaaGreatDoorPFCall
import Derived.Test.YtoenfbbadfcfpaaGreatDoorPFNames
namespace Go.Proofs.YtoenfbbadfcfpaaGreatDoor
open Go.VM Go
set_option linter.unusedSimpArgs false
set_option linter.unusedVariables false
theorem tail_getD (s : ByteArray) (k i : Nat) : (s.extract k s.size).data.toList.getD i 0 = s.data.toList.getD (k + i) 0 := by
  rw [cut_bytes, List.take_of_length_le (by rw [bs_len]; omega), List.getD_eq_getElem?_getD, List.getD_eq_getElem?_getD, List.getElem?_drop]
theorem tail_cut (s : ByteArray) (k i j : Nat) : (s.extract k s.size).extract i j = s.extract (k + i) (k + j) := by
  refine ba_eq ?_
  rw [cut_bytes, cut_bytes, cut_bytes, List.take_of_length_le (l := s.data.toList) (by rw [bs_len]; omega)]
  rw [List.drop_take, List.drop_take, List.drop_drop]
  congr 1
  omega
theorem pcs_shift (s : ByteArray) (k : Nat) : ∀ (n fr i : Nat), pcs 47 s n (k + fr) (k + i) = pcs 47 (s.extract k s.size) n fr i
  | 0, fr, i => by rw [pcs, pcs, tail_cut]
  | n + 1, fr, i => by
    rw [pcs, pcs, tail_getD, tail_cut]
    have h1 := pcs_shift s k n (i + 1) (i + 1)
    have h2 := pcs_shift s k n fr (i + 1)
    rw [← Nat.add_assoc] at h1 h2
    rw [h1, h2]
theorem names_cut {s : ByteArray} {k : Nat} (hk : k < s.size) (h47 : s.data.toList.getD k 0 = 47) : names s = names (s.extract 0 k) ++ names (s.extract (k + 1) s.size) := by
  have e1 : (s.extract 0 k).size = k := by rw [extract_size (by omega), Nat.sub_zero]
  have e2 : (s.extract (k + 1) s.size).size = s.size - (k + 1) := extract_size (Nat.le_refl _)
  have e := pcs_cut s k hk h47 k 0 0 (by omega)
  rw [Nat.sub_zero] at e
  have e3 := pcs_shift s (k + 1) (s.size - (k + 1)) 0 0
  rw [Nat.add_zero] at e3
  unfold names
  rw [e, e1, e2, e3]
theorem names_glue (a r : ByteArray) : names (a ++ ⟨#[47]⟩ ++ r) = names a ++ names r := by
  have hs : (a ++ ⟨#[47]⟩ ++ r).size = a.size + 1 + r.size := by rw [add_size, add_size]; rfl
  have hb : (a ++ ⟨#[47]⟩ ++ r).data.toList = a.data.toList ++ (47 :: r.data.toList) := by rw [add_bytes, add_bytes, List.append_assoc]; rfl
  have h47 : (a ++ ⟨#[47]⟩ ++ r).data.toList.getD a.size 0 = 47 := by
    rw [hb, List.getD_eq_getElem?_getD, List.getElem?_append_right (by rw [bs_len]; omega), bs_len, Nat.sub_self]; rfl
  rw [names_cut (k := a.size) (by omega) h47]
  congr 2
  · refine ba_eq ?_
    rw [head_bytes, hb, ← bs_len a, List.take_left]
  · refine ba_eq ?_
    rw [cut_bytes, List.take_of_length_le (by rw [bs_len]; omega), hb]
    rw [show a.size + 1 = a.data.toList.length + 1 from by rw [bs_len], List.drop_append]
    simp
/-- A path below another one: what stands behind it. -/
theorem under_cut {p q : ByteArray} (h : underB p q = true) (hq : q ≠ ⟨#[]⟩) : pathOk p = true ∧ pathOk q = true ∧ (p = q ∨ ∃ r, p = q ++ ⟨#[47]⟩ ++ r ∧ p.extract q.size p.size = ⟨#[47]⟩ ++ r) := by
  unfold underB at h
  simp only [Bool.and_eq_true, Bool.or_eq_true, decide_eq_true_eq] at h
  obtain ⟨h1, h2, h3⟩ := h
  refine ⟨h1, h2, ?_⟩
  rcases h3 with h3 | h3 | h3
  · exact absurd h3 hq
  · exact .inl h3
  · refine .inr ⟨p.extract (q.size + 1) p.size, ?_⟩
    rw [pre_iff] at h3
    simp only [Bool.and_eq_true, decide_eq_true_eq] at h3
    obtain ⟨h3, h4⟩ := h3
    have e1 : p = p.extract 0 (q.size + 1) ++ p.extract (q.size + 1) p.size := by
      refine ba_eq ?_
      rw [add_bytes, head_bytes, cut_bytes, List.take_of_length_le (l := p.data.toList) (i := p.size) (by rw [bs_len]; omega), List.take_append_drop]
    constructor
    · rw [← h4]; exact e1
    · have e2 : p.data.toList = q.data.toList ++ (47 :: (p.extract (q.size + 1) p.size).data.toList) := by
        have := congrArg (fun s : ByteArray => s.data.toList) e1
        simp only [add_bytes] at this
        rw [h4, add_bytes, List.append_assoc] at this
        exact this
      refine ba_eq ?_
      rw [cut_bytes, List.take_of_length_le (by rw [bs_len]; omega), e2, ← bs_len q, List.drop_left, add_bytes]
      rfl
theorem pathOk_names {p : ByteArray} (h0 : p ≠ ⟨#[]⟩) : pathOk p = ((names p).all nameOk && decide (((names p).length : Int) ≤ 4)) := by
  unfold pathOk namesZ
  rw [if_neg h0]
/-- What is moved: the new path may stand where it has few bytes 47. -/
theorem moved_ok {p q t : ByteArray} (h : underB p q = true) (hq : q ≠ ⟨#[]⟩) (ht : pathOk t = true) (ht0 : t ≠ ⟨#[]⟩) :
    t ++ p.extract q.size p.size ≠ ⟨#[]⟩ ∧ pathOk (t ++ p.extract q.size p.size) = decide (((t ++ p.extract q.size p.size).data.toList.count 47 : Int) < 4) := by
  obtain ⟨h1, h2, h3⟩ := under_cut h hq
  have ht1 := ht
  rw [pathOk_names ht0, Bool.and_eq_true, decide_eq_true_eq] at ht1
  have hsz : 0 < t.size := by
    rcases Nat.eq_zero_or_pos t.size with e | e
    · exact absurd (size0.2 e) ht0
    · exact e
  rcases h3 with rfl | ⟨r, rfl, e2⟩
  · have e : p.extract p.size p.size = ⟨#[]⟩ := size0.2 (by rw [ByteArray.size_extract]; omega)
    rw [e, app_nil]
    refine ⟨ht0, ?_⟩
    rw [ht]
    have := names_len t
    refine (decide_eq_true ?_).symm
    omega
  · rw [e2, ← app_assoc]
    have hne : t ++ ⟨#[47]⟩ ++ r ≠ ⟨#[]⟩ := fun e => by
      have := congrArg ByteArray.size e
      rw [add_size, add_size] at this
      have h0 : (⟨#[]⟩ : ByteArray).size = 0 := rfl
      omega
    have hpne : q ++ ⟨#[47]⟩ ++ r ≠ ⟨#[]⟩ := fun e => by
      have := congrArg ByteArray.size e
      rw [add_size, add_size] at this
      have h0 : (⟨#[]⟩ : ByteArray).size = 0 := rfl
      have h1 : (⟨#[47]⟩ : ByteArray).size = 1 := rfl
      omega
    refine ⟨hne, ?_⟩
    rw [pathOk_names hpne, names_glue, Bool.and_eq_true, List.all_append, Bool.and_eq_true] at h1
    have hl := names_len (t ++ ⟨#[47]⟩ ++ r)
    have hok : (names (t ++ ⟨#[47]⟩ ++ r)).all nameOk = true := by
      rw [names_glue, List.all_append, ht1.1, h1.1.2]; rfl
    rw [pathOk_names hne, hok, Bool.true_and, hl]
    by_cases hc : ((t ++ ⟨#[47]⟩ ++ r).data.toList.count 47 : Int) < 4
    · rw [decide_eq_true hc]; exact decide_eq_true (by omega)
    · rw [decide_eq_false hc]; exact decide_eq_false (by omega)
theorem unmoved_ok {p : ByteArray} (h : pathOk p = true) (h0 : p ≠ ⟨#[]⟩) : (p.data.toList.count 47 : Int) < 4 := by
  rw [pathOk_names h0, Bool.and_eq_true, decide_eq_true_eq] at h
  have := names_len p
  omega

/-! ### lists that are right -/
theorem okFrom_mem {l : List It3} : ∀ {r : List It3} {i : Nat}, okFrom l r i = true → ∀ (j : Nat) (x : It3), r[j]? = some x → itemBad l (i + j) x = false
  | [], i, h, j, x, hx => by simp at hx
  | y :: r, i, h, j, x, hx => by
    rw [okFrom, Bool.and_eq_true] at h
    cases j with
    | zero =>
      simp only [List.getElem?_cons_zero, Option.some.injEq] at hx
      subst hx
      simpa using h.1
    | succ j =>
      have := okFrom_mem h.2 j x (by simpa using hx)
      rwa [show i + 1 + j = i + (j + 1) from by omega] at this
theorem itemsOk_at {l : List It3} (h : itemsOk l = true) : l.length ≤ 11 ∧ ∀ (j : Nat) (x : It3), l[j]? = some x → (splitF x.1).2.2 = true ∧ x.2.2.size ≤ 60 ∧ (x.2.1 = true → x.2.2 = ⟨#[]⟩) ∧ idxOf (hasPath x.1) l 0 = (j : Int) ∧ isFold l (splitF x.1).1 = true := by
  unfold itemsOk at h
  rw [Bool.and_eq_true, decide_eq_true_eq] at h
  refine ⟨by omega, fun j x hx => ?_⟩
  have hb := okFrom_mem h.1 j x hx
  unfold itemBad at hb
  simp only [Bool.or_eq_false_iff, Bool.and_eq_false_imp, Bool.not_eq_false', decide_eq_false_iff_not, decide_eq_true_eq, Nat.zero_add] at hb
  obtain ⟨h1, h2, h3, h4, h5⟩ := hb
  refine ⟨h1, by omega, fun hd => h3 hd, h4, h5⟩
theorem splitF_ok {s : ByteArray} (h : (splitF s).2.2 = true) : pathOk s = true ∧ s ≠ ⟨#[]⟩ := by
  refine ⟨(split_names h).1, fun e => ?_⟩
  rw [splitF_nil e] at h; cases h
end Go.Proofs.YtoenfbbadfcfpaaGreatDoor
namespace Go.Proofs.YtoenfbbadfcfpaaGreatDoor
open Go.VM Go
set_option maxRecDepth 100000
set_option linter.unusedSimpArgs false
set_option linter.unusedVariables false
attribute [local congr] vw_congr runV_congr runH_congr runW_congr runX_congr stuckV_congr stuckX_congr

theorem take_snocI {α β : Type} (f : α → β) (l : List α) (x : β) : List.take (l.length + 1) (l.map f ++ [x]) = l.map f ++ [x] := List.take_of_length_le (by simp)
def itemsK (l : List ByteArray) (g : Nat → ByteArray → List It3) : List ByteArray → List Int → ByteArray → List It3
  | a :: xs, b :: ys, pre => (pre ++ a, (nodeRead (l.getD b.toNat ⟨#[]⟩)).1.dir, (nodeRead (l.getD b.toNat ⟨#[]⟩)).1.data) :: (g b.toNat (pre ++ a ++ ⟨#[47]⟩) ++ itemsK l g xs ys pre)
  | _, _, _ => []
def itemsG (l : List ByteArray) : Nat → Nat → ByteArray → List It3
  | 0, _, _ => []
  | f + 1, k, pre => itemsK l (itemsG l f) (nodeRead (l.getD k ⟨#[]⟩)).1.names (nodeRead (l.getD k ⟨#[]⟩)).1.kids pre
def lim : Nat → Nat
  | 0 => 0
  | f + 1 => 11 * (1 + lim f)
theorem itemsK_len {l : List ByteArray} {g : Nat → ByteArray → List It3} {m : Nat} (hg : ∀ k pre, (g k pre).length ≤ m) : ∀ (xs : List ByteArray) (ys : List Int) (pre : ByteArray), (itemsK l g xs ys pre).length ≤ ys.length * (1 + m)
  | [], ys, pre => by unfold itemsK; exact Nat.zero_le _
  | a :: xs, [], pre => by unfold itemsK; exact Nat.zero_le _
  | a :: xs, b :: ys, pre => by
    have h1 := itemsK_len (l := l) hg xs ys pre
    have h2 := hg b.toNat (pre ++ a ++ ⟨#[47]⟩)
    rw [itemsK]
    simp only [List.length_cons, List.length_append]
    rw [Nat.add_mul, Nat.one_mul]
    omega
theorem nodeRead_few (s : ByteArray) : (nodeRead s).1.kids.length ≤ 11 ∧ (nodeRead s).1.names.length = (nodeRead s).1.kids.length := by
  by_cases h : (nodeRead s).2 = true
  · exact ⟨nodeOk_few (nodeRead_ok h), (nodeOk_kids (nodeRead_ok h)).2⟩
  · have : (nodeRead s).1 = nodeZ := by
      unfold nodeRead at h ⊢
      split
      · rfl
      · split
        · rename_i h0 h1; rw [if_neg h0, if_pos h1] at h; exact absurd rfl h
        · rfl
    rw [this]; exact ⟨Nat.zero_le _, rfl⟩
theorem itemsG_len (l : List ByteArray) : ∀ (f k : Nat) (pre : ByteArray), (itemsG l f k pre).length ≤ lim f
  | 0, k, pre => Nat.le_refl _
  | f + 1, k, pre => by
    have h := itemsK_len (l := l) (g := itemsG l f) (itemsG_len l f) (nodeRead (l.getD k ⟨#[]⟩)).1.names (nodeRead (l.getD k ⟨#[]⟩)).1.kids pre
    have h2 := (nodeRead_few (l.getD k ⟨#[]⟩)).1
    rw [itemsG, lim]
    exact Nat.le_trans h (Nat.mul_le_mul_right _ h2)
/-- From this node on a volume can be gone through. -/
def deepOk (l : List ByteArray) (f k : Nat) : Prop := ∃ m, (goI l f k m).1 = true
theorem goKids_all {g : Nat → List Bool → Bool × List Bool} : ∀ (ys : List Int) (m : List Bool), (goKids g ys m).1 = true → ∀ y ∈ ys, ∃ m', (g y.toNat m').1 = true
  | [], m, _, y, hy => nomatch hy
  | z :: ys, m, h, y, hy => by
    rw [goKids] at h
    split at h
    · rename_i hg
      rcases List.mem_cons.1 hy with rfl | hy
      · exact ⟨m, hg⟩
      · exact goKids_all ys _ h y hy
    · cases h
theorem deep_step {l : List ByteArray} {f k : Nat} (h : deepOk l f k) : ∃ g, f = g + 1 ∧ (nodeRead (l.getD k ⟨#[]⟩)).2 = true ∧ ∀ y ∈ (nodeRead (l.getD k ⟨#[]⟩)).1.kids, deepOk l g y.toNat := by
  obtain ⟨m, h⟩ := h
  cases f with
  | zero => cases h
  | succ g =>
    refine ⟨g, rfl, ?_⟩
    rw [goI] at h
    split at h
    · rename_i hc
      exact ⟨hc.1, goKids_all _ _ h⟩
    · cases h
/-- What is put ahead of the names in a folder. -/
def preOf (p : ByteArray) : ByteArray := if p = ⟨#[]⟩ then ⟨#[]⟩ else p ++ ⟨#[47]⟩

set_option maxHeartbeats 1000000 in
theorem runs_items0 (l : List ByteArray) (hl : l.length = 12) (hsz : ∀ s ∈ l, s.size ≤ 2 ^ 20) (f k : Nat) (hk : k < 12) (hd : deepOk l f k) (p : ByteArray) (hp : p.size + 10 * f ≤ 1000) (out : List It3) (ho : out.length + lim f ≤ 2 ^ 20)
    (ih : ∀ g, f = g + 1 → ∀ (k : Nat) (p : ByteArray) (out : List It3), k < 12 → deepOk l g k → p.size + 10 * g ≤ 1000 → out.length + lim g ≤ 2 ^ 20 →
      Runs Tryz.prog 43 [.one (.v (.list false 1 (l.map sRow))), .one (.v (.int .i64 k)), .one (.v (.str p)), .one (.v (.list true 3 (out.map iRow)))] [.one (.v (.list true 3 ((out ++ itemsG l g k (preOf p)).map iRow)))] []) :
    Runs Tryz.prog 43 [.one (.v (.list false 1 (l.map sRow))), .one (.v (.int .i64 k)), .one (.v (.str p)), .one (.v (.list true 3 (out.map iRow)))] [.one (.v (.list true 3 ((out ++ itemsG l f k (preOf p)).map iRow)))] [] := by
  refine runs_tab (tab := [(0, .c (.list false 1 (l.map sRow))), (1, .c (.int .i64 k)), (2, .c (.str p)), (3, .al 3 [] 0 3 0 out.length)]) (rts := [(3, some ⟨false, 3, out.map iRow, []⟩)]) (n := 67) (k := 4) Tryz.func43 rfl rfl (by simp) rfl (fun t => ?_) rfl ?_
  · rcases t with _ | _ | _ | _ | t <;> simp [envOf, rvv, RT.vv, CT.vv, cvv, tabE_cons, tabE_nil, rcells, RT.cells]
  obtain ⟨g, rfl, hok, hkd⟩ := deep_step hd
  have hat : nodeAt l k = nodeRead (l.getD k ⟨#[]⟩) := by
    unfold nodeAt
    rw [if_pos ⟨hl, by simp only [inB, Bool.and_eq_true, decide_eq_true_eq]; omega⟩, Int.toNat_natCast]
  have rA := runs_77 l (by omega) hsz k _ rfl
  rw [hat] at rA
  have hG : itemsG l (g + 1) k (preOf p) = itemsK l (itemsG l g) (nodeRead (l.getD k ⟨#[]⟩)).1.names (nodeRead (l.getD k ⟨#[]⟩)).1.kids (preOf p) := rfl
  rw [hG]
  have hnk := nodeOk_kids (nodeRead_ok hok)
  have hfew := nodeRead_few (l.getD k ⟨#[]⟩)
  have hnm : ∀ y ∈ (nodeRead (l.getD k ⟨#[]⟩)).1.names, y.size ≤ 6 ∧ 1 ≤ y.size := by
    intro y hy
    have hO := nodeRead_ok hok
    rcases hdd : (nodeRead (l.getD k ⟨#[]⟩)).1.dir with _ | _
    · obtain ⟨h1, _⟩ := nodeOk_file hdd hO
      rw [List.eq_nil_of_length_eq_zero h1] at hy; cases hy
    · obtain ⟨_, _, h3⟩ := nodeOk_dir hdd hO
      obtain ⟨i, hi, rfl⟩ := List.getElem_of_mem hy
      have := nodeAt_out (h3 i hi)
      rw [List.getD_eq_getElem?_getD, List.getElem?_eq_getElem hi] at this
      have h6 : ((nodeRead (l.getD k ⟨#[]⟩)).1.names[i]).size ≤ 6 ∧ 1 ≤ ((nodeRead (l.getD k ⟨#[]⟩)).1.names[i]).size := ⟨by simpa using this.1, by simpa using this.2.1⟩
      exact h6
  clear hG hat hd
  generalize nodeRead (l.getD k ⟨#[]⟩) = r at rA hok hkd hnk hfew hnm ⊢
  obtain ⟨n, ok⟩ := r
  simp only at rA hok hkd hnk hfew hnm ⊢
  subst hok
  have bn : List.take n.names.length (n.names.map sRow) = n.names.map sRow := List.take_of_length_le (by simp)
  have bk : List.take n.kids.length (n.kids.map nRow) = n.kids.map nRow := List.take_of_length_le (by simp)
  (refine vw_go rfl ?_; simp only [go_sem, setCells, setIn])
  (refine vw_go rfl ?_; simp only [go_sem, setCells, setIn])
  (refine ⟨_, _, call_rx [0, 0] Tryz.func77 (rA) rfl rfl rfl rfl rfl rfl rfl (by simp [lendAll, lendC, seek, fresh, nav, rcells, RT.cells, VV.cells, tabE_cons, tabS_cons, ev, take_map_len, sRow_r1, sRow_comp, sRow_clean, nRow_r1, nRow_comp, nRow_clean]) rfl (by simp [rcells, RT.cells, CT.clean, T.clean, sRow_r1, sRow_comp, sRow_clean, nRow_r1, nRow_comp, nRow_clean]) rfl rfl, ?_⟩)
  simp only [runH, runX, bn, bk, go_sem, setCells, setIn]
  refine vw_seq ?_
  (refine vw_go rfl ?_; simp only [List.drop_length, bn, go_sem, setCells, setIn])
  refine vw_block ?_
  refine vw_loop_tab (α := Nat × List It3 × List Path) (fun x => n.names.length - x.1) (fun x => ⟨tabE [(0, .c (.list false 1 (l.map sRow))), (2, .c (.str p)), (3, .al 5 [] 0 3 0 x.2.1.length), (9, .ptr 4 [] 0 0 0), (23, .al 4 [(0, 1)] 2 1 0 n.names.length), (24, .c (.int .i64 n.names.length)), (25, .c (.int .i64 x.1))],
      tabS [(4, some ⟨true, 4, [[.bool n.dir, .list true 1 (n.names.map sRow), .list true 1 (n.kids.map nRow), .str n.data]], [[(0, 1)], [(0, 2)]]⟩), (5, some ⟨false, 3, x.2.1.map iRow, x.2.2⟩)], 6⟩)
    (fun x => x.1 ≤ n.names.length ∧ x.2.1 ++ itemsK l (itemsG l g) (n.names.drop x.1) (n.kids.drop x.1) (preOf p) = out ++ itemsK l (itemsG l g) n.names n.kids (preOf p) ∧ x.2.1.length + (n.kids.length - x.1) * (1 + lim g) ≤ 2 ^ 20) (x := (0, out, [])) ?round ?h0 ?hn
  case h0 =>
    refine ⟨Nat.zero_le _, rfl, ?_⟩
    have := Nat.mul_le_mul_right (1 + lim g) hfew.1
    simp only [lim, Nat.sub_zero] at ho ⊢
    omega
  case hn =>
    (refine norm_to [(3, 5), (71684, 4)] rfl ?_ ?_ <;> simp only [go_sem])
  rintro ⟨i, q, lg⟩ ⟨hi, hg, hlen⟩
  simp only at hi hg hlen
  by_cases hc : (i : Int) < n.names.length
  case neg =>
    rw [List.drop_eq_nil_of_le (by omega), List.drop_eq_nil_of_le (by omega)] at hg
    have e0 : itemsK l (itemsG l g) [] [] (preOf p) = [] := by unfold itemsK; rfl
    rw [e0, List.append_nil] at hg
    rw [← hg]
    have bq : List.take q.length (q.map iRow) = q.map iRow := List.take_of_length_le (by simp)
    (refine vw_go rfl ?_; simp only [hc, go_sem, setCells, setIn])
    refine vw_seq ?_
    (refine vw_cond (t := false) rfl (fun h => nomatch h) (fun _ => ?_))
    refine vw_exit (x_then (x_then (x_block (n_then ?_))))
    (refine vw_go rfl ?_; simp only [go_sem, setCells, setIn])
    exact vw_ret (e_ret (ret_by rfl rfl (by simp [RB]) rfl (by simp only [takeCs, takeC, bq, go_sem, setCells, setIn])))
  have hin : i < n.names.length := by omega
  have hik : i < n.kids.length := by omega
  obtain ⟨a, ha⟩ : ∃ a, n.names[i]? = some a := ⟨_, List.getElem?_eq_getElem hin⟩
  obtain ⟨y, hy⟩ : ∃ y, n.kids[i]? = some y := ⟨_, List.getElem?_eq_getElem hik⟩
  have hda : n.names.drop i = a :: n.names.drop (i + 1) := by
    rw [List.drop_eq_getElem_cons hin]
    congr 1
    rw [List.getElem?_eq_getElem hin] at ha
    exact Option.some.inj ha
  have hdk : n.kids.drop i = y :: n.kids.drop (i + 1) := by
    rw [List.drop_eq_getElem_cons hik]
    congr 1
    rw [List.getElem?_eq_getElem hik] at hy
    exact Option.some.inj hy
  have hyr := hnk.1 y (List.mem_of_getElem? hy)
  have hyd := hkd y (List.mem_of_getElem? hy)
  have has := hnm a (List.mem_of_getElem? ha)
  obtain ⟨z, rfl⟩ : ∃ z : Nat, y = z := ⟨y.toNat, by omega⟩
  rw [Int.toNat_natCast] at hyd
  rw [hda, hdk, itemsK, Int.toNat_natCast] at hg
  have hat : nodeAt l (z : Int) = nodeRead (l.getD z ⟨#[]⟩) := by
    unfold nodeAt
    rw [if_pos ⟨hl, by simp only [inB, Bool.and_eq_true, decide_eq_true_eq]; omega⟩, Int.toNat_natCast]
  have rZ := runs_77 l (by omega) hsz z _ rfl
  rw [hat] at rZ
  clear hat
  generalize nodeRead (l.getD z ⟨#[]⟩) = zz at rZ hg
  obtain ⟨m, mok⟩ := zz
  simp only at rZ hg
  have d0 : (0:Int) ≤ (i : Int) := by omega
  have d1 : (i : Int) < n.kids.length := by omega
  have w3 : IntKind.wrap .i64 ((i:Int) + 1) = ((i + 1 : Nat) : Int) := by rw [wrap_i64 (by omega) (by omega)]; rfl
  have hpre : (preOf p).size ≤ p.size + 1 := by
    unfold preOf
    split
    · exact Nat.zero_le _
    · rw [ByteArray.size_append]; exact Nat.le_refl _
  have hown : (preOf p ++ a).size ≤ p.size + 7 ∧ 1 ≤ (preOf p ++ a).size := by rw [ByteArray.size_append]; omega
  have hpn : preOf (preOf p ++ a) = preOf p ++ a ++ ⟨#[47]⟩ := by
    have : ¬ (preOf p ++ a) = ⟨#[]⟩ := fun e => by
      have e' := congrArg ByteArray.size e
      have : (⟨#[]⟩ : ByteArray).size = 0 := rfl
      omega
    unfold preOf at this ⊢
    rw [if_neg this]
  (refine vw_go rfl ?_; simp only [hc, go_sem, setCells, setIn])
  refine vw_seq ?_
  (refine vw_cond (t := true) rfl (fun _ => ?_) (fun h => nomatch h))
  refine vw_skip (n_then ?_)
  refine vw_seq ?_
  refine vw_block ?_
  (refine vw_go rfl ?_; simp only [d0, hc, hin, Int.toNat_natCast, getD_map_of ha, sRow, List.drop_length, go_sem, setCells, setIn])
  (refine vw_go rfl ?_; simp only [go_sem, setCells, setIn])
  refine vw_join (α := Unit) (fun _ => ⟨tabE [(0, .c (.list false 1 (l.map sRow))), (2, .c (.str p)), (3, .al 5 [] 0 3 0 q.length), (9, .ptr 4 [] 0 0 0), (11, .c (.int .i64 i)), (13, .c (.str (preOf p ++ a))), (23, .al 4 [(0, 1)] 2 1 0 n.names.length), (24, .c (.int .i64 n.names.length)), (25, .c (.int .i64 i))],
      tabS [(4, some ⟨true, 4, [[.bool n.dir, .list true 1 (n.names.map sRow), .list true 1 (n.kids.map nRow), .str n.data]], [[(0, 1)], [(0, 2)]]⟩), (5, some ⟨false, 3, q.map iRow, lg⟩)], 6⟩) (fun _ => True) ?_ ?_
  · (refine vw_go rfl ?_; simp only [go_sem, setCells, setIn])
    by_cases hpe : p = ⟨#[]⟩
    · have e1 : a = preOf p ++ a := by unfold preOf; rw [if_pos hpe]; apply ByteArray.ext; simp
      refine vw_cond (t := false) (by simp [ev, tabE_cons, hpe]) (fun h => nomatch h) (fun _ => ?_)
      refine vw_skip (n_then ⟨(), ?_⟩)
      rw [← e1]
      (refine norm_to [(4, 4), (5, 5)] rfl ?_ ?_ <;> simp only [go_sem])
    · have e1 : p ++ ⟨#[47]⟩ ++ a = preOf p ++ a := by unfold preOf; rw [if_neg hpe]
      have A1 : p.size + 1 < 2 ^ 60 := by omega
      have A2 : p.size + 1 + a.size < 2 ^ 60 := by omega
      refine vw_cond (t := true) (by simp [ev, tabE_cons, hpe]) (fun _ => ?_) (fun h => nomatch h)
      (refine vw_last rfl ?_; simp only [A1, A2, ByteArray.size_append, sz_lit, List.size_toArray, List.length_cons, List.length_nil, e1, go_sem, setCells, setIn])
      refine (n_then ⟨(), ?_⟩)
      (refine norm_to [(4, 4), (5, 5)] rfl ?_ ?_ <;> simp only [go_sem])
  rintro _ _
  have bn : List.take m.names.length (m.names.map sRow) = m.names.map sRow := List.take_of_length_le (by simp)
  have bk2 : List.take m.kids.length (m.kids.map nRow) = m.kids.map nRow := List.take_of_length_le (by simp)
  have bq : List.take q.length (q.map iRow) = q.map iRow := List.take_of_length_le (by simp)
  have hmul : (1 + lim g) ≤ (n.kids.length - i) * (1 + lim g) := Nat.le_mul_of_pos_left _ (by omega)
  have hmul2 : (n.kids.length - i) * (1 + lim g) = (n.kids.length - (i + 1)) * (1 + lim g) + (1 + lim g) := by
    rw [show n.kids.length - i = (n.kids.length - (i + 1)) + 1 from by omega, Nat.add_mul, Nat.one_mul]
  have B1 : ¬ (q.length + 1 + 1) * (40 + 1) > bigRow := by simp only [bigRow]; omega
  generalize preOf p ++ a = own at hg hown hpn ⊢
  (refine vw_go rfl ?_; simp only [d0, d1, hik, Int.toNat_natCast, getD_map_of hy, nRow, List.drop_length, go_sem, setCells, setIn])
  (refine ⟨_, _, call_rx [0, 0] Tryz.func77 (rZ) rfl rfl rfl rfl rfl rfl rfl (by simp [lendAll, lendC, seek, fresh, nav, rcells, RT.cells, VV.cells, tabE_cons, tabS_cons, ev, take_map_len, sRow_r1, sRow_comp, sRow_clean, nRow_r1, nRow_comp, nRow_clean]) rfl (by simp [rcells, RT.cells, CT.clean, T.clean, sRow_r1, sRow_comp, sRow_clean, nRow_r1, nRow_comp, nRow_clean]) rfl rfl, ?_⟩)
  simp only [runH, runX, bn, bk2, go_sem, setCells, setIn]
  (refine vw_go rfl ?_; simp only [bq, B1, List.drop_length, List.length_append, range1, List.replicate_succ, List.replicate_zero, List.flatten_cons, List.flatten_nil, List.range_zero, gt_iff_lt, take_snocI, go_sem, setCells, setIn])
  have e4 : q.map iRow ++ [[.str own, .bool m.dir, .str m.data]] = (q ++ [((own, m.dir, m.data) : It3)]).map iRow := by simp [iRow]
  have e5 : q.length + 1 = (q ++ [((own, m.dir, m.data) : It3)]).length := by simp
  rw [e4, e5]
  have hq1 : (q ++ [((own, m.dir, m.data) : It3)]).length = q.length + 1 := by simp
  have hg' : (q ++ [((own, m.dir, m.data) : It3)]) ++ (itemsG l g z (own ++ ⟨#[47]⟩) ++ itemsK l (itemsG l g) (n.names.drop (i + 1)) (n.kids.drop (i + 1)) (preOf p)) = out ++ itemsK l (itemsG l g) n.names n.kids (preOf p) := by
    rw [← hg]; simp
  generalize q ++ [((own, m.dir, m.data) : It3)] = q1 at hq1 hg' ⊢
  have rI := ih g rfl z own q1 (by omega) hyd (by omega) (by omega)
  have hgl := itemsG_len l g z (own ++ ⟨#[47]⟩)
  rw [hpn] at rI
  rw [← List.append_assoc] at hg'
  have bq1 : List.take q1.length (q1.map iRow) = q1.map iRow := List.take_of_length_le (by simp)
  have hq2 : (q1 ++ itemsG l g z (own ++ ⟨#[47]⟩)).length ≤ q.length + 1 + lim g := by rw [List.length_append]; omega
  generalize q1 ++ itemsG l g z (own ++ ⟨#[47]⟩) = q2 at rI hg' hq2
  have bq2 : List.take q2.length (q2.map iRow) = q2.map iRow := List.take_of_length_le (by simp)
  (refine vw_last rfl ?_; simp only [d0, d1, hik, Int.toNat_natCast, getD_map_of hy, nRow, List.drop_length, go_sem, setCells, setIn])
  (refine ⟨_, _, call_own [0, 0, 0, 0] [(73734, none)] Tryz.func43 (rI) rfl rfl rfl rfl rfl rfl rfl (by simp [takeCs, takeC, takeV, seek, fresh, nav, takenUp, rcells, RT.cells, VV.cells, tabE_cons, tabS_cons, ups_tab, ups_nil, ev, take_map_len, bq1, sRow_r1, sRow_clean, iRow_clean, List.drop_length]) rfl (by simp [rcells, RT.cells, CT.clean, T.clean, bq1, sRow_r1, sRow_clean, iRow_clean, List.drop_length]) rfl rfl, ?_⟩)
  simp only [runH, runX, go_sem, setCells, setIn]
  refine (n_block (n_then ?_))
  (refine vw_last rfl ?_; simp only [w3, go_sem, setCells, setIn])
  refine (n_then ?_)
  refine ⟨(i + 1, q2, []), by simp only; omega, ⟨by simp only; omega, hg', by simp only; omega⟩, ?_⟩
  (refine norm_to [(4, 4), (139270, 5)] rfl ?_ ?_ <;> simp only [go_sem])

theorem runs_43 (l : List ByteArray) (hl : l.length = 12) (hsz : ∀ s ∈ l, s.size ≤ 2 ^ 20) : ∀ (f k : Nat) (p : ByteArray) (out : List It3), k < 12 → deepOk l f k → p.size + 10 * f ≤ 1000 → out.length + lim f ≤ 2 ^ 20 →
    Runs Tryz.prog 43 [.one (.v (.list false 1 (l.map sRow))), .one (.v (.int .i64 k)), .one (.v (.str p)), .one (.v (.list true 3 (out.map iRow)))] [.one (.v (.list true 3 ((out ++ itemsG l f k (preOf p)).map iRow)))] []
  | 0, k, p, out, hk, hd, hp, ho => runs_items0 l hl hsz 0 k hk hd p hp out ho (fun g e => by omega)
  | f + 1, k, p, out, hk0, hd0, hp0, ho0 => runs_items0 l hl hsz (f + 1) k hk0 hd0 p hp0 out ho0 (fun g e k p out hk hd hp ho => by
      have e' : g = f := by omega
      subst e'
      exact runs_43 l hl hsz g k p out hk hd hp ho)

def itemsV (l : List ByteArray) : List It3 := if volOk l = true then itemsG l 5 0 ⟨#[]⟩ else []
theorem volOk_deep {l : List ByteArray} (h : volOk l = true) : l.length = 12 ∧ deepOk l 5 0 := by
  unfold volOk at h
  simp only [Bool.and_eq_true, decide_eq_true_eq] at h
  exact ⟨h.1, _, h.2.1⟩

theorem runs_16 (l : List ByteArray) (hl : l.length < 2 ^ 60) (hsz : ∀ s ∈ l, s.size ≤ 2 ^ 20) : Runs Tryz.prog 16 [.one (.v (.list false 1 (l.map sRow)))] [.one (.v (.list true 3 ((itemsV l).map iRow)))] [] := by
  refine runs_tab (tab := [(0, .c (.list false 1 (l.map sRow)))]) (rts := []) (n := 8) (k := 1) Tryz.func16 rfl rfl (by simp) rfl (fun t => ?_) rfl ?_
  · rcases t with _ | t <;> rfl
  have rV := runs_42 l hl hsz
  unfold itemsV
  (refine vw_go rfl ?_; simp only [go_sem, setCells, setIn])
  refine vw_seq ?_
  (refine vw_go rfl ?_; simp only [go_sem, setCells, setIn])
  (refine ⟨_, _, call_rx [0] Tryz.func42 (rV) rfl rfl rfl rfl rfl rfl rfl (by simp [lendAll, lendC, seek, fresh, nav, rcells, RT.cells, VV.cells, tabE_cons, tabS_cons, ev, take_map_len, sRow_r1, sRow_comp, sRow_clean, nRow_r1, nRow_comp, nRow_clean]) rfl (by simp [rcells, RT.cells, CT.clean, T.clean, sRow_r1, sRow_comp, sRow_clean, nRow_r1, nRow_comp, nRow_clean]) rfl rfl, ?_⟩)
  cases hv : volOk l
  · simp only [runH, runX, go_sem, setCells, setIn]
    (refine vw_cond (t := true) rfl (fun _ => ?_) (fun h => nomatch h))
    (refine vw_go rfl ?_; simp only [go_sem, setCells, setIn])
    exact vw_ret (r_then (e_ret (ret_of rfl rfl (by simp [RB]) rfl rfl)))
  obtain ⟨h12, hd⟩ := volOk_deep hv
  have rI := runs_43 l h12 hsz 5 0 ⟨#[]⟩ [] (by decide) hd (by decide) (by decide)
  rw [show preOf ⟨#[]⟩ = ⟨#[]⟩ from rfl, List.nil_append] at rI
  have bi : List.take (itemsG l 5 0 ⟨#[]⟩).length ((itemsG l 5 0 ⟨#[]⟩).map iRow) = (itemsG l 5 0 ⟨#[]⟩).map iRow := List.take_of_length_le (by simp)
  simp only [runH, runX, go_sem, setCells, setIn]
  (refine vw_cond (t := false) rfl (fun h => nomatch h) (fun _ => ?_))
  refine vw_skip (n_then ?_)
  (refine vw_go rfl ?_; simp only [go_sem, setCells, setIn])
  (refine ⟨_, _, call_own [0, 0, 0, 27] [] Tryz.func43 (rI) rfl rfl rfl rfl rfl rfl rfl (by simp [takeCs, takeC, takeV, seek, fresh, nav, takenUp, rcells, RT.cells, VV.cells, tabE_cons, tabS_cons, ups_tab, ups_nil, ev, take_map_len, lit, elemT_27, cellsOf_51, sRow_r1, sRow_clean, iRow_clean, List.drop_length]) rfl (by simp [rcells, RT.cells, CT.clean, T.clean, lit, elemT_27, cellsOf_51, sRow_r1, sRow_clean, iRow_clean, List.drop_length]) rfl rfl, ?_⟩)
  simp only [runH, runX, go_sem, setCells, setIn]
  exact vw_ret (e_ret (ret_by rfl rfl (by simp [RB]) rfl (by simp only [takeCs, takeC, go_sem, setCells, setIn])))
end Go.Proofs.YtoenfbbadfcfpaaGreatDoor
