/- Plain of the program: a folder's names. Plain: a folder's names of both, the same text. Plain law: what an op does to a right list does not hang on the list's order. -/
import Derived.Test.YtoenfbbadfcfpaaGreatDoorPFSort
import Derived.Test.YtoenfbbadfcfpaaGreatDoorPFUndo
set_option linter.unusedSimpArgs false
set_option linter.unusedVariables false
namespace Go.Proofs.YtoenfbbadfcfpaaGreatDoor
open Go.VM Go
set_option maxRecDepth 100000
attribute [-go_sem] runW_cons
attribute [local congr] vw_congr runV_congr runH_congr runW_congr runX_congr stuckV_congr stuckX_congr
def namesL (p : ByteArray) (l : List It3) : List ByteArray := (l.filter (fun x => decide ((splitF x.1).1 = p))).map (fun x => (splitF x.1).2.1)
def dirsL (p : ByteArray) (l : List It3) : List ByteArray := (l.filter (fun x => decide ((splitF x.1).1 = p) && x.2.1)).map (fun x => (splitF x.1).2.1)
def markS (D : List ByteArray) (s : ByteArray) : ByteArray := if (D.any (fun x => decide (s = x))) = true then s ++ ⟨#[47]⟩ else s
def listI (l : List It3) (p : ByteArray) : ByteArray := joinS ⟨#[32]⟩ ((sortL (namesL p l)).map (markS (dirsL p l)))
theorem namesL_take {p : ByteArray} {l : List It3} {i : Nat} {x : It3} (hx : l[i]? = some x) : namesL p (l.take (i + 1)) = namesL p (l.take i) ++ (if (splitF x.1).1 = p then [(splitF x.1).2.1] else []) := by
  unfold namesL
  rw [List.take_add_one, hx, List.filter_append, List.map_append]
  by_cases h : (splitF x.1).1 = p <;> simp [h]
theorem dirsL_take {p : ByteArray} {l : List It3} {i : Nat} {x : It3} (hx : l[i]? = some x) : dirsL p (l.take (i + 1)) = dirsL p (l.take i) ++ (if (splitF x.1).1 = p ∧ x.2.1 = true then [(splitF x.1).2.1] else []) := by
  unfold dirsL
  rw [List.take_add_one, hx, List.filter_append, List.map_append]
  by_cases h : (splitF x.1).1 = p <;> cases h2 : x.2.1 <;> simp [h, h2]
theorem namesL_len (p : ByteArray) (l : List It3) : (namesL p l).length ≤ l.length := by
  unfold namesL; rw [List.length_map]; exact List.length_filter_le _ _
theorem dirsL_len (p : ByteArray) (l : List It3) : (dirsL p l).length ≤ l.length := by
  unfold dirsL; rw [List.length_map]; exact List.length_filter_le _ _
theorem sort_len (N : List ByteArray) : (sortL N).length = N.length := by
  have : ∀ (l acc : List ByteArray), (l.foldl insG acc).length = acc.length + l.length := by
    intro l
    induction l with
    | nil => intro acc; simp
    | cons x l ih => intro acc; rw [List.foldl_cons, ih, ins_len, List.length_cons]; omega
  unfold sortL
  rw [this, List.length_nil, Nat.zero_add]
theorem join_le (l : List ByteArray) (sep : ByteArray) (m : Nat) (hm : ∀ u ∈ l, u.size ≤ m) (hs : sep.size ≤ m) : (Lib.join (l.map (·.data.toList)) sep.data.toList).length ≤ 2 * m * l.length := by
  have ht : ∀ r : List ByteArray, (∀ u ∈ r, u.size ≤ m) → (Lib.joinTail sep.data.toList (r.map (·.data.toList))).length ≤ 2 * m * r.length := by
    intro r
    induction r with
    | nil => intro _; exact Nat.zero_le _
    | cons x r ih =>
      intro h
      have h1 := ih (fun u hu => h u (by simp [hu]))
      have h2 := h x (by simp)
      unfold Lib.joinTail at h1 ⊢
      rw [List.map_cons, List.map_cons, List.flatten_cons, List.length_append, List.length_append, bs_len, bs_len, List.length_cons, Nat.mul_succ]
      omega
  cases l with
  | nil => exact Nat.zero_le _
  | cons x r =>
    have h1 := ht r (fun u hu => hm u (by simp [hu]))
    have h2 := hm x (by simp)
    rw [List.map_cons, Lib.join_cons, List.length_append, bs_len, List.length_cons, Nat.mul_succ]
    omega
theorem big17 {x : Nat} (h : x ≤ 1000) : ¬ x * (16 + 1) > bigRow := by
  have h1 : x * (16 + 1) ≤ 1000 * 17 := Nat.mul_le_mul_right _ h
  have h2 : 1000 * 17 ≤ bigRow := by decide
  exact Nat.not_lt.2 (Nat.le_trans h1 h2)
set_option maxHeartbeats 2000000 in
theorem runs_75 (l : List It3) (hl : l.length ≤ 11) (hb : ∀ x ∈ l, x.1.size ≤ 100) (p : ByteArray) (hp : p.size ≤ 2 ^ 19) (hnd : (namesL p l).Nodup) :
    Runs Tryz.prog 75 [.one (.v (.list false 3 (l.map iRow))), .one (.v (.str p))] [.one (.v (.str (listI l p)))] [] := by
  refine runs_tab (tab := [(0, .c (.list false 3 (l.map iRow))), (1, .c (.str p))]) (rts := []) (n := 63) (k := 2) Tryz.func75 rfl rfl (by simp) rfl (fun t => ?_) rfl ?_
  · rcases t with _ | _ | t <;> rfl
  refine vw_go rfl ?_; simp only [go_sem, setCells, setIn]
  refine vw_go rfl ?_; simp only [go_sem, setCells, setIn]
  refine vw_go rfl ?_; simp only [go_sem, setCells, setIn]
  refine vw_seq ?_
  refine vw_go rfl ?_; simp only [go_sem, setCells, setIn]
  refine vw_block ?_
  refine vw_loop_tab (α := Nat × List ByteArray × List ByteArray) (fun x => l.length - x.1) (fun x => ⟨tabE [(0, .c (.list false 3 (l.map iRow))), (1, .c (.str p)), (5, .al 2 [] 0 1 0 x.2.1.length), (6, .al 3 [] 0 1 0 x.2.2.length), (16, .c (.list false 3 (l.map iRow))), (17, .c (.int .i64 l.length)), (18, .c (.int .i64 x.1))],
      tabS [(2, some ⟨false, 1, x.2.1.map sRow, []⟩), (3, some ⟨false, 1, x.2.2.map sRow, []⟩)], 4⟩)
    (fun x => x.1 ≤ l.length ∧ x.2.1 = namesL p (l.take x.1) ∧ x.2.2 = dirsL p (l.take x.1)) (x := (0, [], [])) ?round ⟨Nat.zero_le _, rfl, rfl⟩ ?hn
  case hn =>
    refine norm_to [(65538, 2), (131074, 3)] rfl ?_ ?_ <;> simp only [go_sem]
    all_goals rfl
  rintro ⟨i, N, D⟩ ⟨hi, hN, hD⟩
  simp only at hi hN hD
  have lN : N.length ≤ 11 := by rw [hN]; exact Nat.le_trans (namesL_len _ _) (by rw [List.length_take]; omega)
  have lD : D.length ≤ 11 := by rw [hD]; exact Nat.le_trans (dirsL_len _ _) (by rw [List.length_take]; omega)
  have bN : List.take N.length (N.map sRow) = N.map sRow := List.take_of_length_le (by simp)
  have bD : List.take D.length (D.map sRow) = D.map sRow := List.take_of_length_le (by simp)
  by_cases hc : (i : Int) < l.length
  · have hin : i < l.length := by omega
    obtain ⟨x, hx⟩ : ∃ x, l[i]? = some x := ⟨_, List.getElem?_eq_getElem hin⟩
    have hxs := hb x (List.mem_of_getElem? hx)
    have d0 : (0:Int) ≤ (i : Int) := by omega
    have w3 : IntKind.wrap .i64 ((i:Int) + 1) = ((i + 1 : Nat) : Int) := by rw [wrap_i64 (by omega) (by omega)]; rfl
    have rS := runs_55 x.1 (by omega)
    have eN := namesL_take (p := p) hx
    have eD := dirsL_take (p := p) hx
    generalize splitF x.1 = sp at rS eN eD
    obtain ⟨up, nm, ok⟩ := sp
    simp only at rS eN eD
    rw [← hN] at eN
    rw [← hD] at eD
    have B1 : ¬ (N.length + 1 + 1) * (16 + 1) > bigRow := big17 (by omega)
    have B2 : ¬ (D.length + 1 + 1) * (16 + 1) > bigRow := big17 (by omega)
    have e4 : N.map sRow ++ [[.str nm]] = (N ++ [nm]).map sRow := by simp [sRow]
    have e5 : D.map sRow ++ [[.str nm]] = (D ++ [nm]).map sRow := by simp [sRow]
    have e6 : N.length + 1 = (N ++ [nm]).length := by simp
    have e7 : D.length + 1 = (D ++ [nm]).length := by simp
    refine vw_go rfl ?_; simp only [hc, go_sem, setCells, setIn]
    refine vw_seq ?_
    refine vw_cond (t := true) rfl (fun _ => ?_) (fun h => nomatch h)
    refine vw_skip (n_then ?_)
    refine vw_seq ?_
    refine vw_block ?_
    refine vw_go rfl ?_; simp only [d0, hc, hin, Int.toNat_natCast, getD_map_of hx, iRow, go_sem, setCells, setIn]
    refine vw_go rfl ?_; simp only [go_sem, setCells, setIn]
    refine ⟨_, _, call_rd [0] Tryz.func55 (rS) rfl rfl rfl rfl rfl rfl rfl rfl rfl rfl rfl rfl rfl, ?_⟩
    simp only [runH, runX, go_sem, setCells, setIn]
    by_cases he : up = p
    · rw [if_pos he] at eN
      refine vw_seq ?_
      refine vw_go rfl ?_; simp only [he, go_sem, setCells, setIn]
      refine vw_cond (t := false) rfl (fun h => nomatch h) (fun _ => ?_)
      refine vw_skip (n_then ?_)
      refine vw_go rfl ?_; simp only [B1, bN, List.drop_length, range1, List.replicate_succ, List.replicate_zero, List.flatten_cons, List.flatten_nil, List.range_zero, gt_iff_lt, go_sem, setCells, setIn]
      rw [e4, e6]
      cases hd : x.2.1
      · rw [hd, if_neg (by simp), List.append_nil] at eD
        refine vw_go rfl ?_; simp only [hd, go_sem, setCells, setIn]
        refine vw_cond (t := false) rfl (fun h => nomatch h) (fun _ => ?_)
        refine vw_skip (n_block (n_then ?_))
        refine vw_last rfl ?_; simp only [w3, go_sem, setCells, setIn]
        refine (n_then ?_)
        refine ⟨(i + 1, N ++ [nm], D), by simp only; omega, ⟨by simp only; omega, eN.symm, eD.symm⟩, ?_⟩
        refine norm_to [(265220, 2), (3, 3)] rfl ?_ ?_ <;> simp only [go_sem]
      · rw [hd, if_pos ⟨he, rfl⟩] at eD
        refine vw_go rfl ?_; simp only [hd, go_sem, setCells, setIn]
        refine vw_cond (t := true) rfl (fun _ => ?_) (fun h => nomatch h)
        refine vw_last rfl ?_; simp only [B2, bD, List.drop_length, range1, List.replicate_succ, List.replicate_zero, List.flatten_cons, List.flatten_nil, List.range_zero, gt_iff_lt, go_sem, setCells, setIn]
        rw [e5, e7]
        refine (n_block (n_then ?_))
        refine vw_last rfl ?_; simp only [w3, go_sem, setCells, setIn]
        refine (n_then ?_)
        refine ⟨(i + 1, N ++ [nm], D ++ [nm]), by simp only; omega, ⟨by simp only; omega, eN.symm, eD.symm⟩, ?_⟩
        refine norm_to [(265220, 2), (396292, 3)] rfl ?_ ?_ <;> simp only [go_sem]
    · rw [if_neg he, List.append_nil] at eN
      rw [if_neg (fun h => he h.1), List.append_nil] at eD
      refine vw_seq ?_
      refine vw_go rfl ?_; simp only [he, go_sem, setCells, setIn]
      refine vw_cond (t := true) rfl (fun _ => ?_) (fun h => nomatch h)
      refine vw_exit (x_then (x_block (n_then ?_)))
      refine vw_last rfl ?_; simp only [w3, go_sem, setCells, setIn]
      refine (n_then ?_)
      refine ⟨(i + 1, N, D), by simp only; omega, ⟨by simp only; omega, eN.symm, eD.symm⟩, ?_⟩
      refine norm_to [(2, 2), (3, 3)] rfl ?_ ?_ <;> simp only [go_sem]
  rw [List.take_of_length_le (by omega)] at hN hD
  rw [← hN] at hnd
  have hNz : ∀ u ∈ N, u.size ≤ 100 := fun u hu => by
    rw [hN] at hu
    unfold namesL at hu
    obtain ⟨x, hx, rfl⟩ := List.mem_map.1 hu
    exact Nat.le_trans (splitF_size x.1).2 (hb x ((List.mem_filter.1 hx).1))
  unfold listI
  rw [← hN, ← hD]
  clear hN hD
  refine vw_go rfl ?_; simp only [hc, go_sem, setCells, setIn]
  refine vw_seq ?_
  refine vw_cond (t := false) rfl (fun h => nomatch h) (fun _ => ?_)
  refine vw_exit (x_then (x_then (x_block (n_then ?_))))
  refine vw_go rfl ?_; simp only [go_sem, setCells, setIn]
  refine ⟨_, _, call_bs [0] [.back] [(2, 0, ⟨false, 1, N.map sRow, []⟩)] [(sortL N).map sRow] (rest := []) Tryz.func100 (runs_100 N (by omega) hnd) rfl rfl rfl rfl rfl rfl rfl rfl (by simp [VV.cells, ev, tabE_cons, iRow_r1, iRow_clean, sRow_r1, sRow_comp, sRow_clean]) (by simp [tabS_cons, iRow_r1, iRow_clean, sRow_r1, sRow_comp, sRow_clean]) (by simp) rfl rfl (by simp [rcells, RT.cells, iRow_r1, iRow_clean, sRow_r1, sRow_comp, sRow_clean]) rfl rfl (by simp [clean_map, iRow_r1, iRow_clean, sRow_r1, sRow_comp, sRow_clean]) rfl rfl, ?_⟩
  simp only [runH, runX, go_sem, setCells, setIn]
  have hSl : (sortL N).length = N.length := sort_len N
  rw [← hSl]
  have lS : (sortL N).length ≤ 11 := by omega
  have hSz : ∀ u ∈ sortL N, u.size ≤ 100 := fun u hu => by
    have := ((sort_asc N [] (by simp [Asc]) hnd (fun x _ h => nomatch h)).2 u).1 hu
    rcases this with h | h
    · exact hNz u h
    · cases h
  generalize sortL N = S at hSl lS hSz ⊢
  clear hnd lN bN hSl
  refine vw_seq ?_
  refine vw_go rfl ?_; simp only [go_sem, setCells, setIn]
  refine vw_block ?_
  refine vw_loop_tab (α := Nat) (fun x => S.length - x) (fun x => ⟨tabE [(5, .al 2 [] 0 1 0 S.length), (6, .al 3 [] 0 1 0 D.length), (45, .al 2 [] 0 1 0 S.length), (46, .c (.int .i64 S.length)), (47, .c (.int .i64 x))],
      tabS [(2, some ⟨false, 1, ((S.take x).map (markS D) ++ S.drop x).map sRow, [[]]⟩), (3, some ⟨false, 1, D.map sRow, []⟩)], 4⟩)
    (fun x => x ≤ S.length) (x := 0) ?round2 (Nat.zero_le _) ?hn2
  case hn2 =>
    refine norm_to [(2, 2), (3, 3)] rfl ?_ ?_ <;> simp only [go_sem]
    all_goals rfl
  rintro k hk
  by_cases hc : (k : Int) < S.length
  · have hkn : k < S.length := by omega
    obtain ⟨s, hs⟩ : ∃ s, S[k]? = some s := ⟨_, List.getElem?_eq_getElem hkn⟩
    have d0 : (0:Int) ≤ (k : Int) := by omega
    have w3 : IntKind.wrap .i64 ((k:Int) + 1) = ((k + 1 : Nat) : Int) := by rw [wrap_i64 (by omega) (by omega)]; rfl
    have rC := runs_101 D (by omega) s
    have hmk : markS D s = if (D.any (fun x => decide (s = x))) = true then s ++ ⟨#[47]⟩ else s := rfl
    have hst : (S.take (k + 1)).map (markS D) ++ S.drop (k + 1) = ((S.take k).map (markS D) ++ S.drop k).set k (markS D s) := by
      have e : k - (List.map (markS D) (S.take k)).length = 0 := by simp; omega
      rw [List.set_append_right _ _ (by simp; omega), e, List.take_add_one, hs, drop_of hs, List.map_append]
      simp
    have hat : ((S.take k).map (markS D) ++ S.drop k)[k]? = some s := by
      rw [List.getElem?_append_right (by simp; omega)]
      simp [List.length_take, Nat.min_eq_left hk, hs]
    have hWl : ((S.take k).map (markS D) ++ S.drop k).length = S.length := by simp; omega
    have hend : ((S.take (k + 1)).map (markS D) ++ S.drop (k + 1)).map sRow = (((S.take k).map (markS D) ++ S.drop k).map sRow).set k [.str (markS D s)] := by
      rw [hst, List.map_set, sRow]
    have bD : List.take D.length (D.map sRow) = D.map sRow := List.take_of_length_le (by simp)
    refine vw_go rfl ?_; simp only [hc, go_sem, setCells, setIn]
    refine vw_seq ?_
    refine vw_cond (t := true) rfl (fun _ => ?_) (fun h => nomatch h)
    refine vw_skip (n_then ?_)
    refine vw_seq ?_
    refine vw_block ?_
    generalize (S.take k).map (markS D) ++ S.drop k = W at hat hWl hend ⊢
    generalize D.any (fun x => decide (s = x)) = b at rC hmk
    have hkW : k < W.length := by omega
    refine vw_go rfl ?_; simp only [d0, hc, hkW, List.length_map, Int.toNat_natCast, getD_map_of hat, sRow, go_sem, setCells, setIn]
    refine vw_go rfl ?_; simp only [bD, go_sem, setCells, setIn]
    refine ⟨_, _, call_rx [0, 0] Tryz.func101 (rC) rfl rfl rfl rfl rfl rfl rfl (by simp [lendAll, lendC, seek, fresh, nav, rcells, RT.cells, VV.cells, tabE_cons, tabS_cons, ev, take_map_len, iRow_r1, iRow_clean, sRow_r1, sRow_comp, sRow_clean, bD]) rfl (by simp [rcells, RT.cells, CT.clean, T.clean, iRow_r1, iRow_clean, sRow_r1, sRow_comp, sRow_clean, bD]) rfl rfl, ?_⟩
    cases b
    · rw [if_neg (by decide)] at hmk
      rw [hmk] at hend
      have hsame : (W.map sRow).set k [.str s] = W.map sRow := by
        refine List.ext_getElem? fun j => ?_
        rw [List.getElem?_set]
        split
        · rename_i hj
          subst hj
          rw [List.getElem?_map, hat, if_pos (by simpa using hkW)]
          rfl
        · rfl
      rw [hsame] at hend
      simp only [runH, runX, go_sem, setCells, setIn]
      refine vw_cond (t := false) rfl (fun h => nomatch h) (fun _ => ?_)
      refine vw_skip (n_block (n_then ?_))
      refine vw_last rfl ?_; simp only [w3, go_sem, setCells, setIn]
      refine (n_then ?_)
      refine ⟨k + 1, by omega, by omega, ?_⟩
      rw [hend]
      refine norm_to [(2, 2), (3, 3)] rfl ?_ ?_ <;> simp only [go_sem]
    · rw [if_pos rfl] at hmk
      rw [hmk] at hend
      simp only [runH, runX, go_sem, setCells, setIn]
      refine vw_cond (t := true) rfl (fun _ => ?_) (fun h => nomatch h)
      have zc : s.size + 1 < 2 ^ 60 := by have := hSz s (List.mem_of_getElem? hs); omega
      have zd : (⟨#[47]⟩ : ByteArray).size = 1 := rfl
      refine vw_last rfl ?_; simp only [d0, hc, hkW, zc, zd, List.length_map, Int.toNat_natCast, getD_map_of hat, sRow, go_sem, setCells, setIn]
      refine (n_block (n_then ?_))
      refine vw_last rfl ?_; simp only [w3, go_sem, setCells, setIn]
      refine (n_then ?_)
      refine ⟨k + 1, by omega, by omega, ?_⟩
      rw [hend]
      refine norm_to [(2, 2), (3, 3)] rfl ?_ ?_ <;> simp only [go_sem]
  obtain rfl : k = S.length := by omega
  rw [List.take_length, List.drop_length, List.append_nil]
  refine vw_go rfl ?_; simp only [hc, go_sem, setCells, setIn]
  refine vw_seq ?_
  refine vw_cond (t := false) rfl (fun h => nomatch h) (fun _ => ?_)
  refine vw_exit (x_then (x_then (x_block (n_then ?_))))
  have hjl := join_le (S.map (markS D)) (⟨#[32]⟩ : ByteArray) 200 (fun u hu => by
    obtain ⟨v, hv, rfl⟩ := List.mem_map.1 hu
    have h1 := hSz v hv
    unfold markS
    split
    · rw [add_size]; have : (⟨#[47]⟩ : ByteArray).size = 1 := rfl; omega
    · omega) (by decide)
  have rJ := runs_102 (S.map (markS D)) ⟨#[32]⟩ (by simp; omega) (by
    refine Nat.le_trans hjl ?_
    rw [List.length_map]; omega)
  have lM : (S.map (markS D)).length = S.length := by simp
  rw [← lM]
  generalize S.map (markS D) = M at *
  have bM : List.take M.length (M.map sRow) = M.map sRow := List.take_of_length_le (by simp)
  refine vw_go rfl ?_; simp only [bM, go_sem, setCells, setIn]
  refine ⟨_, _, call_rx [0, 0] Tryz.func102 (rJ) rfl rfl rfl rfl rfl rfl rfl (by simp [lendAll, lendC, seek, fresh, nav, rcells, RT.cells, VV.cells, tabE_cons, tabS_cons, ev, take_map_len, lit, iRow_r1, iRow_clean, sRow_r1, sRow_comp, sRow_clean, bM]) rfl (by simp [rcells, RT.cells, CT.clean, T.clean, lit, iRow_r1, iRow_clean, sRow_r1, sRow_comp, sRow_clean, bM]) rfl rfl, ?_⟩
  simp only [runH, runX, bM, go_sem, setCells, setIn]
  exact vw_ret (e_ret (ret_of rfl rfl (by simp [RB]) rfl rfl))
end Go.Proofs.YtoenfbbadfcfpaaGreatDoor
namespace Go.Proofs.YtoenfbbadfcfpaaGreatDoor
open Go.VM Go
theorem split_same {s t : ByteArray} (hs : (splitF s).2.2 = true) (ht : (splitF t).2.2 = true) (h1 : (splitF s).1 = (splitF t).1) (h2 : (splitF s).2.1 = (splitF t).2.1) : s = t := by
  have e1 := (split_names hs).2.1
  have e2 := (split_names ht).2.1
  rw [h1, h2] at e1
  have hs0 : ¬ s = ⟨#[]⟩ := fun e => by rw [splitF_nil e] at hs; cases hs
  have ht0 : ¬ t = ⟨#[]⟩ := fun e => by rw [splitF_nil e] at ht; cases ht
  have e3 : namesZ s = namesZ t := by rw [e1, e2]
  unfold namesZ at e3
  rw [if_neg hs0, if_neg ht0] at e3
  rw [← names_join s, ← names_join t, e3]
theorem items_nodup {l : List It3} (hok : itemsOk l = true) : l.Pairwise (fun x y => x.1 ≠ y.1) := by
  rw [List.pairwise_iff_getElem]
  intro i j hi hj hij e
  have h := (itemsOk_at hok).2
  have h1 := (h i _ (List.getElem?_eq_getElem hi)).2.2.2.1
  have h2 := (h j _ (List.getElem?_eq_getElem hj)).2.2.2.1
  rw [e] at h1
  rw [h1] at h2
  omega
theorem items_split {l : List It3} (hok : itemsOk l = true) {x : It3} (hx : x ∈ l) : (splitF x.1).2.2 = true := by
  obtain ⟨j, hj⟩ := List.getElem?_of_mem hx
  exact ((itemsOk_at hok).2 j x hj).1
theorem namesL_nodup {l : List It3} (hok : itemsOk l = true) (p : ByteArray) : (namesL p l).Nodup := by
  unfold namesL
  rw [List.Nodup, List.pairwise_map]
  have h := (items_nodup hok).filter (fun x : It3 => decide ((splitF x.1).1 = p))
  refine h.imp_of_mem (fun {x y} hx hy hne he => hne ?_)
  obtain ⟨hx, px⟩ := List.mem_filter.1 hx
  obtain ⟨hy, py⟩ := List.mem_filter.1 hy
  simp only [decide_eq_true_eq] at px py
  exact split_same (items_split hok hx) (items_split hok hy) (by rw [px, py]) he
/-- What stands in a folder's node. -/
def GoodQ (l : List It3) (p : ByteArray) (q : ByteArray × Int) : Prop := ∃ (j : Nat) (x : It3), q.2 = (j : Int) ∧ l[j]? = some x ∧ (splitF x.1).1 = p ∧ (splitF x.1).2.1 = q.1
theorem nodeG_sort {l : List It3} {p : ByteArray} : ∀ (r : List It3) (i : Nat) (n : NodeV) (N : List ByteArray) (ps : List (ByteArray × Int)), (∀ j x, r[j]? = some x → l[i + j]? = some x) → (N ++ namesL p r).Nodup → n.names = ps.map (·.1) → n.kids = ps.map (·.2) → n.names = sortL N → (∀ q ∈ ps, GoodQ l p q) →
    ∃ ps' : List (ByteArray × Int), (nodeG p r i n).names = ps'.map (·.1) ∧ (nodeG p r i n).kids = ps'.map (·.2) ∧ (nodeG p r i n).names = sortL (N ++ namesL p r) ∧ ∀ q ∈ ps', GoodQ l p q
  | [], i, n, N, ps, _, _, h1, h2, h3, h4 => ⟨ps, h1, h2, by rw [nodeG]; simpa [namesL] using h3, h4⟩
  | x :: r, i, n, N, ps, hr, hd, h1, h2, h3, h4 => by
    have hx : l[i]? = some x := by have := hr 0 x rfl; simpa using this
    have hr' : ∀ j y, r[j]? = some y → l[i + 1 + j]? = some y := fun j y hy => by
      have := hr (j + 1) y (by simpa using hy)
      rw [show i + 1 + j = i + (j + 1) from by omega]; exact this
    rw [nodeG]
    by_cases hp : (splitF x.1).1 = p
    · have eN : namesL p (x :: r) = (splitF x.1).2.1 :: namesL p r := by simp [namesL, hp]
      rw [eN] at hd ⊢
      rw [if_pos hp]
      generalize hs : (splitF x.1).2.1 = s at hd ⊢
      have hdN : N.Nodup := (List.nodup_append.1 hd).1
      have hsN : s ∉ N := fun h => (List.nodup_append.1 hd).2.2 s h s (by simp) rfl
      obtain ⟨ha, hm⟩ := sort_asc N [] (by simp [Asc]) hdN (fun x _ h => nomatch h)
      have hsS : s ∉ sortL N := fun h => by
        rcases (hm s).1 h with h | h
        · exact hsN h
        · cases h
      obtain ⟨A, B, hAB, hA, hB, _⟩ := ins_split (L := sortL N) (s := s) ha hsS
      have hns : n.names = A ++ B := by rw [h3, hAB]
      have hps : ps = ps.take A.length ++ ps.drop A.length := (List.take_append_drop _ _).symm
      have eA : (ps.take A.length).map (·.1) = A := by
        rw [List.map_take, ← h1, hns, List.take_left]
      have eB : (ps.drop A.length).map (·.1) = B := by
        rw [List.map_drop, ← h1, hns, List.drop_left]
      have hks : n.kids = (ps.take A.length).map (·.2) ++ (ps.drop A.length).map (·.2) := by
        rw [h2, ← List.map_append, List.take_append_drop]
      have hput := kidPut_at (n := n) (s := s) (k := (i : Int)) hns hks (by rw [← eA]; simp) (by rw [← eB]; simp) hA hB
      rw [hput]
      have := nodeG_sort r (i + 1) ⟨n.dir, A ++ s :: B, (ps.take A.length).map (·.2) ++ (i : Int) :: (ps.drop A.length).map (·.2), n.data⟩ (N ++ [s]) (ps.take A.length ++ (s, (i : Int)) :: ps.drop A.length) hr' (by rw [List.append_assoc]; exact hd)
        (by simp only [List.map_append, List.map_cons, eA, eB]) (by simp only [List.map_append, List.map_cons])
        (by
          show A ++ s :: B = _
          unfold sortL
          rw [List.foldl_append]
          show _ = insG (sortL N) s
          rw [hAB, ins_of hA hB])
        (fun q hq => by
          rcases List.mem_append.1 hq with hq | hq
          · exact h4 q (List.mem_of_mem_take hq)
          · rcases List.mem_cons.1 hq with rfl | hq
            · exact ⟨i, x, rfl, hx, hp, hs⟩
            · exact h4 q (List.mem_of_mem_drop hq))
      rw [List.append_assoc] at this
      exact this
    · have eN : namesL p (x :: r) = namesL p r := by simp [namesL, hp]
      rw [eN] at hd ⊢
      rw [if_neg hp]
      exact nodeG_sort r (i + 1) n N ps hr' hd h1 h2 h3 h4
theorem mark_dir {l : List It3} (hok : itemsOk l = true) {p : ByteArray} {q : ByteArray × Int} (h : GoodQ l p q) : (dirsL p l).any (fun x => decide (q.1 = x)) = dirAt l q.2.toNat := by
  obtain ⟨j, x, hj, hx, hp, hn⟩ := h
  rw [hj, Int.toNat_natCast]
  have hd : dirAt l j = x.2.1 := by unfold dirAt; rw [hx]
  rw [hd]
  cases hb : x.2.1
  · rw [List.any_eq_false]
    intro u hu
    unfold dirsL at hu
    obtain ⟨y, hy, rfl⟩ := List.mem_map.1 hu
    obtain ⟨hy, hyp⟩ := List.mem_filter.1 hy
    simp only [Bool.and_eq_true, decide_eq_true_eq] at hyp ⊢
    intro e
    have hxm := List.mem_of_getElem? hx
    have exy : x.1 = y.1 := split_same (items_split hok hxm) (items_split hok hy) (by rw [hp, hyp.1]) (by rw [hn, e])
    obtain ⟨k, hk⟩ := List.getElem?_of_mem hy
    have h1 := ((itemsOk_at hok).2 j x hx).2.2.2.1
    have h2 := ((itemsOk_at hok).2 k y hk).2.2.2.1
    rw [exy, h2] at h1
    have : k = j := by omega
    subst this
    rw [hx] at hk
    cases hk
    rw [hb] at hyp
    cases hyp.2
  · rw [List.any_eq_true]
    refine ⟨q.1, ?_, by simp⟩
    unfold dirsL
    exact List.mem_map.2 ⟨x, List.mem_filter.2 ⟨List.mem_of_getElem? hx, by simp [hp, hb]⟩, hn⟩
theorem textG_tail {l : List It3} (D : List ByteArray) : ∀ (ps : List (ByteArray × Int)) (acc : ByteArray), (∀ q ∈ ps, D.any (fun x => decide (q.1 = x)) = dirAt l q.2.toNat) →
    (textG l (ps.map (·.1)) (ps.map (·.2)) true acc).data.toList = acc.data.toList ++ Lib.joinTail [32] ((ps.map (fun q => markS D q.1)).map (·.data.toList))
  | [], acc, _ => by simp [textG, Lib.joinTail]
  | q :: ps, acc, h => by
    rw [List.map_cons, List.map_cons, textG, textG_tail D ps _ (fun q hq => h q (by simp [hq]))]
    have hq := h q (by simp)
    rw [← hq]
    unfold Lib.joinTail
    rw [List.map_cons, List.map_cons, List.map_cons, List.flatten_cons]
    unfold markS
    cases hb : D.any (fun x => decide (q.1 = x))
    · simp [add_bytes, hb]
    · simp [add_bytes, hb]
theorem textG_all {l : List It3} (D : List ByteArray) (ps : List (ByteArray × Int)) (h : ∀ q ∈ ps, D.any (fun x => decide (q.1 = x)) = dirAt l q.2.toNat) :
    textG l (ps.map (·.1)) (ps.map (·.2)) false ⟨#[]⟩ = joinS ⟨#[32]⟩ ((ps.map (·.1)).map (markS D)) := by
  refine ba_eq ?_
  unfold joinS
  cases ps with
  | nil => rfl
  | cons q ps =>
    have hq := h q (by simp)
    rw [List.map_cons, List.map_cons, textG, textG_tail D ps _ (fun q hq => h q (by simp [hq])), List.map_cons, List.map_cons, Lib.join_cons, ← hq]
    simp only [List.map_map]
    unfold markS
    cases hb : D.any (fun x => decide (q.1 = x))
    · simp [add_bytes, hb]; rfl
    · simp [add_bytes, hb]; rfl
theorem listL_listI {l : List It3} (hok : itemsOk l = true) (p : ByteArray) : listL l p = listI l p := by
  obtain ⟨ps, h1, h2, h3, h4⟩ := nodeG_sort (l := l) (p := p) l 0 ⟨true, [], [], ⟨#[]⟩⟩ [] [] (fun j x h => by rw [Nat.zero_add]; exact h) (by simpa using namesL_nodup hok p) rfl rfl rfl (fun q h => nomatch h)
  unfold listL listI
  rw [h1, h2, textG_all (dirsL p l) ps (fun q hq => mark_dir hok (h4 q hq)), ← h1, h3, List.nil_append]
end Go.Proofs.YtoenfbbadfcfpaaGreatDoor
namespace Go.Proofs.YtoenfbbadfcfpaaGreatDoor
open Go.VM Go
set_option maxRecDepth 100000
theorem okN_perm {l m : List It3} (hp : l.Perm m) (h : OkN l) : OkN m :=
  ⟨by rw [← hp.length_eq]; exact h.len, fun x hx => h.pth x (hp.mem_iff.2 hx), fun x hx => h.data x (hp.mem_iff.2 hx), fun x hx => by
    rcases h.up x (hp.mem_iff.2 hx) with e | ⟨y, hy, e⟩
    · exact .inl e
    · exact .inr ⟨y, hp.mem_iff.1 hy, e⟩, (hp.map _).nodup_iff.1 h.apart⟩
theorem find_mem {l : List It3} (h : OkN l) {x : It3} (hx : x ∈ l) : ∃ j : Nat, findF l x.1 = (j : Int) ∧ l[j]? = some x := by
  obtain ⟨j, hj⟩ := List.getElem?_of_mem hx
  have := idx_apart l 0 j x (apart_pw.1 h.apart) hj
  rw [Nat.zero_add] at this
  exact ⟨j, this, hj⟩
theorem find_ge {l : List It3} {q : ByteArray} : 0 ≤ findF l q ↔ ∃ x ∈ l, x.1 = q := by
  rw [← Int.not_lt, find_none]
  constructor
  · intro h
    refine Classical.byContradiction (fun h2 => h (fun x hx e => h2 ⟨x, hx, e⟩))
  · rintro ⟨x, hx, e⟩ h
    exact h x hx e
theorem fold_mem {l : List It3} (h : OkN l) {x : It3} (hx : x ∈ l) : foldF l x.1 = if x.2.1 = true then 0 else 4 := by
  obtain ⟨j, e, hj⟩ := find_mem h hx
  unfold foldF
  rw [if_neg (h.pth x hx).2, e, if_neg (by omega)]
  unfold dirAt
  rw [show ((j : Int)).toNat = j from rfl, hj]
theorem fold_no {l : List It3} {q : ByteArray} (hq : q ≠ ⟨#[]⟩) (h : ∀ x ∈ l, x.1 ≠ q) : foldF l q = 2 := by
  unfold foldF
  rw [if_neg hq, if_pos (find_none.2 h)]
theorem find_perm {l m : List It3} (hp : l.Perm m) (q : ByteArray) : 0 ≤ findF l q ↔ 0 ≤ findF m q := by
  rw [find_ge, find_ge]
  exact ⟨fun ⟨x, hx, e⟩ => ⟨x, hp.mem_iff.1 hx, e⟩, fun ⟨x, hx, e⟩ => ⟨x, hp.mem_iff.2 hx, e⟩⟩
theorem fold_perm {l m : List It3} (hp : l.Perm m) (h : OkN l) (q : ByteArray) : foldF l q = foldF m q := by
  by_cases hq : q = ⟨#[]⟩
  · rw [hq, fold_E, fold_E]
  by_cases hx : ∃ x ∈ l, x.1 = q
  · obtain ⟨x, hx, rfl⟩ := hx
    rw [fold_mem h hx, fold_mem (okN_perm hp h) (hp.mem_iff.1 hx)]
  · have h1 : ∀ x ∈ l, x.1 ≠ q := fun x h e => hx ⟨x, h, e⟩
    rw [fold_no hq h1, fold_no hq (fun x h e => h1 x (hp.mem_iff.2 h) e)]
theorem any_perm {α : Type} {l m : List α} (hp : l.Perm m) (p : α → Bool) : l.any p = m.any p := by
  rw [Bool.eq_iff_iff, List.any_eq_true, List.any_eq_true]
  exact ⟨fun ⟨x, hx, e⟩ => ⟨x, hp.mem_iff.1 hx, e⟩, fun ⟨x, hx, e⟩ => ⟨x, hp.mem_iff.2 hx, e⟩⟩
theorem all_perm {α : Type} {l m : List α} (hp : l.Perm m) (p : α → Bool) : l.all p = m.all p := by
  rw [Bool.eq_iff_iff, List.all_eq_true, List.all_eq_true]
  exact ⟨fun h x hx => h x (hp.mem_iff.2 hx), fun h x hx => h x (hp.mem_iff.1 hx)⟩
theorem data_mem {l : List It3} (h : OkN l) {x : It3} (hx : x ∈ l) : dataAt l (findF l x.1).toNat = x.2.2 := by
  obtain ⟨j, e, hj⟩ := find_mem h hx
  rw [e]
  unfold dataAt
  rw [show ((j : Int)).toNat = j from rfl, hj]
theorem put_mem {l : List It3} (h : OkN l) {x : It3} (hx : x ∈ l) (s : ByteArray) : putAtL l (findF l x.1).toNat s = l.map (fun y => if y.1 = x.1 then (y.1, y.2.1, s) else y) := by
  obtain ⟨j, e, hj⟩ := find_mem h hx
  rw [e]
  unfold putAtL
  rw [show ((j : Int)).toNat = j from rfl, hj]
  simp only
  refine List.ext_getElem? fun i => ?_
  rw [List.getElem?_map]
  by_cases hij : j = i
  · subst hij
    rw [List.getElem?_set_self (List.getElem?_eq_some_iff.1 hj).1, hj]
    simp
  · rw [List.getElem?_set_ne hij]
    cases hy : l[i]? with
    | none => rfl
    | some y =>
      have hne : y.1 ≠ x.1 := fun e2 => by
        have := idx_apart l 0 i y (apart_pw.1 h.apart) hy
        rw [Nat.zero_add, e2] at this
        have e3 : idxOf (hasPath x.1) l 0 = (j : Int) := e
        rw [e3] at this
        omega
      simp [hne]
theorem asc_ext : ∀ {a b : List ByteArray}, Asc a → Asc b → (∀ x, x ∈ a ↔ x ∈ b) → a = b
  | [], [], _, _, _ => rfl
  | [], y :: b, _, _, h => absurd ((h y).2 (by simp)) (by simp)
  | x :: a, [], _, _, h => absurd ((h x).1 (by simp)) (by simp)
  | x :: a, y :: b, ha, hb, h => by
    unfold Asc at ha hb
    rw [List.pairwise_cons] at ha hb
    have hxy : x = y := by
      rcases List.mem_cons.1 ((h x).1 (by simp)) with e | e
      · exact e
      · rcases List.mem_cons.1 ((h y).2 (by simp)) with e2 | e2
        · exact e2.symm
        · have := ltB_trans (hb.1 x e) (ha.1 y e2)
          rw [ltB_irrefl] at this; cases this
    subst hxy
    congr 1
    refine asc_ext ha.2 hb.2 (fun z => ?_)
    constructor
    · intro hz
      rcases List.mem_cons.1 ((h z).1 (List.mem_cons_of_mem _ hz)) with e | e
      · subst e
        have := ha.1 z hz
        rw [ltB_irrefl] at this; cases this
      · exact e
    · intro hz
      rcases List.mem_cons.1 ((h z).2 (List.mem_cons_of_mem _ hz)) with e | e
      · subst e
        have := hb.1 z hz
        rw [ltB_irrefl] at this; cases this
      · exact e
theorem list_perm {l m : List It3} (hp : l.Perm m) (h : OkN l) (p : ByteArray) : listL l p = listL m p := by
  rw [listL_listI (okN_items h), listL_listI (okN_items (okN_perm hp h))]
  have h1 := namesL_nodup (okN_items h) p
  have h2 := namesL_nodup (okN_items (okN_perm hp h)) p
  have hn : (namesL p l).Perm (namesL p m) := (hp.filter _).map _
  have hd : (dirsL p l).Perm (dirsL p m) := (hp.filter _).map _
  have hs : sortL (namesL p l) = sortL (namesL p m) := by
    obtain ⟨a1, a2⟩ := sort_asc (namesL p l) [] .nil h1 (fun x _ h => nomatch h)
    obtain ⟨b1, b2⟩ := sort_asc (namesL p m) [] .nil h2 (fun x _ h => nomatch h)
    refine asc_ext a1 b1 (fun x => ?_)
    refine (a2 x).trans (Iff.trans ?_ (b2 x).symm)
    rw [hn.mem_iff]
  unfold listI
  rw [hs]
  congr 1
  refine List.map_congr_left (fun s _ => ?_)
  unfold markS
  rw [any_perm hd]
theorem plain_perm {l m : List It3} (hp : l.Perm m) (h : OkN l) (o : OpV) : (plainL l o).1.Perm (plainL m o).1 ∧ (plainL l o).2 = (plainL m o).2 := by
  have hm := okN_perm hp h
  have hlen := hp.length_eq
  have hf := fold_perm hp h
  have hi := find_perm hp
  have hg : ∀ q, foldF l q = 0 ∨ foldF l q = 2 ∨ ∃ x ∈ l, x.1 = q := fun q => by
    by_cases hq : q = ⟨#[]⟩
    · exact .inl (by rw [hq, fold_E])
    by_cases hx : ∃ x ∈ l, x.1 = q
    · exact .inr (.inr hx)
    · exact .inr (.inl (fold_no hq (fun x h e => hx ⟨x, h, e⟩)))
  unfold plainL
  rw [okN_items h, okN_items hm]
  split
  · exact ⟨hp, rfl⟩
  split
  · unfold makeL
    simp only [hi, hf, hlen]
    repeat' split
    all_goals first | exact ⟨hp, rfl⟩ | exact ⟨hp.append_right _, rfl⟩
  unfold doL
  rw [hf o.path]
  by_cases c1 : foldF m o.path = 2
  · rw [if_pos c1, if_pos c1]; exact ⟨hp, rfl⟩
  rw [if_neg c1, if_neg c1]
  by_cases c2 : o.kind = 5
  · rw [if_pos c2, if_pos c2]
    unfold dropL
    have hk : kidsB l o.path = kidsB m o.path := any_perm hp _
    rw [hk]
    split
    · exact ⟨hp, rfl⟩
    · exact ⟨hp.filter _, rfl⟩
  rw [if_neg c2, if_neg c2]
  by_cases c3 : o.kind = 6
  · rw [if_pos c3, if_pos c3]
    unfold moveL
    simp only [hi, hf, moveG_eq, all_perm hp, List.nil_append]
    repeat' split
    all_goals first | exact ⟨hp, rfl⟩ | exact ⟨hp.map _, rfl⟩
  rw [if_neg c3, if_neg c3]
  by_cases c4 : ¬ decide (foldF m o.path = 0) = decide (o.kind = 7)
  · rw [if_pos c4, if_pos c4]; exact ⟨hp, rfl⟩
  rw [if_neg c4, if_neg c4]
  by_cases c5 : o.kind = 7
  · rw [if_pos c5, if_pos c5, list_perm hp h]; exact ⟨hp, rfl⟩
  rw [if_neg c5, if_neg c5]
  have hx : ∃ x ∈ l, x.1 = o.path := by
    rcases hg o.path with e | e | e
    · rw [hf] at e
      rw [decide_eq_true e, decide_eq_false c5] at c4
      exact absurd (fun h => by cases h) c4
    · rw [hf] at e; exact absurd e c1
    · exact e
  obtain ⟨x, hx, e⟩ := hx
  rw [← e]
  by_cases c6 : o.kind = 4
  · rw [if_pos c6, if_pos c6, data_mem h hx, data_mem hm (hp.mem_iff.1 hx)]; exact ⟨hp, rfl⟩
  rw [if_neg c6, if_neg c6, put_mem h hx, put_mem hm (hp.mem_iff.1 hx)]
  exact ⟨hp.map _, rfl⟩
theorem same_perm {a b : List It3} (hp : a.Perm b) : sameB a b = true := by
  unfold sameB
  rw [decide_eq_true (by rw [hp.length_eq]), Bool.true_and, Bool.not_eq_true', ← Bool.not_eq_true, List.any_eq_true]
  rintro ⟨x, hx, h⟩
  rw [Bool.not_eq_true', ← Bool.not_eq_true, List.any_eq_true] at h
  exact h ⟨x, hp.mem_iff.1 hx, eqV_refl x⟩
end Go.Proofs.YtoenfbbadfcfpaaGreatDoor
