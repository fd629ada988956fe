/- What lives in a block, and sectors, of both; what the law asks of lists. -/
import Derived.Test.YtkijdbljnefeaaaGreatPFLenN
import Derived.Test.YtkijdbljnefeaaaGreatPFPlaceT
import Derived.Test.YtkijdbljnefeaaaGreatPFSortN
import Derived.Test.YtkijdbljnefeaaaGreatPFPlaceS
set_option linter.unusedSimpArgs false
set_option linter.unusedVariables false
namespace Go.Proofs.YtkijdbljnefeaaaGreat
open Go.VM Go
set_option maxRecDepth 100000
attribute [-go_sem] runW_cons
attribute [local congr] vw_congr runV_congr runH_congr runW_congr runX_congr stuckV_congr stuckX_congr
theorem livesI_take {l : List Int} {s : Nat} {x : Int} (b : Int) (h : l[s]? = some x) : livesI (l.take (s + 1)) b = livesI (l.take s) b ++ (if 0 ≤ x ∧ x / 6 = b then [x] else []) := by
  unfold livesI
  rw [List.take_add_one, h, List.filter_append]
  by_cases e : 0 ≤ x ∧ x / 6 = b
  · simp [e]
  · simp [e]
theorem livesI_le (l : List Int) (b : Int) : (livesI l b).length ≤ l.length := List.length_filter_le _ _
set_option maxHeartbeats 1000000 in
theorem runs_31 (f : FtlV) (hm : f.map.length ≤ 100) (hx : ∀ x ∈ f.map, x < 2 ^ 62) (b : Int) (hl : (livesI f.map b).length ≤ 6) (hn : (livesI f.map b).Nodup) :
    Runs Tryz.prog 31 [.agg [.v (.list false 1 (f.pages.map sRow)), .v (.list false 1 (f.wear.map nRow)), .v (.list false 1 (f.map.map nRow)), .v (.int .i64 f.seq)], .one (.v (.int .i64 b))] [.one (.v (.list true 1 ((sortN (livesI f.map b)).map nRow)))] [] := by
  refine runs_tab (tab := [(0, .agg [.c (.list false 1 (f.pages.map sRow)), .c (.list false 1 (f.wear.map nRow)), .c (.list false 1 (f.map.map nRow)), .c (.int .i64 f.seq)]), (1, .c (.int .i64 b))]) (rts := []) (n := 32) (k := 5) Tryz.func31 rfl rfl (by simp) rfl (fun t => ?_) rfl ?_
  · rcases t with _ | _ | t <;> rfl
  refine vw_go rfl ?_; simp only [go_sem, setCells, setIn]
  refine vw_go rfl ?_; simp only [range1, List.replicate_succ, List.replicate_zero, List.flatten_cons, List.flatten_nil, List.range_zero, gt_iff_lt, go_sem, setCells, setIn]
  refine vw_seq ?_
  refine vw_go rfl ?_; simp only [go_sem, setCells, setIn]
  refine vw_block ?_
  refine vw_loop_tab (α := Nat × List Int × List Path) (fun x => f.map.length - x.1) (fun x => ⟨tabE [(1, .c (.int .i64 b)), (2, .ptr 5 [] 0 0 0), (5, .al 6 [] 0 1 0 x.2.1.length), (10, .c (.list false 1 (f.map.map nRow))), (11, .c (.int .i64 f.map.length)), (12, .c (.int .i64 x.1))], tabS [(5, some ⟨true, 4, [[.list false 1 (f.pages.map sRow), .list false 1 (f.wear.map nRow), .list false 1 (f.map.map nRow), .int .i64 f.seq]], []⟩), (6, some ⟨false, 1, x.2.1.map nRow, x.2.2⟩)], 7⟩)
    (fun x => x.1 ≤ f.map.length ∧ x.2.1 = livesI (f.map.take x.1) b) (x := (0, [], [])) ?round ?h0 ?hn
  case h0 => exact ⟨Nat.zero_le _, rfl⟩
  case hn =>
    refine norm_to [(5, 5), (65541, 6)] rfl ?_ ?_ <;> simp only [go_sem]
  rintro ⟨s, u, lu⟩ ⟨hs, hu⟩
  simp only at hs hu
  by_cases hd : (s : Int) < f.map.length
  case neg =>
    obtain rfl : s = f.map.length := by omega
    rw [List.take_length] at hu
    rw [← hu] at hl hn ⊢
    have hS : (sortN u).length = u.length := by unfold sortN; rw [sortN_len]; rfl
    refine vw_go rfl ?_; simp only [hd, go_sem, setCells, setIn]
    refine vw_seq ?_
    refine vw_cond (t := false) rfl (fun h => nomatch h) (fun _ => ?_)
    refine vw_exit (x_then (x_then (x_block (n_then ?_))))
    refine vw_go rfl ?_; simp only [go_sem, setCells, setIn]
    refine ⟨_, _, call_bs [0] [.back] [(6, 0, ⟨false, 1, u.map nRow, lu⟩)] [(sortN u).map nRow] (rest := []) Tryz.func51 (runs_51 u hl hn) rfl rfl rfl rfl rfl rfl rfl rfl (by simp [VV.cells, ev, tabE_cons, sRow_r1, sRow_comp, sRow_clean, nRow_r1, nRow_comp, nRow_clean]) (by simp [tabS_cons, sRow_r1, sRow_comp, sRow_clean, nRow_r1, nRow_comp, nRow_clean]) (by simp) rfl rfl (by simp [rcells, RT.cells, sRow_r1, sRow_comp, sRow_clean, nRow_r1, nRow_comp, nRow_clean]) rfl rfl (by simp [clean_map, sRow_r1, sRow_comp, sRow_clean, nRow_r1, nRow_comp, nRow_clean]) rfl rfl, ?_⟩
    simp only [runH, runX, go_sem, setCells, setIn]
    rw [← hS]
    generalize sortN u = S
    have bS : List.take S.length (S.map nRow) = S.map nRow := List.take_of_length_le (by simp)
    refine vw_go rfl ?_; simp only [go_sem, setCells, setIn]
    exact vw_ret (e_ret (ret_by rfl rfl (by simp [RB]) rfl (by simp only [takeCs, takeC, go_sem, setCells, setIn])))
  obtain ⟨x, hxx⟩ : ∃ x, f.map[s]? = some x := ⟨_, List.getElem?_eq_getElem (by omega)⟩
  have hxm := hx x (List.mem_of_getElem? hxx)
  have hul : u.length ≤ 100 := by
    rw [hu]
    exact Nat.le_trans (livesI_le _ _) (by rw [List.length_take]; omega)
  have d0 : (0:Int) ≤ (s : Int) := by omega
  have d1 : s < f.map.length := by omega
  have w3 : IntKind.wrap .i64 ((s:Int) + 1) = ((s + 1 : Nat) : Int) := by rw [wrap_i64 (by omega) (by omega)]; rfl
  have bu : List.take u.length (u.map nRow) = u.map nRow := List.take_of_length_le (by simp)
  have hf := livesI_take b hxx
  rw [← hu] at hf
  refine vw_go rfl ?_; simp only [hd, go_sem, setCells, setIn]
  refine vw_seq ?_
  refine vw_cond (t := true) rfl (fun _ => ?_) (fun h => nomatch h)
  refine vw_skip (n_then ?_)
  refine vw_seq ?_
  refine vw_block ?_
  refine vw_go rfl ?_; simp only [d0, hd, d1, Int.toNat_natCast, getD_map_of hxx, nRow, go_sem, setCells, setIn]
  by_cases h0 : 0 ≤ x
  case neg =>
    rw [if_neg (fun h => h0 h.1), List.append_nil] at hf
    refine vw_go rfl ?_; simp only [h0, go_sem, setCells, setIn]
    refine vw_cond (t := false) rfl (fun h => nomatch h) (fun _ => ?_)
    refine vw_skip (n_block (n_then ?_))
    refine vw_last rfl ?_; simp only [w3, go_sem, setCells, setIn]
    refine (n_then ?_)
    refine ⟨(s + 1, u, lu), by simp only; omega, ⟨by simp only; omega, hf.symm⟩, ?_⟩
    refine norm_to [(5, 5), (6, 6)] rfl ?_ ?_ <;> simp only [go_sem]
  have e2 : Int.tdiv x 6 = x / 6 := Int.tdiv_eq_ediv_of_nonneg (by omega)
  have v2 : IntKind.wrap .i64 (x / 6) = x / 6 := wrap_i64 (by omega) (by omega)
  by_cases he : x / 6 = b
  · rw [if_pos ⟨h0, he⟩] at hf
    have B1 : ¬ (u.length + 1 + 1) * (8 + 1) > bigRow := big9 (by omega)
    have v3 : IntKind.wrap .i64 b = b := by rw [← he]; exact v2
    refine vw_go rfl ?_; simp only [h0, e2, v2, he, v3, go_sem, setCells, setIn]
    refine vw_cond (t := true) rfl (fun _ => ?_) (fun h => nomatch h)
    refine vw_last rfl ?_; simp only [bu, B1, range1, List.replicate_succ, List.replicate_zero, List.flatten_cons, List.flatten_nil, List.range_zero, gt_iff_lt, List.drop_length, go_sem, setCells, setIn]
    refine (n_block (n_then ?_))
    refine vw_last rfl ?_; simp only [w3, go_sem, setCells, setIn]
    refine (n_then ?_)
    have e4 : u.map nRow ++ [[.int .i64 x]] = (u ++ [x]).map nRow := by simp [nRow]
    rw [e4]
    refine ⟨(s + 1, u ++ [x], []), by simp only; omega, ⟨by simp only; omega, hf.symm⟩, ?_⟩
    have e5 : u.length + 1 = (u ++ [x]).length := by simp
    rw [e5]
    generalize u ++ [x] = u'
    refine norm_to [(5, 5), (199687, 6)] rfl ?_ ?_ <;> simp only [go_sem]
  · rw [if_neg (fun h => he h.2), List.append_nil] at hf
    refine vw_go rfl ?_; simp only [h0, e2, v2, he, go_sem, setCells, setIn]
    refine vw_cond (t := false) rfl (fun h => nomatch h) (fun _ => ?_)
    refine vw_skip (n_block (n_then ?_))
    refine vw_last rfl ?_; simp only [w3, go_sem, setCells, setIn]
    refine (n_then ?_)
    refine ⟨(s + 1, u, lu), by simp only; omega, ⟨by simp only; omega, hf.symm⟩, ?_⟩
    refine norm_to [(5, 5), (6, 6)] rfl ?_ ?_ <;> simp only [go_sem]
theorem livesC_len (f : FtlV) (hs : f.small) (b : Int) : (livesC f b).length ≤ 6 := by
  unfold livesC
  split
  · rename_i h; exact livesF_len (right_of hs h.2) _
  · exact Nat.zero_le _
theorem runs_13 (f : FtlV) (hs : f.small) (b : Int) :
    Runs Tryz.prog 13 [.agg [.v (.list false 1 (f.pages.map sRow)), .v (.list false 1 (f.wear.map nRow)), .v (.list false 1 (f.map.map nRow)), .v (.int .i64 f.seq)], .one (.v (.int .i64 b))] [.one (.v (.list true 1 ((livesC f b).map nRow)))] [] := by
  refine runs_tab (tab := [(0, .agg [.c (.list false 1 (f.pages.map sRow)), .c (.list false 1 (f.wear.map nRow)), .c (.list false 1 (f.map.map nRow)), .c (.int .i64 f.seq)]), (1, .c (.int .i64 b))]) (rts := []) (n := 12) (k := 5) Tryz.func13 rfl rfl (by simp) rfl (fun t => ?_) rfl ?_
  · rcases t with _ | _ | t <;> rfl
  have rO := runs_30 f hs
  refine vw_go rfl ?_; simp only [go_sem, setCells, setIn]
  refine vw_seq ?_
  refine vw_go rfl ?_; simp only [go_sem, setCells, setIn]
  refine ⟨_, _, call_rx [0] Tryz.func30 (rO) rfl rfl rfl rfl rfl rfl rfl (by simp [lendAll, lendC, seek, fresh, nav, rcells, RT.cells, VV.cells, tabE_cons, tabS_cons, ev, take_map_len, sRow_r1, sRow_comp, sRow_clean, nRow_r1, nRow_comp, nRow_clean]) rfl (by simp [rcells, RT.cells, CT.clean, T.clean, sRow_r1, sRow_comp, sRow_clean, nRow_r1, nRow_comp, nRow_clean]) rfl rfl, ?_⟩
  simp only [runH, runX, go_sem, setCells, setIn]
  cases hk : ftlOk f
  · have hC : livesC f b = [] := by unfold livesC; rw [if_neg (by simp [hk])]
    rw [hC]
    refine vw_cond (t := true) (by simp [ev, tabE_cons, hk]) (fun _ => ?_) (fun h => nomatch h)
    refine vw_go rfl ?_; simp only [go_sem, setCells, setIn]
    exact vw_ret (r_then (e_ret (ret_by rfl rfl (by simp [RB]) rfl (by simp only [takeCs, takeC, go_sem, setCells, setIn]))))
  have hr := right_of hs hk
  have h60 : f.pages.length = 60 := by
    simp only [ftlOk, Bool.and_eq_true, decide_eq_true_eq] at hk
    have := hk.1
    unfold chipOk at this
    simp only [Bool.and_eq_true, decide_eq_true_eq] at this
    omega
  have hxs : ∀ x ∈ f.map, x < 2 ^ 62 := fun x hx => by
    obtain ⟨i, hi⟩ := List.getElem?_of_mem hx
    rcases hr.at_ i x hi with e | ⟨j, u, e, hu, _⟩
    · omega
    · have := lt_of_getl hu
      omega
  have hl : (livesI f.map b).length ≤ 6 := by
    by_cases hb : 0 ≤ b ∧ b ≤ 9
    · have := livesI_len hr b.toNat
      rwa [Int.toNat_of_nonneg hb.1] at this
    · rw [livesI_out hr h60 hb]; exact Nat.zero_le _
  have hC : sortN (livesI f.map b) = livesC f b := by
    unfold livesC
    by_cases hb : 0 ≤ b ∧ b ≤ 9
    · rw [if_pos ⟨by simp [inB]; omega, hk⟩, ← lives_law hr b.toNat, Int.toNat_of_nonneg hb.1]
    · rw [if_neg (fun h => hb (by have := h.1; simp [inB] at this; omega)), livesI_out hr h60 hb]; rfl
  have rL := runs_31 f (by rw [hr.len]; decide) hxs b hl (livesI_nodup hr b)
  rw [hC] at rL
  have hCl := livesC_len f hs b
  generalize livesC f b = q at rL hCl
  have bq : List.take q.length (q.map nRow) = q.map nRow := List.take_of_length_le (by simp)
  refine vw_cond (t := false) (by simp [ev, tabE_cons, hk]) (fun h => nomatch h) (fun _ => ?_)
  refine vw_skip (n_then ?_)
  refine vw_go rfl ?_; simp only [go_sem, setCells, setIn]
  refine ⟨_, _, call_rx [0, 0] Tryz.func31 (rL) rfl rfl rfl rfl rfl rfl rfl (by simp [lendAll, lendC, seek, fresh, nav, rcells, RT.cells, VV.cells, tabE_cons, tabS_cons, ev, take_map_len, sRow_r1, sRow_comp, sRow_clean, nRow_r1, nRow_comp, nRow_clean]) rfl (by simp [rcells, RT.cells, CT.clean, T.clean, sRow_r1, sRow_comp, sRow_clean, nRow_r1, nRow_comp, nRow_clean]) rfl rfl, ?_⟩
  simp only [runH, runX, bq, go_sem, setCells, setIn]
  refine ⟨_, _, call_own [0] [(133125, none)] Tryz.func23 (runs_23 q (by omega)) rfl rfl rfl rfl rfl rfl rfl (by simp [takeCs, takeC, takeV, seek, fresh, nav, takenUp, rcells, RT.cells, VV.cells, tabE_cons, tabS_cons, ups_tab, ups_nil, ev, take_map_len, sRow_r1, sRow_comp, sRow_clean, nRow_r1, nRow_comp, nRow_clean, lit, bq, St.put, List.drop_length]) rfl (by simp [rcells, RT.cells, CT.clean, T.clean, sRow_r1, sRow_comp, sRow_clean, nRow_r1, nRow_comp, nRow_clean, lit, bq, St.put, List.drop_length]) rfl rfl, ?_⟩
  simp only [runH, runX, go_sem, setCells, setIn]
  exact vw_ret (e_ret (ret_by rfl rfl (by simp [RB]) rfl (by simp only [takeCs, takeC, go_sem, setCells, setIn])))
theorem runs_14 (f : FtlV) (hs : f.small) (b : Int) :
    Runs Tryz.prog 14 [.agg [.v (.list false 1 (f.pages.map sRow)), .v (.list false 1 (f.wear.map nRow)), .v (.list false 1 (f.map.map nRow)), .v (.int .i64 f.seq)], .one (.v (.int .i64 b))] [.one (.v (.list true 1 ((livesC f b).map nRow)))] [] := by
  refine runs_tab (tab := [(0, .agg [.c (.list false 1 (f.pages.map sRow)), .c (.list false 1 (f.wear.map nRow)), .c (.list false 1 (f.map.map nRow)), .c (.int .i64 f.seq)]), (1, .c (.int .i64 b))]) (rts := []) (n := 17) (k := 5) Tryz.func14 rfl rfl (by simp) rfl (fun t => ?_) rfl ?_
  · rcases t with _ | _ | t <;> rfl
  have r1 := runs_32 b 0 9
  have r2 := runs_33 f hs
  refine vw_go rfl ?_; simp only [go_sem, setCells, setIn]
  refine vw_seq ?_
  refine vw_go rfl ?_; simp only [go_sem, setCells, setIn]
  refine ⟨_, _, call_rd [0, 0, 0] Tryz.func32 (r1) rfl rfl rfl rfl rfl rfl rfl rfl rfl rfl rfl rfl rfl, ?_⟩
  cases h1 : inB b 0 9
  · have hC : livesC f b = [] := by unfold livesC; rw [if_neg (by simp [h1])]
    rw [hC]
    simp only [runH, runX, go_sem, setCells, setIn]
    refine vw_cond (t := true) rfl (fun _ => ?_) (fun h => nomatch h)
    refine vw_go rfl ?_; simp only [range1, List.replicate_succ, List.replicate_zero, List.flatten_cons, List.flatten_nil, List.range_zero, gt_iff_lt, go_sem, setCells, setIn]
    exact vw_ret (r_then (e_ret (ret_by rfl rfl (by simp [RB]) rfl (by simp only [takeCs, takeC, go_sem, setCells, setIn]))))
  simp only [runH, runX, go_sem, setCells, setIn]
  refine ⟨_, _, call_rx [0] Tryz.func33 (r2) rfl rfl rfl rfl rfl rfl rfl (by simp [lendAll, lendC, seek, fresh, nav, rcells, RT.cells, VV.cells, tabE_cons, tabS_cons, ev, take_map_len, sRow_r1, sRow_comp, sRow_clean, nRow_r1, nRow_comp, nRow_clean]) rfl (by simp [rcells, RT.cells, CT.clean, T.clean, sRow_r1, sRow_comp, sRow_clean, nRow_r1, nRow_comp, nRow_clean]) rfl rfl, ?_⟩
  cases h2 : ftlOk f
  · have hC : livesC f b = [] := by unfold livesC; rw [if_neg (by simp [h2])]
    rw [hC]
    simp only [runH, runX, go_sem, setCells, setIn]
    refine vw_cond (t := true) rfl (fun _ => ?_) (fun h => nomatch h)
    refine vw_go rfl ?_; simp only [range1, List.replicate_succ, List.replicate_zero, List.flatten_cons, List.flatten_nil, List.range_zero, gt_iff_lt, go_sem, setCells, setIn]
    exact vw_ret (r_then (e_ret (ret_by rfl rfl (by simp [RB]) rfl (by simp only [takeCs, takeC, go_sem, setCells, setIn]))))
  simp only [runH, runX, go_sem, setCells, setIn]
  refine vw_cond (t := false) rfl (fun h => nomatch h) (fun _ => ?_)
  refine vw_skip (n_then ?_)
  have hf := right_of hs h2
  have hb : 0 ≤ b ∧ b ≤ 9 := by simpa [inB] using h1
  have hC : livesC f b = livesF f.map b.toNat := by unfold livesC; rw [if_pos ⟨h1, h2⟩]
  rw [hC]
  obtain ⟨n, rfl⟩ : ∃ n : Nat, b = n := ⟨b.toNat, by omega⟩
  rw [Int.toNat_natCast]
  have rL := runs_34 f (by rw [hf.len]; decide) n (by omega)
  generalize livesF f.map n = q at rL
  have bq : List.take q.length (q.map nRow) = q.map nRow := List.take_of_length_le (by simp)
  refine vw_go rfl ?_; simp only [go_sem, setCells, setIn]
  refine ⟨_, _, call_rx [0, 0] Tryz.func34 (rL) rfl rfl rfl rfl rfl rfl rfl (by simp [lendAll, lendC, seek, fresh, nav, rcells, RT.cells, VV.cells, tabE_cons, tabS_cons, ev, take_map_len, sRow_r1, sRow_comp, sRow_clean, nRow_r1, nRow_comp, nRow_clean]) rfl (by simp [rcells, RT.cells, CT.clean, T.clean, sRow_r1, sRow_comp, sRow_clean, nRow_r1, nRow_comp, nRow_clean]) rfl rfl, ?_⟩
  simp only [runH, runX, bq, go_sem, setCells, setIn]
  exact vw_ret (e_ret (ret_by rfl rfl (by simp [RB]) rfl (by simp only [takeCs, takeC, go_sem, setCells, setIn])))
/-- What Sector tells. -/
def secC (f : FtlV) (s : Int) : ByteArray := if inB s 0 25 = true ∧ ftlOk f = true then secF f s.toNat else ⟨#[]⟩
theorem runs_35_out (f : FtlV) (s : Int) (hs : inB s 0 25 = false) : Runs Tryz.prog 35 [.agg [.v (.list false 1 (f.pages.map sRow)), .v (.list false 1 (f.wear.map nRow)), .v (.list false 1 (f.map.map nRow)), .v (.int .i64 f.seq)], .one (.v (.int .i64 s))] [.one (.v (.str ⟨#[]⟩))] [] := by
  refine runs_tab (tab := [(0, .agg [.c (.list false 1 (f.pages.map sRow)), .c (.list false 1 (f.wear.map nRow)), .c (.list false 1 (f.map.map nRow)), .c (.int .i64 f.seq)]), (1, .c (.int .i64 s))]) (rts := []) (n := 34) (k := 5) Tryz.func35 rfl rfl (by simp) rfl (fun t => ?_) rfl ?_
  · rcases t with _ | _ | t <;> rfl
  have rS := runs_54 s
  rw [hs] at rS
  refine vw_go rfl ?_; simp only [go_sem, setCells, setIn]
  refine vw_seq ?_
  refine vw_go rfl ?_; simp only [go_sem, setCells, setIn]
  refine ⟨_, _, call_rd [0] Tryz.func54 (rS) rfl rfl rfl rfl rfl rfl rfl rfl rfl rfl rfl rfl rfl, ?_⟩
  simp only [runH, runX, go_sem, setCells, setIn]
  refine vw_cond (t := true) rfl (fun _ => ?_) (fun h => nomatch h)
  refine vw_go rfl ?_; simp only [go_sem, setCells, setIn]
  exact vw_ret (r_then (e_ret (ret_of rfl rfl (by simp [RB]) rfl rfl)))
theorem runs_35_all (f : FtlV) (hf : f.right) (s : Int) (X : ByteArray) (hX : X = if inB s 0 25 = true then secF f s.toNat else ⟨#[]⟩) : Runs Tryz.prog 35 [.agg [.v (.list false 1 (f.pages.map sRow)), .v (.list false 1 (f.wear.map nRow)), .v (.list false 1 (f.map.map nRow)), .v (.int .i64 f.seq)], .one (.v (.int .i64 s))] [.one (.v (.str X))] [] := by
  by_cases h : inB s 0 25 = true
  · rw [hX, if_pos h]
    have hb : 0 ≤ s ∧ s ≤ 25 := by simpa [inB] using h
    obtain ⟨n, rfl⟩ : ∃ n : Nat, s = n := ⟨s.toNat, by omega⟩
    exact runs_35 f hf n (by omega)
  · rw [hX, if_neg h]
    exact runs_35_out f s (by simpa using h)
theorem runs_17 (f : FtlV) (hs : f.small) (s : Int) : Runs Tryz.prog 17 [.agg [.v (.list false 1 (f.pages.map sRow)), .v (.list false 1 (f.wear.map nRow)), .v (.list false 1 (f.map.map nRow)), .v (.int .i64 f.seq)], .one (.v (.int .i64 s))] [.one (.v (.str (secC f s)))] [] := by
  refine runs_tab (tab := [(0, .agg [.c (.list false 1 (f.pages.map sRow)), .c (.list false 1 (f.wear.map nRow)), .c (.list false 1 (f.map.map nRow)), .c (.int .i64 f.seq)]), (1, .c (.int .i64 s))]) (rts := []) (n := 11) (k := 5) Tryz.func17 rfl rfl (by simp) rfl (fun t => ?_) rfl ?_
  · rcases t with _ | _ | t <;> rfl
  have rO := runs_30 f hs
  refine vw_go rfl ?_; simp only [go_sem, setCells, setIn]
  refine vw_seq ?_
  refine vw_go rfl ?_; simp only [go_sem, setCells, setIn]
  refine ⟨_, _, call_rx [0] Tryz.func30 (rO) rfl rfl rfl rfl rfl rfl rfl (by simp [lendAll, lendC, seek, fresh, nav, rcells, RT.cells, VV.cells, tabE_cons, tabS_cons, ev, take_map_len, sRow_r1, sRow_comp, sRow_clean, nRow_r1, nRow_comp, nRow_clean]) rfl (by simp [rcells, RT.cells, CT.clean, T.clean, sRow_r1, sRow_comp, sRow_clean, nRow_r1, nRow_comp, nRow_clean]) rfl rfl, ?_⟩
  simp only [runH, runX, go_sem, setCells, setIn]
  cases hk : ftlOk f
  · have hC : secC f s = ⟨#[]⟩ := by unfold secC; rw [if_neg (by simp [hk])]
    rw [hC]
    refine vw_cond (t := true) (by simp [ev, tabE_cons, hk]) (fun _ => ?_) (fun h => nomatch h)
    refine vw_go rfl ?_; simp only [go_sem, setCells, setIn]
    exact vw_ret (r_then (e_ret (ret_of rfl rfl (by simp [RB]) rfl rfl)))
  have hr := right_of hs hk
  have rS := runs_35_all f hr s (secC f s) (by
    unfold secC
    by_cases h : inB s 0 25 = true
    · rw [if_pos ⟨h, hk⟩, if_pos h]
    · rw [if_neg (fun e => h e.1), if_neg h])
  generalize secC f s = X at rS
  refine vw_cond (t := false) (by simp [ev, tabE_cons, hk]) (fun h => nomatch h) (fun _ => ?_)
  refine vw_skip (n_then ?_)
  refine vw_go rfl ?_; simp only [go_sem, setCells, setIn]
  refine ⟨_, _, call_rx [0, 0] Tryz.func35 (rS) rfl rfl rfl rfl rfl rfl rfl (by simp [lendAll, lendC, seek, fresh, nav, rcells, RT.cells, VV.cells, tabE_cons, tabS_cons, ev, take_map_len, sRow_r1, sRow_comp, sRow_clean, nRow_r1, nRow_comp, nRow_clean]) rfl (by simp [rcells, RT.cells, CT.clean, T.clean, sRow_r1, sRow_comp, sRow_clean, nRow_r1, nRow_comp, nRow_clean]) rfl rfl, ?_⟩
  simp only [runH, runX, go_sem, setCells, setIn]
  exact vw_ret (e_ret (ret_of rfl rfl (by simp [RB]) rfl rfl))
theorem runs_18 (f : FtlV) (hs : f.small) (s : Int) : Runs Tryz.prog 18 [.agg [.v (.list false 1 (f.pages.map sRow)), .v (.list false 1 (f.wear.map nRow)), .v (.list false 1 (f.map.map nRow)), .v (.int .i64 f.seq)], .one (.v (.int .i64 s))] [.one (.v (.str (secC f s)))] [] := by
  refine runs_tab (tab := [(0, .agg [.c (.list false 1 (f.pages.map sRow)), .c (.list false 1 (f.wear.map nRow)), .c (.list false 1 (f.map.map nRow)), .c (.int .i64 f.seq)]), (1, .c (.int .i64 s))]) (rts := []) (n := 16) (k := 5) Tryz.func18 rfl rfl (by simp) rfl (fun t => ?_) rfl ?_
  · rcases t with _ | _ | t <;> rfl
  have r1 := runs_32 s 0 25
  have r2 := runs_33 f hs
  refine vw_go rfl ?_; simp only [go_sem, setCells, setIn]
  refine vw_seq ?_
  refine vw_go rfl ?_; simp only [go_sem, setCells, setIn]
  refine ⟨_, _, call_rd [0, 0, 0] Tryz.func32 (r1) rfl rfl rfl rfl rfl rfl rfl rfl rfl rfl rfl rfl rfl, ?_⟩
  cases h1 : inB s 0 25
  · have hC : secC f s = ⟨#[]⟩ := by unfold secC; rw [if_neg (by simp [h1])]
    rw [hC]
    simp only [runH, runX, go_sem, setCells, setIn]
    refine vw_cond (t := true) rfl (fun _ => ?_) (fun h => nomatch h)
    refine vw_go rfl ?_; simp only [go_sem, setCells, setIn]
    exact vw_ret (r_then (e_ret (ret_of rfl rfl (by simp [RB]) rfl rfl)))
  simp only [runH, runX, go_sem, setCells, setIn]
  refine ⟨_, _, call_rx [0] Tryz.func33 (r2) rfl rfl rfl rfl rfl rfl rfl (by simp [lendAll, lendC, seek, fresh, nav, rcells, RT.cells, VV.cells, tabE_cons, tabS_cons, ev, take_map_len, sRow_r1, sRow_comp, sRow_clean, nRow_r1, nRow_comp, nRow_clean]) rfl (by simp [rcells, RT.cells, CT.clean, T.clean, sRow_r1, sRow_comp, sRow_clean, nRow_r1, nRow_comp, nRow_clean]) rfl rfl, ?_⟩
  cases h2 : ftlOk f
  · have hC : secC f s = ⟨#[]⟩ := by unfold secC; rw [if_neg (by simp [h2])]
    rw [hC]
    simp only [runH, runX, go_sem, setCells, setIn]
    refine vw_cond (t := true) rfl (fun _ => ?_) (fun h => nomatch h)
    refine vw_go rfl ?_; simp only [go_sem, setCells, setIn]
    exact vw_ret (r_then (e_ret (ret_of rfl rfl (by simp [RB]) rfl rfl)))
  simp only [runH, runX, go_sem, setCells, setIn]
  refine vw_cond (t := false) rfl (fun h => nomatch h) (fun _ => ?_)
  refine vw_skip (n_then ?_)
  have hf := right_of hs h2
  have hb : 0 ≤ s ∧ s ≤ 25 := by simpa [inB] using h1
  have hC : secC f s = secF f s.toNat := by unfold secC; rw [if_pos ⟨h1, h2⟩]
  rw [hC]
  obtain ⟨n, rfl⟩ : ∃ n : Nat, s = n := ⟨s.toNat, by omega⟩
  rw [Int.toNat_natCast]
  have rS := runs_36 f hf n (by omega)
  generalize secF f n = X at rS
  refine vw_go rfl ?_; simp only [go_sem, setCells, setIn]
  refine ⟨_, _, call_rx [0, 0] Tryz.func36 (rS) rfl rfl rfl rfl rfl rfl rfl (by simp [lendAll, lendC, seek, fresh, nav, rcells, RT.cells, VV.cells, tabE_cons, tabS_cons, ev, take_map_len, sRow_r1, sRow_comp, sRow_clean, nRow_r1, nRow_comp, nRow_clean]) rfl (by simp [rcells, RT.cells, CT.clean, T.clean, sRow_r1, sRow_comp, sRow_clean, nRow_r1, nRow_comp, nRow_clean]) rfl rfl, ?_⟩
  simp only [runH, runX, go_sem, setCells, setIn]
  exact vw_ret (e_ret (ret_of rfl rfl (by simp [RB]) rfl rfl))
theorem runs_10 (l m : List Int) (hl : l.length < 2 ^ 62) (hm : m.length < 2 ^ 62) :
    Runs Tryz.prog 10 [.one (.v (.list false 1 (l.map nRow))), .one (.v (.list false 1 (m.map nRow)))] [.one (.v (.bool (decide (l = m))))] [] := by
  refine runs_tab (tab := [(0, .c (.list false 1 (l.map nRow))), (1, .c (.list false 1 (m.map nRow)))]) (rts := []) (n := 26) (k := 2) Tryz.func10 rfl rfl (by simp) rfl (fun t => ?_) rfl ?_
  · rcases t with _ | _ | t <;> rfl
  refine vw_go rfl ?_; simp only [go_sem, setCells, setIn]
  refine vw_seq ?_
  by_cases hlm : (l.length : Int) = m.length
  case neg =>
    rw [show decide (l = m) = false from decide_eq_false (fun e => hlm (by rw [e]))]
    refine vw_go rfl ?_; simp only [hlm, go_sem, setCells, setIn]
    refine vw_cond (t := true) rfl (fun _ => ?_) (fun h => nomatch h)
    refine vw_go rfl ?_; simp only [go_sem, setCells, setIn]
    exact vw_ret (r_then (e_ret (ret_of rfl rfl (by simp [RB]) rfl rfl)))
  refine vw_go rfl ?_; simp only [hlm, go_sem, setCells, setIn]
  refine vw_cond (t := false) rfl (fun h => nomatch h) (fun _ => ?_)
  refine vw_skip (n_then ?_)
  refine vw_seq ?_
  refine vw_go rfl ?_; simp only [go_sem, setCells, setIn]
  refine vw_block ?_
  refine vw_loop_tab (α := Nat) (fun x => m.length - x) (fun x => ⟨tabE [(0, .c (.list false 1 (l.map nRow))), (1, .c (.list false 1 (m.map nRow))), (5, .c (.int .i64 x))], tabS [], 2⟩)
    (fun x => x ≤ l.length ∧ l.take x = m.take x) (x := 0) ?round ?h0 ?hn
  case h0 => exact ⟨Nat.zero_le _, rfl⟩
  case hn => (refine norm_to [] rfl ?_ ?_ <;> simp only [go_sem])
  rintro i ⟨hi, he⟩
  refine vw_seq ?_
  rcases get_or l i with ⟨x, hx, hlt⟩ | ⟨_, hge⟩
  · rcases get_or m i with ⟨y, hy, hlt2⟩ | ⟨_, hge⟩
    case inr => omega
    have c1 : (0:Int) ≤ (i:Int) := by omega
    have c2 : (i:Int) < (l.length : Int) := by omega
    have c3 : (i:Int) < (m.length : Int) := by omega
    have w2 : IntKind.wrap .i64 ((i:Int) + 1) = ((i + 1 : Nat) : Int) := by rw [wrap_i64 (by omega) (by omega)]; rfl
    refine vw_go rfl ?_; simp only [c2, c3, go_sem, setCells, setIn]
    refine vw_cond (t := true) rfl (fun _ => ?_) (fun h => nomatch h)
    refine vw_skip (n_then ?_)
    refine vw_seq ?_
    refine vw_block ?_
    refine vw_drawA mixed rfl rfl ?_; intro A hAA
    simp (maxSteps := 1000000) only [c1, c2, c3, Int.toNat_natCast, getD_map_of hx, getD_map_of hy, nRow, go_sem, setCells, setIn, runW_step]
    refine ⟨by subst hAA; unfold allOk; kernel_rfl, ?_⟩
    refine vw_cond (t := !decide (x = y)) rfl (fun h => ?_) (fun h => ?_)
    · have h' : ¬ x = y := by simpa using h
      refine vw_go rfl ?_; simp only [go_sem, setCells, setIn]
      rw [show decide (l = m) = false from decide_eq_false (fun e => h' (by rw [e] at hx; rw [hx] at hy; exact Option.some.inj hy))]
      exact vw_ret (r_block (r_then (r_then (r_block (r_then (e_ret (ret_of rfl rfl (by simp [RB]) rfl rfl)))))))
    · have h' : x = y := by simpa using h
      refine vw_skip (n_block (n_then ?_))
      refine vw_last rfl ?_; simp only [w2, go_sem, setCells, setIn]
      refine (n_then ?_)
      refine ⟨i + 1, by omega, ⟨hlt, by rw [List.take_add_one, List.take_add_one, he, hx, hy, h']⟩, ?_⟩
      refine norm_to [] rfl ?_ ?_ <;> simp only [go_sem]
  · have c2 : ((i:Int) < (l.length : Int)) = False := eq_false (by omega)
    refine vw_go rfl ?_; simp only [c2, go_sem, setCells, setIn]
    refine vw_cond (t := false) rfl (fun h => nomatch h) (fun _ => ?_)
    refine vw_exit (x_then (x_then (x_block (n_then ?_))))
    obtain rfl : i = l.length := by omega
    rw [List.take_length] at he
    refine vw_go rfl ?_; simp only [go_sem, setCells, setIn]
    rw [show decide (l = m) = true from decide_eq_true (by rw [he, List.take_of_length_le (by omega)])]
    exact vw_ret (e_ret (ret_of rfl rfl (by simp [RB]) rfl rfl))
theorem runs_15 (l : List Int) (hl : l.length < 2 ^ 62) (y : Int) (hy : y ∈ l) :
    Runs Tryz.prog 15 [.one (.v (.list false 1 (l.map nRow))), .one (.v (.int .i64 y))] [.one (.v (.bool true))] [] := by
  refine runs_tab (tab := [(0, .c (.list false 1 (l.map nRow))), (1, .c (.int .i64 y))]) (rts := []) (n := 18) (k := 2) Tryz.func15 rfl rfl (by simp) rfl (fun t => ?_) rfl ?_
  · rcases t with _ | _ | t <;> rfl
  refine vw_go rfl ?_; simp only [go_sem, setCells, setIn]
  refine vw_seq ?_
  refine vw_go rfl ?_; simp only [go_sem, setCells, setIn]
  refine vw_block ?_
  refine vw_loop_tab (α := Nat) (fun x => l.length - x) (fun x => ⟨tabE [(0, .c (.list false 1 (l.map nRow))), (1, .c (.int .i64 y)), (5, .c (.int .i64 x))], tabS [], 2⟩)
    (fun x => x ≤ l.length ∧ y ∈ l.drop x) (x := 0) ?round ?h0 ?hn
  case h0 => exact ⟨Nat.zero_le _, hy⟩
  case hn => (refine norm_to [] rfl ?_ ?_ <;> simp only [go_sem])
  rintro i ⟨hi, hm⟩
  refine vw_seq ?_
  rcases get_or l i with ⟨x, hx, hlt⟩ | ⟨_, hge⟩
  case inr =>
    rw [List.drop_eq_nil_of_le hge] at hm
    cases hm
  have c1 : (0:Int) ≤ (i:Int) := by omega
  have c2 : (i:Int) < (l.length : Int) := by omega
  have w2 : IntKind.wrap .i64 ((i:Int) + 1) = ((i + 1 : Nat) : Int) := by rw [wrap_i64 (by omega) (by omega)]; rfl
  rw [drop_of hx] at hm
  refine vw_go rfl ?_; simp only [c2, go_sem, setCells, setIn]
  refine vw_cond (t := true) rfl (fun _ => ?_) (fun h => nomatch h)
  refine vw_skip (n_then ?_)
  refine vw_seq ?_
  refine vw_block ?_
  by_cases he : x = y
  · (refine vw_go rfl ?_; simp only [c1, c2, hlt, Int.toNat_natCast, getD_map_of hx, nRow, he, go_sem, setCells, setIn])
    refine vw_cond (t := true) rfl (fun _ => ?_) (fun h => nomatch h)
    refine vw_go rfl ?_; simp only [go_sem, setCells, setIn]
    refine vw_ret ?_
    repeat (first | refine r_then ?_ | refine r_block ?_)
    exact e_ret (ret_of rfl rfl (by simp [RB]) rfl rfl)
  · (refine vw_go rfl ?_; simp only [c1, c2, hlt, Int.toNat_natCast, getD_map_of hx, nRow, he, go_sem, setCells, setIn])
    refine vw_cond (t := false) rfl (fun h => nomatch h) (fun _ => ?_)
    refine vw_skip (n_block (n_then ?_))
    refine vw_last rfl ?_; simp only [w2, go_sem, setCells, setIn]
    refine (n_then ?_)
    refine ⟨i + 1, by omega, ⟨hlt, ?_⟩, ?_⟩
    · rcases List.mem_cons.1 hm with h | h
      · exact absurd h.symm he
      · exact h
    refine norm_to [] rfl ?_ ?_ <;> simp only [go_sem]
end Go.Proofs.YtkijdbljnefeaaaGreat
