/- The law FnPlaces. -/
import Derived.Test.YtkijdbljnefeaaaGreatPFBigG
import Derived.Test.YtkijdbljnefeaaaGreatPFDrawH
import Derived.Test.YtkijdbljnefeaaaGreatPFLenN
import Derived.Test.YtkijdbljnefeaaaGreatPFPlaceK
set_option linter.unusedSimpArgs false
set_option linter.unusedVariables false
namespace Go.Proofs.YtkijdbljnefeaaaGreat
open Go.VM Go
set_option maxRecDepth 100000
attribute [-go_sem] runW_cons
attribute [local congr] vw_congr runV_congr runH_congr runW_congr runX_congr stuckV_congr stuckX_congr
set_option maxHeartbeats 2000000 in
theorem runs_3 (L : List UInt8) (hL63 : L.length < 2 ^ 63) : Runs Tryz.prog 3 [.one (.v (.list false 1 (L.map bRow)))] [.one (.v (.bool true))] [] := by
  refine runs_tab (tab := [(0, .c (.list false 1 (L.map bRow)))]) (rts := []) (n := 119) (k := 1) Tryz.func3 rfl rfl (by simp) rfl (fun t => ?_) rfl ?_
  · rcases t with _ | t <;> rfl
  have rB := runs_4 L hL63
  by_cases hbig : 1048576 < (L.length : Int)
  · rw [decide_eq_true hbig] at rB
    refine vw_go rfl ?_; simp only [go_sem, setCells, setIn]
    refine vw_seq ?_
    refine vw_go rfl ?_; simp only [go_sem, setCells, setIn]
    refine ⟨_, _, call_rx [0] Tryz.func4 (rB) rfl rfl rfl rfl rfl rfl rfl (by simp [lendAll, lendC, seek, fresh, nav, rcells, RT.cells, VV.cells, tabE_cons, tabS_cons, ev, take_map_len, sRow_r1, sRow_comp, sRow_clean, nRow_r1, nRow_comp, nRow_clean, bRow_r1, bRow_clean]) rfl (by simp [rcells, RT.cells, CT.clean, T.clean, sRow_r1, sRow_comp, sRow_clean, nRow_r1, nRow_comp, nRow_clean, bRow_r1, bRow_clean]) rfl rfl, ?_⟩
    simp only [runH, runX, go_sem, setCells, setIn]
    refine vw_cond (t := true) rfl (fun _ => ?_) (fun h => nomatch h)
    refine vw_go rfl ?_; simp only [go_sem, setCells, setIn]
    exact vw_ret (r_then (e_ret (ret_of rfl rfl (by simp [RB]) rfl rfl)))
  have hL : L.length < 2 ^ 60 := by omega
  rw [decide_eq_false hbig] at rB
  have hXs := drawC_small L (newC L)
  have rD1 := runs_5 L hL _ rfl
  have rD2 := runs_7 L hL _ rfl
  have hfs := drawFt_small L (newC L)
  have rD3 := runs_12 L hL _ rfl _ rfl
  have rD4 := runs_16 L hL _ rfl _ rfl
  generalize belV L (drawFt L (newC L)).2 12 - 1 = b at rD3
  generalize belV L (drawFt L (newC L)).2 28 - 1 = s at rD4
  generalize (drawFt L (newC L)).1 = f at rD3 rD4 hfs
  generalize (drawC L (newC L)).1 = X at rD1 rD2 hXs
  obtain ⟨p, w⟩ := X
  obtain ⟨xp, xw, _⟩ := hXs
  simp only at rD1 rD2 xp xw
  have hp : p.length < 2 ^ 62 := by omega
  have hw : w.length < 2 ^ 62 := by omega
  have rNi := runs_6 p w hp hw
  have rNs := runs_9 p w hp hw
  have rFi := runs_8 p w hp hw
  have rFs := runs_11 p w hp hw
  have rLi := runs_13 f hfs b
  have rLs := runs_14 f hfs b
  have rSi := runs_17 f hfs s
  have rSs := runs_18 f hfs s
  have h60 : chipOk p w = true → p.length = 60 := fun hk => by
    unfold chipOk at hk
    simp only [Bool.and_eq_true, decide_eq_true_eq] at hk
    omega
  have hN : 0 ≤ nextC p w → ∃ n : Nat, nextC p w = n ∧ n < p.length ∧ (p.map sRow).getD n [] = [.str ⟨#[]⟩] := fun h => by
    unfold nextC at h ⊢
    by_cases hk : chipOk p w = true
    · rw [if_pos hk] at h ⊢
      have h1 := nextF_in p w
      have h2 := nextF_clear h
      have h3 : (nextF p w).toNat < p.length := by have := h60 hk; omega
      refine ⟨(nextF p w).toNat, by omega, h3, ?_⟩
      rw [List.getD_eq_getElem?_getD, List.getElem?_eq_getElem h3] at h2
      rw [List.getD_eq_getElem?_getD, List.getElem?_map, List.getElem?_eq_getElem h3]
      exact congrArg (fun x => [T.str x]) h2
    · rw [if_neg hk] at h; omega
  have hfr : ∀ x ∈ freeB p w, ∃ B : Nat, x = (B : Int) ∧ B < 10 ∧ p.length = 60 ∧ ∀ k, k < 6 → (p.map sRow).getD (B * 6 + k) [] = [.str ⟨#[]⟩] := fun x hx => by
    unfold freeB at hx
    by_cases hk : chipOk p w = true
    · rw [if_pos hk] at hx
      have hl := h60 hk
      have h1 := free_clear hx (k := 0) (by decide)
      refine ⟨x.toNat, by omega, by omega, hl, fun k hk6 => ?_⟩
      have h2 := (free_clear hx hk6).2.2
      have h3 : x.toNat * 6 + k < p.length := by omega
      rw [List.getD_eq_getElem?_getD, List.getElem?_eq_getElem h3] at h2
      rw [List.getD_eq_getElem?_getD, List.getElem?_map, List.getElem?_eq_getElem h3]
      exact congrArg (fun x => [T.str x]) h2
    · rw [if_neg hk] at hx; cases hx
  have hfl := freeB_len p w
  generalize nextC p w = N at rNi rNs hN
  generalize freeB p w = fr at rFi rFs hfr hfl
  have hli : ∀ x ∈ livesC f b, 0 ≤ x ∧ x < 2 ^ 40 ∧ x / 6 = b ∧ x ∈ f.map := fun x hx => by
    unfold livesC at hx
    split at hx
    · rename_i h
      have hb : 0 ≤ b ∧ b ≤ 9 := by simpa [inB] using h.1
      obtain ⟨i, h1, h2, h3⟩ := livesF_mem hx
      exact ⟨by omega, by omega, by omega, h3⟩
    · cases hx
  have hll := livesC_len f hfs b
  generalize livesC f b = li at rLi rLs hli hll
  generalize secC f s = sx at rSi rSs
  have bp : List.take p.length (p.map sRow) = p.map sRow := List.take_of_length_le (by simp)
  have bw : List.take w.length (w.map nRow) = w.map nRow := List.take_of_length_le (by simp)
  have bf : List.take fr.length (fr.map nRow) = fr.map nRow := List.take_of_length_le (by simp)
  have bl : List.take li.length (li.map nRow) = li.map nRow := List.take_of_length_le (by simp)
  have gp : List.take f.pages.length (f.pages.map sRow) = f.pages.map sRow := List.take_of_length_le (by simp)
  have gw : List.take f.wear.length (f.wear.map nRow) = f.wear.map nRow := List.take_of_length_le (by simp)
  have gm : List.take f.map.length (f.map.map nRow) = f.map.map nRow := List.take_of_length_le (by simp)
  have rQ := runs_10 fr fr (by omega) (by omega)
  rw [decide_eq_true rfl] at rQ
  have rQ2 := runs_10 li li (by omega) (by omega)
  rw [decide_eq_true rfl] at rQ2
  refine vw_go rfl ?_; simp only [go_sem, setCells, setIn]
  refine vw_seq ?_
  refine vw_go rfl ?_; simp only [go_sem, setCells, setIn]
  refine ⟨_, _, call_rx [0] Tryz.func4 (rB) rfl rfl rfl rfl rfl rfl rfl (by simp [lendAll, lendC, seek, fresh, nav, rcells, RT.cells, VV.cells, tabE_cons, tabS_cons, ev, take_map_len, sRow_r1, sRow_comp, sRow_clean, nRow_r1, nRow_comp, nRow_clean, bRow_r1, bRow_clean]) rfl (by simp [rcells, RT.cells, CT.clean, T.clean, sRow_r1, sRow_comp, sRow_clean, nRow_r1, nRow_comp, nRow_clean, bRow_r1, bRow_clean]) rfl rfl, ?_⟩
  simp only [runH, runX, go_sem, setCells, setIn]
  refine vw_cond (t := false) rfl (fun h => nomatch h) (fun _ => ?_)
  refine vw_skip (n_then ?_)
  refine vw_go rfl ?_; simp only [go_sem, setCells, setIn]
  refine ⟨_, _, call_rx [0] Tryz.func5 (rD1) rfl rfl rfl rfl rfl rfl rfl (by simp [lendAll, lendC, seek, fresh, nav, rcells, RT.cells, VV.cells, tabE_cons, tabS_cons, ev, take_map_len, sRow_r1, sRow_comp, sRow_clean, nRow_r1, nRow_comp, nRow_clean, bRow_r1, bRow_clean]) rfl (by simp [rcells, RT.cells, CT.clean, T.clean, sRow_r1, sRow_comp, sRow_clean, nRow_r1, nRow_comp, nRow_clean, bRow_r1, bRow_clean]) rfl rfl, ?_⟩
  simp only [runH, runX, bp, bw, List.drop_length, go_sem, setCells, setIn]
  refine vw_go rfl ?_; simp only [bp, bw, List.drop_length, go_sem, setCells, setIn]
  refine ⟨_, _, call_rx [0] Tryz.func6 (rNi) rfl rfl rfl rfl rfl rfl rfl (by simp [lendAll, lendC, seek, fresh, nav, rcells, RT.cells, VV.cells, tabE_cons, tabS_cons, ev, take_map_len, sRow_r1, sRow_comp, sRow_clean, nRow_r1, nRow_comp, nRow_clean, bRow_r1, bRow_clean, bp, bw]) rfl (by simp [rcells, RT.cells, CT.clean, T.clean, sRow_r1, sRow_comp, sRow_clean, nRow_r1, nRow_comp, nRow_clean, bRow_r1, bRow_clean, bp, bw]) rfl rfl, ?_⟩
  simp only [runH, runX, bp, bw, go_sem, setCells, setIn]
  refine vw_go rfl ?_; simp only [bp, bw, go_sem, setCells, setIn]
  refine ⟨_, _, call_rx [0] Tryz.func7 (rD2) rfl rfl rfl rfl rfl rfl rfl (by simp [lendAll, lendC, seek, fresh, nav, rcells, RT.cells, VV.cells, tabE_cons, tabS_cons, ev, take_map_len, sRow_r1, sRow_comp, sRow_clean, nRow_r1, nRow_comp, nRow_clean, bRow_r1, bRow_clean, bp, bw]) rfl (by simp [rcells, RT.cells, CT.clean, T.clean, sRow_r1, sRow_comp, sRow_clean, nRow_r1, nRow_comp, nRow_clean, bRow_r1, bRow_clean, bp, bw]) rfl rfl, ?_⟩
  simp only [runH, runX, bp, bw, List.drop_length, go_sem, setCells, setIn]
  refine vw_go rfl ?_; simp only [bp, bw, go_sem, setCells, setIn]
  refine ⟨_, _, call_rx [0] Tryz.func8 (rFi) rfl rfl rfl rfl rfl rfl rfl (by simp [lendAll, lendC, seek, fresh, nav, rcells, RT.cells, VV.cells, tabE_cons, tabS_cons, ev, take_map_len, sRow_r1, sRow_comp, sRow_clean, nRow_r1, nRow_comp, nRow_clean, bRow_r1, bRow_clean, bp, bw]) rfl (by simp [rcells, RT.cells, CT.clean, T.clean, sRow_r1, sRow_comp, sRow_clean, nRow_r1, nRow_comp, nRow_clean, bRow_r1, bRow_clean, bp, bw]) rfl rfl, ?_⟩
  simp only [runH, runX, bp, bw, go_sem, setCells, setIn]
  refine vw_join (α := Unit) (fun z => ⟨tabE [(0, .c (.list false 1 (L.map bRow))), (5, .ptr 1 [] 0 0 0), (6, .al 2 [] 0 1 0 fr.length)],
    tabS [(1, some ⟨true, 2, [[.list true 1 (p.map sRow), .list true 1 (w.map nRow)]], [[(0, 0)], [(0, 1)]]⟩), (2, some ⟨false, 1, fr.map nRow, []⟩)], 3⟩) (fun z => True) ?_ ?_
  · (refine vw_go rfl ?_; simp only [bp, bw, bf, go_sem, setCells, setIn])
    refine ⟨_, _, call_rx [0] Tryz.func9 (rNs) rfl rfl rfl rfl rfl rfl rfl (by simp [lendAll, lendC, seek, fresh, nav, rcells, RT.cells, VV.cells, tabE_cons, tabS_cons, ev, take_map_len, sRow_r1, sRow_comp, sRow_clean, nRow_r1, nRow_comp, nRow_clean, bRow_r1, bRow_clean, bp, bw]) rfl (by simp [rcells, RT.cells, CT.clean, T.clean, sRow_r1, sRow_comp, sRow_clean, nRow_r1, nRow_comp, nRow_clean, bRow_r1, bRow_clean, bp, bw]) rfl rfl, ?_⟩
    (unfold runH; simp (maxSteps := 1000000) only [bp, bw, bf, go_sem, setCells, setIn])
    refine ⟨_, _, call_rx [0] Tryz.func11 (rFs) rfl rfl rfl rfl rfl rfl rfl (by simp [lendAll, lendC, seek, fresh, nav, rcells, RT.cells, VV.cells, tabE_cons, tabS_cons, ev, take_map_len, sRow_r1, sRow_comp, sRow_clean, nRow_r1, nRow_comp, nRow_clean, bRow_r1, bRow_clean, bp, bw]) rfl (by simp [rcells, RT.cells, CT.clean, T.clean, sRow_r1, sRow_comp, sRow_clean, nRow_r1, nRow_comp, nRow_clean, bRow_r1, bRow_clean, bp, bw]) rfl rfl, ?_⟩
    (unfold runH; simp (maxSteps := 1000000) only [bp, bw, bf, go_sem, setCells, setIn])
    refine ⟨_, _, call_rx [0, 0] Tryz.func10 (rQ) rfl rfl rfl rfl rfl rfl rfl (by simp [lendAll, lendC, seek, fresh, nav, rcells, RT.cells, VV.cells, tabE_cons, tabS_cons, ev, take_map_len, sRow_r1, sRow_comp, sRow_clean, nRow_r1, nRow_comp, nRow_clean, bRow_r1, bRow_clean, bf]) rfl (by simp [rcells, RT.cells, CT.clean, T.clean, sRow_r1, sRow_comp, sRow_clean, nRow_r1, nRow_comp, nRow_clean, bRow_r1, bRow_clean, bf]) rfl rfl, ?_⟩
    by_cases hn0 : 0 ≤ N
    · obtain ⟨n, rfl, hn, hnE⟩ := hN hn0
      have hnI : (n : Int) < (p.length : Int) := by omega
      simp only [runH, runX, bp, bw, bf, hn0, hn, hnI, hnE, Int.toNat_natCast, go_sem, setCells, setIn]
      refine vw_cond (t := false) rfl (fun h => nomatch h) (fun _ => ?_)
      refine vw_skip (n_then ⟨(), ?_⟩)
      refine norm_to [(264193, 1), (328705, 2)] rfl ?_ ?_ <;> simp only [go_sem]
    · simp only [runH, runX, bp, bw, bf, hn0, go_sem, setCells, setIn]
      refine vw_cond (t := false) rfl (fun h => nomatch h) (fun _ => ?_)
      refine vw_skip (n_then ⟨(), ?_⟩)
      refine norm_to [(264193, 1), (328705, 2)] rfl ?_ ?_ <;> simp only [go_sem]
  intro z _
  refine vw_seq ?_
  refine vw_go rfl ?_; simp only [go_sem, setCells, setIn]
  refine vw_block ?_
  refine vw_loop_tab (α := Nat) (fun x => fr.length - x) (fun x => ⟨tabE [(0, .c (.list false 1 (L.map bRow))), (5, .ptr 1 [] 0 0 0), (6, .al 2 [] 0 1 0 fr.length), (7, .c (.int .i64 x))],
    tabS [(1, some ⟨true, 2, [[.list true 1 (p.map sRow), .list true 1 (w.map nRow)]], [[(0, 0)], [(0, 1)]]⟩), (2, some ⟨false, 1, fr.map nRow, []⟩)], 3⟩)
    (fun x => x ≤ fr.length) (x := 0) ?round ?h0 ?hn
  case h0 => exact Nat.zero_le _
  case hn =>
    refine norm_to [(1, 1), (2, 2)] rfl ?_ ?_ <;> simp only [go_sem]
  rintro i hi
  refine vw_seq ?_
  by_cases hd : (i : Int) < fr.length
  case pos =>
    obtain ⟨x, hx⟩ : ∃ x, fr[i]? = some x := ⟨_, List.getElem?_eq_getElem (by omega)⟩
    obtain ⟨B, rfl, hB, hp60, hE⟩ := hfr x (List.mem_of_getElem? hx)
    have d0 : (0:Int) ≤ (i : Int) := by omega
    have d1 : i < fr.length := by omega
    have w3 : IntKind.wrap .i64 ((i:Int) + 1) = ((i + 1 : Nat) : Int) := by rw [wrap_i64 (by omega) (by omega)]; rfl
    refine vw_go rfl ?_; simp only [hd, go_sem, setCells, setIn]
    refine vw_cond (t := true) rfl (fun _ => ?_) (fun h => nomatch h)
    refine vw_skip (n_then ?_)
    refine vw_seq ?_
    refine vw_block ?_
    refine vw_go rfl ?_; simp only [go_sem, setCells, setIn]
    refine vw_block ?_
    refine vw_loop_tab (α := Nat) (fun x => 6 - x) (fun x => ⟨tabE [(0, .c (.list false 1 (L.map bRow))), (5, .ptr 1 [] 0 0 0), (6, .al 2 [] 0 1 0 fr.length), (7, .c (.int .i64 i)), (8, .c (.int .i64 x))],
      tabS [(1, some ⟨true, 2, [[.list true 1 (p.map sRow), .list true 1 (w.map nRow)]], [[(0, 0)], [(0, 1)]]⟩), (2, some ⟨false, 1, fr.map nRow, []⟩)], 3⟩)
      (fun x => x ≤ 6) (x := 0) ?round2 ?h02 ?hn2
    case h02 => exact Nat.zero_le _
    case hn2 =>
      refine norm_to [(1, 1), (2, 2)] rfl ?_ ?_ <;> simp only [go_sem]
    rintro k hk
    refine vw_seq ?_
    by_cases hk6 : (k : Int) < 6
    case neg =>
      refine vw_go rfl ?_; simp only [hk6, go_sem, setCells, setIn]
      refine vw_cond (t := false) rfl (fun h => nomatch h) (fun _ => ?_)
      refine vw_exit (x_then (x_then (x_block (n_block (n_then ?_)))))
      refine vw_last rfl ?_; simp only [w3, go_sem, setCells, setIn]
      refine (n_then ?_)
      refine ⟨i + 1, by omega, d1, ?_⟩
      refine norm_to [(1, 1), (2, 2)] rfl ?_ ?_ <;> simp only [go_sem]
    have w1 : IntKind.wrap .i64 ((k:Int) + 1) = ((k + 1 : Nat) : Int) := by rw [wrap_i64 (by omega) (by omega)]; rfl
    have v1 : IntKind.wrap .i64 ((B:Int) * 6) = (B:Int) * 6 := wrap_i64 (by omega) (by omega)
    have v2 : IntKind.wrap .i64 ((B:Int) * 6 + (k : Int)) = ((B * 6 + k : Nat) : Int) := by rw [wrap_i64 (by omega) (by omega)]; omega
    have c1 : (0:Int) ≤ ((B * 6 + k : Nat) : Int) := by omega
    have c2 : ((B * 6 + k : Nat) : Int) < (p.length : Int) := by omega
    have c3 : B * 6 + k < p.length := by omega
    have c4 := hE k (by omega)
    refine vw_go rfl ?_; simp only [hk6, go_sem, setCells, setIn]
    refine vw_cond (t := true) rfl (fun _ => ?_) (fun h => nomatch h)
    refine vw_skip (n_then ?_)
    refine vw_seq ?_
    refine vw_block ?_
    refine vw_drawA mixed rfl rfl ?_; intro A hAA
    simp (maxSteps := 1000000) only [d0, hd, d1, v1, v2, c1, c2, c3, c4, Int.toNat_natCast, getD_map_of hx, nRow, bp, go_sem, setCells, setIn, runW_step]
    refine ⟨by subst hAA; unfold allOk; kernel_rfl, ?_⟩
    refine vw_cond (t := false) rfl (fun h => nomatch h) (fun _ => ?_)
    refine vw_skip (n_block (n_then ?_))
    refine vw_last rfl ?_; simp only [w1, go_sem, setCells, setIn]
    refine (n_then ?_)
    refine ⟨k + 1, by omega, by omega, ?_⟩
    refine norm_to [(1, 1), (2, 2)] rfl ?_ ?_ <;> simp only [go_sem]
  refine vw_go rfl ?_; simp only [hd, go_sem, setCells, setIn]
  refine vw_cond (t := false) rfl (fun h => nomatch h) (fun _ => ?_)
  refine vw_exit (x_then (x_then (x_block (n_then ?_))))
  refine vw_go rfl ?_; simp only [go_sem, setCells, setIn]
  refine ⟨_, _, call_rx [0] Tryz.func12 (rD3) rfl rfl rfl rfl rfl rfl rfl (by simp [lendAll, lendC, seek, fresh, nav, rcells, RT.cells, VV.cells, tabE_cons, tabS_cons, ev, take_map_len, sRow_r1, sRow_comp, sRow_clean, nRow_r1, nRow_comp, nRow_clean, bRow_r1, bRow_clean]) rfl (by simp [rcells, RT.cells, CT.clean, T.clean, sRow_r1, sRow_comp, sRow_clean, nRow_r1, nRow_comp, nRow_clean, bRow_r1, bRow_clean]) rfl rfl, ?_⟩
  simp only [runH, runX, gp, gw, gm, List.drop_length, go_sem, setCells, setIn]
  refine vw_go rfl ?_; simp only [gp, gw, gm, go_sem, setCells, setIn]
  refine ⟨_, _, call_rx [0, 0] Tryz.func13 (rLi) rfl rfl rfl rfl rfl rfl rfl (by simp [lendAll, lendC, seek, fresh, nav, rcells, RT.cells, VV.cells, tabE_cons, tabS_cons, ev, take_map_len, sRow_r1, sRow_comp, sRow_clean, nRow_r1, nRow_comp, nRow_clean, bRow_r1, bRow_clean, gp, gw, gm]) rfl (by simp [rcells, RT.cells, CT.clean, T.clean, sRow_r1, sRow_comp, sRow_clean, nRow_r1, nRow_comp, nRow_clean, bRow_r1, bRow_clean, gp, gw, gm]) rfl rfl, ?_⟩
  simp only [runH, runX, gp, gw, gm, bl, go_sem, setCells, setIn]
  refine vw_join (α := Unit) (fun z => ⟨tabE [(0, .c (.list false 1 (L.map bRow))), (9, .ptr 1 [] 0 0 0), (10, .c (.int .i64 b)), (11, .al 2 [] 0 1 0 li.length)],
    tabS [(1, some ⟨true, 4, [[.list true 1 (f.pages.map sRow), .list true 1 (f.wear.map nRow), .list true 1 (f.map.map nRow), .int .i64 f.seq]], [[(0, 0)], [(0, 1)], [(0, 2)]]⟩), (2, some ⟨false, 1, li.map nRow, []⟩)], 3⟩) (fun z => True) ?_ ?_
  · (refine vw_go rfl ?_; simp only [gp, gw, gm, bl, go_sem, setCells, setIn])
    refine ⟨_, _, call_rx [0, 0] Tryz.func14 (rLs) rfl rfl rfl rfl rfl rfl rfl (by simp [lendAll, lendC, seek, fresh, nav, rcells, RT.cells, VV.cells, tabE_cons, tabS_cons, ev, take_map_len, sRow_r1, sRow_comp, sRow_clean, nRow_r1, nRow_comp, nRow_clean, bRow_r1, bRow_clean, gp, gw, gm]) rfl (by simp [rcells, RT.cells, CT.clean, T.clean, sRow_r1, sRow_comp, sRow_clean, nRow_r1, nRow_comp, nRow_clean, bRow_r1, bRow_clean, gp, gw, gm]) rfl rfl, ?_⟩
    (unfold runH; simp (maxSteps := 1000000) only [gp, gw, gm, bl, go_sem, setCells, setIn])
    refine ⟨_, _, call_rx [0, 0] Tryz.func10 (rQ2) rfl rfl rfl rfl rfl rfl rfl (by simp [lendAll, lendC, seek, fresh, nav, rcells, RT.cells, VV.cells, tabE_cons, tabS_cons, ev, take_map_len, sRow_r1, sRow_comp, sRow_clean, nRow_r1, nRow_comp, nRow_clean, bRow_r1, bRow_clean, bl]) rfl (by simp [rcells, RT.cells, CT.clean, T.clean, sRow_r1, sRow_comp, sRow_clean, nRow_r1, nRow_comp, nRow_clean, bRow_r1, bRow_clean, bl]) rfl rfl, ?_⟩
    simp only [runH, runX, gp, gw, gm, bl, go_sem, setCells, setIn]
    refine vw_cond (t := false) rfl (fun h => nomatch h) (fun _ => ?_)
    refine vw_skip (n_then ⟨(), ?_⟩)
    refine norm_to [(70659, 1), (133123, 2)] rfl ?_ ?_ <;> simp only [go_sem]
  intro z2 _
  refine vw_seq ?_
  refine vw_go rfl ?_; simp only [go_sem, setCells, setIn]
  refine vw_block ?_
  refine vw_loop_tab (α := Nat) (fun x => li.length - x) (fun x => ⟨tabE [(0, .c (.list false 1 (L.map bRow))), (9, .ptr 1 [] 0 0 0), (10, .c (.int .i64 b)), (11, .al 2 [] 0 1 0 li.length), (12, .c (.int .i64 x))],
    tabS [(1, some ⟨true, 4, [[.list true 1 (f.pages.map sRow), .list true 1 (f.wear.map nRow), .list true 1 (f.map.map nRow), .int .i64 f.seq]], [[(0, 0)], [(0, 1)], [(0, 2)]]⟩), (2, some ⟨false, 1, li.map nRow, []⟩)], 3⟩)
    (fun x => x ≤ li.length) (x := 0) ?round3 ?h03 ?hn3
  case h03 => exact Nat.zero_le _
  case hn3 =>
    refine norm_to [(1, 1), (2, 2)] rfl ?_ ?_ <;> simp only [go_sem]
  rintro j hj
  refine vw_seq ?_
  by_cases hdj : (j : Int) < li.length
  case pos =>
    obtain ⟨x, hx⟩ : ∃ x, li[j]? = some x := ⟨_, List.getElem?_eq_getElem (by omega)⟩
    obtain ⟨x0, x1, x2, x3⟩ := hli x (List.mem_of_getElem? hx)
    have d0 : (0:Int) ≤ (j : Int) := by omega
    have d1 : j < li.length := by omega
    have w3 : IntKind.wrap .i64 ((j:Int) + 1) = ((j + 1 : Nat) : Int) := by rw [wrap_i64 (by omega) (by omega)]; rfl
    have e2 : Int.tdiv x 6 = b := by rw [← x2]; exact Int.tdiv_eq_ediv_of_nonneg (by omega)
    have e3 : IntKind.wrap .i64 b = b := wrap_i64 (by omega) (by omega)
    have hml := hfs.map
    have rW := runs_15 f.map (by omega) x x3
    refine vw_go rfl ?_; simp only [hdj, go_sem, setCells, setIn]
    refine vw_cond (t := true) rfl (fun _ => ?_) (fun h => nomatch h)
    refine vw_skip (n_then ?_)
    refine vw_seq ?_
    refine vw_block ?_
    refine vw_drawA mixed rfl rfl ?_; intro A hAA
    have k7 : (A[7]?).bind (·.dst) = some 97 := by subst hAA; rfl
    simp (maxSteps := 1000000) only [k7, d0, hdj, d1, Int.toNat_natCast, getD_map_of hx, nRow, e2, e3, gm, go_sem, setCells, setIn, runW_step]
    refine ⟨_, _, _, call_rx_at [0, 0] [1] Tryz.func15 (rW) rfl rfl rfl rfl rfl rfl rfl (fun st1 hst1 => by (try simp only [List.mem_cons, List.not_mem_nil, or_false, false_or, forall_eq_or_imp, forall_eq] at hst1); simp [lendAll, lendC, seek, fresh, nav, rcells, RT.cells, VV.cells, tabE_cons, tabS_cons, ev, take_map_len, hst1, sRow_r1, sRow_comp, sRow_clean, nRow_r1, nRow_comp, nRow_clean, bRow_r1, bRow_clean, gm]) rfl (by simp [rcells, RT.cells, CT.clean, T.clean, sRow_r1, sRow_comp, sRow_clean, nRow_r1, nRow_comp, nRow_clean, bRow_r1, bRow_clean, gm]) rfl rfl, ?_⟩
    (unfold runX; simp (maxSteps := 1000000) only [k7, d0, hdj, d1, Int.toNat_natCast, getD_map_of hx, nRow, e2, e3, gm, go_sem, setCells, setIn, runW_step])
    refine ⟨by subst hAA; exact allOk_pre [[], [], [0, 1], [0, 1, 2], [0, 1, 2, 3], [], [0, 1, 2, 3, 4, 5], [0, 1, 2, 3, 4, 5, 6], [0, 1, 2, 3, 4, 5, 6, 7], [0, 1, 2, 3, 4, 5, 6, 7, 8], [0, 1, 2, 3, 4, 5, 6, 7], [0, 1, 2, 3, 4, 5, 6, 7], [0, 1, 2, 3, 4, 5, 6, 7, 10, 11], [0, 1, 2, 3, 4, 5, 6, 7, 10, 11, 12], [0, 1, 2, 3, 4, 5, 6, 7, 8, 9, 10, 11, 12, 13], [0, 1, 2, 3, 4, 5, 6, 7, 8, 9, 10, 11, 12, 13, 14], [0, 1, 2, 3, 4, 5, 6, 7, 8, 9, 10, 11, 12, 13, 14, 15]] (by kernel_rfl) (Nat.le_of_ble_eq_true (by kernel_rfl)) (by kernel_rfl), ?_⟩
    refine vw_cond (t := false) rfl (fun h => nomatch h) (fun _ => ?_)
    refine vw_skip (n_block (n_then ?_))
    refine vw_last rfl ?_; simp only [w3, go_sem, setCells, setIn]
    refine (n_then ?_)
    refine ⟨j + 1, by omega, by omega, ?_⟩
    refine norm_to [(1, 1), (2, 2)] rfl ?_ ?_ <;> simp only [go_sem]
  refine vw_go rfl ?_; simp only [hdj, go_sem, setCells, setIn]
  refine vw_cond (t := false) rfl (fun h => nomatch h) (fun _ => ?_)
  refine vw_exit (x_then (x_then (x_block (n_then ?_))))
  refine vw_go rfl ?_; simp only [go_sem, setCells, setIn]
  refine ⟨_, _, call_rx [0] Tryz.func16 (rD4) rfl rfl rfl rfl rfl rfl rfl (by simp [lendAll, lendC, seek, fresh, nav, rcells, RT.cells, VV.cells, tabE_cons, tabS_cons, ev, take_map_len, sRow_r1, sRow_comp, sRow_clean, nRow_r1, nRow_comp, nRow_clean, bRow_r1, bRow_clean]) rfl (by simp [rcells, RT.cells, CT.clean, T.clean, sRow_r1, sRow_comp, sRow_clean, nRow_r1, nRow_comp, nRow_clean, bRow_r1, bRow_clean]) rfl rfl, ?_⟩
  simp only [runH, runX, gp, gw, gm, List.drop_length, go_sem, setCells, setIn]
  refine vw_drawA mixed rfl rfl ?_; intro A hAA
  simp (maxSteps := 1000000) only [gp, gw, gm, List.drop_length, go_sem, setCells, setIn, runW_step]
  refine ⟨_, _, _, call_rx_at [0, 0] [70659] Tryz.func17 (rSi) rfl rfl rfl rfl rfl rfl rfl (fun st1 hst1 => by (try simp only [List.mem_cons, List.not_mem_nil, or_false, false_or, forall_eq_or_imp, forall_eq] at hst1); simp [lendAll, lendC, seek, fresh, nav, rcells, RT.cells, VV.cells, tabE_cons, tabS_cons, ev, take_map_len, hst1, sRow_r1, sRow_comp, sRow_clean, nRow_r1, nRow_comp, nRow_clean, bRow_r1, bRow_clean, gp, gw, gm]) rfl (by simp [rcells, RT.cells, CT.clean, T.clean, sRow_r1, sRow_comp, sRow_clean, nRow_r1, nRow_comp, nRow_clean, bRow_r1, bRow_clean, gp, gw, gm]) rfl rfl, ?_⟩
  (unfold runX; simp (maxSteps := 1000000) only [gp, gw, gm, List.drop_length, go_sem, setCells, setIn, runW_step])
  refine ⟨_, _, _, call_rx_at [0, 0] [70659] Tryz.func18 (rSs) rfl rfl rfl rfl rfl rfl rfl (fun st1 hst1 => by (try simp only [List.mem_cons, List.not_mem_nil, or_false, false_or, forall_eq_or_imp, forall_eq] at hst1); simp [lendAll, lendC, seek, fresh, nav, rcells, RT.cells, VV.cells, tabE_cons, tabS_cons, ev, take_map_len, hst1, sRow_r1, sRow_comp, sRow_clean, nRow_r1, nRow_comp, nRow_clean, bRow_r1, bRow_clean, gp, gw, gm]) rfl (by simp [rcells, RT.cells, CT.clean, T.clean, sRow_r1, sRow_comp, sRow_clean, nRow_r1, nRow_comp, nRow_clean, bRow_r1, bRow_clean, gp, gw, gm]) rfl rfl, ?_⟩
  (unfold runX; simp (maxSteps := 1000000) only [gp, gw, gm, List.drop_length, go_sem, setCells, setIn, runW_step])
  refine ⟨by subst hAA; unfold allOk; kernel_rfl, ?_⟩
  exact vw_ret (e_ret (ret_by rfl rfl (by simp [RB]) rfl (by simp only [takeCs, takeC, go_sem, setCells, setIn])))
end Go.Proofs.YtkijdbljnefeaaaGreat
