/- Plain of the reference: Plain whole. -/
import Derived.Test.YtoenfbbadfcfpaaGreatDoorPFPlainN
namespace Go.Proofs.YtoenfbbadfcfpaaGreatDoor
open Go.VM Go
set_option maxRecDepth 100000
set_option linter.unusedSimpArgs false
set_option linter.unusedVariables false
attribute [-go_sem] runW_cons
attribute [local congr] vw_congr runV_congr runH_congr runW_congr runX_congr stuckV_congr stuckX_congr


theorem foldF_cases (l : List It3) (q : ByteArray) : foldF l q = 0 ∨ foldF l q = 2 ∨ (foldF l q = 4 ∧ ∃ (j : Nat) (x : It3), findF l q = (j : Int) ∧ l[j]? = some x) := by
  unfold foldF
  split
  · exact .inl rfl
  · split
    · exact .inr (.inl rfl)
    · rename_i h1 h2
      split
      · exact .inl rfl
      · refine .inr (.inr ⟨rfl, ?_⟩)
        rcases idxOf_at (hasPath q) l 0 with e | ⟨j, x, e, hx⟩
        · exact absurd (show findF l q < 0 from by unfold findF; rw [e]; decide) h2
        · exact ⟨j, x, by unfold findF; rw [e, Nat.zero_add], hx⟩
set_option maxHeartbeats 2000000 in
theorem runs_32 (l : List It3) (hl : l.length ≤ 11) (hb : ∀ x ∈ l, x.1.size ≤ 100) (o : OpV) (hp : o.path.size ≤ 2 ^ 19) (ht : o.kind = 6 → o.to.size ≤ 2 ^ 19) (R : Plain3) (hR : R = doL l o) :
    Runs Tryz.prog 32 [.one (.v (.list true 3 (l.map iRow))), .agg [.v (.int .i64 o.kind), .v (.str o.path), .v (.str o.to), .v (.str o.data)]] [.one (.v (.list true 3 (R.1.map iRow))), .one (.v (.int .i64 R.2.1)), .one (.v (.str R.2.2))] [] := by
  refine runs_tab (tab := [(0, .al 0 [] 0 3 0 l.length), (1, .agg [.c (.int .i64 o.kind), .c (.str o.path), .c (.str o.to), .c (.str o.data)])]) (rts := [(0, some ⟨false, 3, l.map iRow, []⟩)]) (n := 86) (k := 5) Tryz.func32 rfl rfl (by simp) rfl (fun t => ?_) rfl ?_
  · rcases t with _ | _ | t <;> simp [envOf, rvv, RT.vv, CT.vv, cvv, tabE_cons, tabE_nil, rcells, RT.cells]
  unfold doL at hR
  have bl : List.take l.length (l.map iRow) = l.map iRow := List.take_of_length_le (by simp)
  have rD := runs_folder l o.path (by omega)
  have rF := runs_28 l o.path (by omega)
  change Runs _ _ _ [.one (.v (.int .i64 (findF l o.path)))] _ at rF
  have hfc := foldF_cases l o.path
  have rDr := runs_63 l hl (fun x hx => Nat.le_trans (hb x hx) (by decide)) o (by omega) _ rfl
  have rMv := fun h6 => runs_64 l hl (fun x hx => Nat.le_trans (hb x hx) (by decide)) o hp (ht h6) _ rfl
  have rNm := runs_65 l hl hb o.path hp _ rfl
  generalize foldF l o.path = fo at rD hR hfc
  generalize findF l o.path = fi at rF hR hfc
  generalize dropL l o = dr at rDr hR
  generalize moveL l o = mv at rMv hR
  generalize listL l o.path = nm at rNm hR
  have bd : List.take dr.1.length (dr.1.map iRow) = dr.1.map iRow := List.take_of_length_le (by simp)
  have bm : List.take mv.1.length (mv.1.map iRow) = mv.1.map iRow := List.take_of_length_le (by simp)
  (refine vw_go rfl ?_; simp only [go_sem, setCells, setIn])
  (refine vw_go rfl ?_; simp only [bl, go_sem, setCells, setIn])
  (refine ⟨_, _, call_rx [0, 0] Tryz.func58 (rD) rfl rfl rfl rfl rfl rfl rfl (by simp [lendAll, lendC, seek, fresh, nav, rcells, RT.cells, VV.cells, tabE_cons, tabS_cons, ev, take_map_len, iRow_r1, iRow_clean, bl]) rfl (by simp [rcells, RT.cells, CT.clean, T.clean, iRow_r1, iRow_clean, bl]) rfl rfl, ?_⟩)
  simp only [runH, runX, bl, go_sem, setCells, setIn]
  refine vw_seq ?_
  refine vw_block ?_
  by_cases h2 : fo = 2
  · rw [if_pos h2] at hR
    subst hR
    (refine vw_go rfl ?_; simp only [h2, bl, go_sem, setCells, setIn])
    (refine vw_cond (t := true) rfl (fun _ => ?_) (fun h => nomatch h))
    (refine vw_go rfl ?_; simp only [go_sem, setCells, setIn])
    exact vw_ret (r_block (r_then (e_ret (ret_by rfl rfl (by simp [RB]) rfl (by simp only [takeCs, takeC, go_sem, setCells, setIn])))))
  rw [if_neg h2] at hR
  (refine vw_go rfl ?_; simp only [h2, go_sem, setCells, setIn])
  (refine vw_cond (t := false) rfl (fun h => nomatch h) (fun _ => ?_))
  by_cases k5 : o.kind = 5
  · rw [if_pos k5] at hR
    subst hR
    (refine vw_go rfl ?_; simp only [k5, go_sem, setCells, setIn])
    (refine vw_cond (t := true) rfl (fun _ => ?_) (fun h => nomatch h))
    rw [← k5]
    (refine vw_go rfl ?_; simp only [bl, List.drop_length, go_sem, setCells, setIn])
    (refine ⟨_, _, call_own [0, 0] [(0, none)] Tryz.func63 (rDr) rfl rfl rfl rfl rfl rfl rfl (by simp [takeCs, takeC, takeV, seek, fresh, nav, takenUp, rcells, RT.cells, VV.cells, tabE_cons, tabS_cons, ups_tab, ups_nil, ev, take_map_len, bl, iRow_r1, iRow_clean, List.drop_length]) rfl (by simp [rcells, RT.cells, CT.clean, T.clean, bl, iRow_r1, iRow_clean, List.drop_length]) rfl rfl, ?_⟩)
    simp only [runH, runX, bd, go_sem, setCells, setIn]
    (refine vw_go rfl ?_; simp only [bd, go_sem, setCells, setIn])
    exact vw_ret (r_block (r_then (e_ret (ret_by rfl rfl (by simp [RB]) rfl (by simp only [takeCs, takeC, go_sem, setCells, setIn])))))
  rw [if_neg k5] at hR
  (refine vw_go rfl ?_; simp only [k5, go_sem, setCells, setIn])
  (refine vw_cond (t := false) rfl (fun h => nomatch h) (fun _ => ?_))
  by_cases k6 : o.kind = 6
  · rw [if_pos k6] at hR
    subst hR
    have rMv := rMv k6
    (refine vw_go rfl ?_; simp only [k6, go_sem, setCells, setIn])
    (refine vw_cond (t := true) rfl (fun _ => ?_) (fun h => nomatch h))
    rw [← k6]
    (refine vw_go rfl ?_; simp only [bl, List.drop_length, go_sem, setCells, setIn])
    (refine ⟨_, _, call_own [0, 0] [(0, none)] Tryz.func64 (rMv) rfl rfl rfl rfl rfl rfl rfl (by simp [takeCs, takeC, takeV, seek, fresh, nav, takenUp, rcells, RT.cells, VV.cells, tabE_cons, tabS_cons, ups_tab, ups_nil, ev, take_map_len, bl, iRow_r1, iRow_clean, List.drop_length]) rfl (by simp [rcells, RT.cells, CT.clean, T.clean, bl, iRow_r1, iRow_clean, List.drop_length]) rfl rfl, ?_⟩)
    simp only [runH, runX, bm, go_sem, setCells, setIn]
    (refine vw_go rfl ?_; simp only [bm, go_sem, setCells, setIn])
    exact vw_ret (r_block (r_then (e_ret (ret_by rfl rfl (by simp [RB]) rfl (by simp only [takeCs, takeC, go_sem, setCells, setIn])))))
  rw [if_neg k6] at hR
  (refine vw_go rfl ?_; simp only [k6, go_sem, setCells, setIn])
  (refine vw_cond (t := false) rfl (fun h => nomatch h) (fun _ => ?_))
  by_cases k7 : decide (fo = 0) = decide (o.kind = 7)
  case neg =>
    rw [if_pos k7] at hR
    subst hR
    have k7' : (decide (fo = 0) == decide (o.kind = 7)) = false := by simpa using k7
    (refine vw_go rfl ?_; simp only [k7', bl, go_sem, setCells, setIn])
    (refine vw_cond (t := true) rfl (fun _ => ?_) (fun h => nomatch h))
    (refine vw_go rfl ?_; simp only [go_sem, setCells, setIn])
    exact vw_ret (r_block (r_then (e_ret (ret_by rfl rfl (by simp [RB]) rfl (by simp only [takeCs, takeC, go_sem, setCells, setIn])))))
  rw [if_neg (fun h => h k7)] at hR
  have k7' : (decide (fo = 0) == decide (o.kind = 7)) = true := by simpa using k7
  (refine vw_go rfl ?_; simp only [k7', go_sem, setCells, setIn])
  (refine vw_cond (t := false) rfl (fun h => nomatch h) (fun _ => ?_))
  by_cases k8 : o.kind = 7
  · rw [if_pos k8] at hR
    subst hR
    (refine vw_go rfl ?_; simp only [k8, go_sem, setCells, setIn])
    (refine vw_cond (t := true) rfl (fun _ => ?_) (fun h => nomatch h))
    rw [← k8]
    (refine vw_go rfl ?_; simp only [bl, go_sem, setCells, setIn])
    (refine ⟨_, _, call_rx [0, 0] Tryz.func65 (rNm) rfl rfl rfl rfl rfl rfl rfl (by simp [lendAll, lendC, seek, fresh, nav, rcells, RT.cells, VV.cells, tabE_cons, tabS_cons, ev, take_map_len, iRow_r1, iRow_clean, bl]) rfl (by simp [rcells, RT.cells, CT.clean, T.clean, iRow_r1, iRow_clean, bl]) rfl rfl, ?_⟩)
    simp only [runH, runX, bl, go_sem, setCells, setIn]
    exact vw_ret (r_block (r_then (e_ret (ret_by rfl rfl (by simp [RB]) rfl (by simp only [takeCs, takeC, go_sem, setCells, setIn])))))
  rw [if_neg k8] at hR
  have hfo : ¬ fo = 0 := fun e => by rw [decide_eq_true e, decide_eq_false k8] at k7; cases k7
  obtain ⟨j, x, rfl, hx⟩ : ∃ (j : Nat) (x : It3), fi = (j : Int) ∧ l[j]? = some x := by
    rcases hfc with h | h | ⟨_, h⟩
    · exact absurd h hfo
    · exact absurd h h2
    · exact h
  have hj := lt_of_getl hx
  have d0 : (0:Int) ≤ (j : Int) := by omega
  have d1 : (j : Int) < l.length := by omega
  rw [Int.toNat_natCast] at hR
  (refine vw_go rfl ?_; simp only [k8, go_sem, setCells, setIn])
  (refine vw_cond (t := false) rfl (fun h => nomatch h) (fun _ => ?_))
  refine vw_skip (n_block (n_then ?_))
  (refine vw_go rfl ?_; simp only [bl, go_sem, setCells, setIn])
  (refine ⟨_, _, call_rx [0, 0] Tryz.func28 (rF) rfl rfl rfl rfl rfl rfl rfl (by simp [lendAll, lendC, seek, fresh, nav, rcells, RT.cells, VV.cells, tabE_cons, tabS_cons, ev, take_map_len, iRow_r1, iRow_clean, bl]) rfl (by simp [rcells, RT.cells, CT.clean, T.clean, iRow_r1, iRow_clean, bl]) rfl rfl, ?_⟩)
  simp only [runH, runX, bl, go_sem, setCells, setIn]
  refine vw_seq ?_
  by_cases k9 : o.kind = 4
  · rw [if_pos k9] at hR
    have hdx : dataAt l j = x.2.2 := by unfold dataAt; rw [hx]
    rw [hdx] at hR
    subst hR
    (refine vw_go rfl ?_; simp only [k9, go_sem, setCells, setIn])
    (refine vw_cond (t := true) rfl (fun _ => ?_) (fun h => nomatch h))
    rw [← k9]
    (refine vw_drawA mixed rfl rfl ?_; intro A hAA)
    simp (maxSteps := 1000000) only [bl, d0, d1, hj, Int.toNat_natCast, getD_map_of hx, iRow, go_sem, setCells, setIn, runW_step]
    refine ⟨by subst hAA; unfold allOk; kernel_rfl, ?_⟩
    exact vw_ret (r_then (e_ret (ret_by rfl rfl (by simp [RB]) rfl (by simp only [takeCs, takeC, go_sem, setCells, setIn]))))
  rw [if_neg k9] at hR
  have hpx : putAtL l j o.data = l.set j (x.1, x.2.1, o.data) := by unfold putAtL; rw [hx]
  rw [hpx] at hR
  subst hR
  have B0 : ¬ (l.length + 1) * (40 + 1) > bigRow := big41 (by omega)
  have e5 : (l.map iRow).set j [T.str x.1, T.bool x.2.1, T.str o.data] = (l.set j (x.1, x.2.1, o.data)).map iRow := by rw [List.map_set]; rfl
  have e6 : List.take l.length ((l.set j (x.1, x.2.1, o.data)).map iRow) = (l.set j (x.1, x.2.1, o.data)).map iRow := List.take_of_length_le (by simp)
  have e7 : l.length ≤ (l.set j (x.1, x.2.1, o.data)).length := by simp
  (refine vw_go rfl ?_; simp only [k9, go_sem, setCells, setIn])
  (refine vw_cond (t := false) rfl (fun h => nomatch h) (fun _ => ?_))
  refine vw_skip (n_then ?_)
  (refine vw_go rfl ?_; simp only [B0, bl, iRow_plain, List.drop_length, range1, List.replicate_succ, List.replicate_zero, List.flatten_cons, List.flatten_nil, List.range_zero, gt_iff_lt, go_sem, setCells, setIn])
  (refine vw_go rfl ?_; simp only [bl, d0, d1, hj, Int.toNat_natCast, getD_map_of hx, iRow, e5, go_sem, setCells, setIn])
  (refine vw_go rfl ?_; simp only [go_sem, setCells, setIn])
  exact vw_ret (e_ret (ret_by rfl rfl (by simp [RB]) rfl (by simp only [takeCs, takeC, e6, e7, List.drop_zero, go_sem, setCells, setIn])))

theorem big41b {x : Nat} (h : x ≤ 2 ^ 22) : ¬ x * (40 + 1) > bigRow := by
  have h1 : x * (40 + 1) ≤ 2 ^ 22 * 41 := Nat.mul_le_mul_right _ h
  have h2 : 2 ^ 22 * 41 ≤ bigRow := by decide
  exact Nat.not_lt.2 (Nat.le_trans h1 h2)
theorem itemsOk_small {l : List It3} (h : itemsOk l = true) : l.length ≤ 11 ∧ ∀ x ∈ l, x.1.size ≤ 100 := by
  obtain ⟨h1, h2⟩ := itemsOk_at h
  refine ⟨h1, fun x hx => ?_⟩
  obtain ⟨j, hj⟩ := List.getElem?_of_mem hx
  exact pathOk_size (splitF_ok (h2 j x hj).1).1
theorem opOk_small {o : OpV} (h : opOk o = true) : o.path.size ≤ 100 ∧ (o.kind = 6 → o.to.size ≤ 100) ∧ o.data.size ≤ 60 ∧ 1 ≤ o.kind ∧ o.kind ≤ 7 := by
  unfold opOk at h
  simp only [Bool.and_eq_true, Bool.or_eq_true, decide_eq_true_eq, inB] at h
  obtain ⟨h1, h2, h3, h4⟩ := h
  refine ⟨pathOk_size h2, fun h6 => ?_, by omega, h1.1, h1.2⟩
  rcases h4 with h4 | h4
  · exact absurd h6 h4
  · exact pathOk_size h4

set_option maxHeartbeats 2000000 in
theorem runs_8 (l : List It3) (hl : l.length ≤ 2 ^ 20) (hb : ∀ x ∈ l, x.1.size ≤ 2 ^ 20) (o : OpV) (hp : o.path.size ≤ 2 ^ 20) (ht : o.to.size ≤ 2 ^ 20) (R : Plain3) (hR : R = plainL l o) :
    Runs Tryz.prog 8 [.one (.v (.list false 3 (l.map iRow))), .agg [.v (.int .i64 o.kind), .v (.str o.path), .v (.str o.to), .v (.str o.data)]] [.one (.v (.list true 3 (R.1.map iRow))), .one (.v (.int .i64 R.2.1)), .one (.v (.str R.2.2))] [] := by
  refine runs_tab (tab := [(0, .c (.list false 3 (l.map iRow))), (1, .agg [.c (.int .i64 o.kind), .c (.str o.path), .c (.str o.to), .c (.str o.data)])]) (rts := []) (n := 51) (k := 5) Tryz.func8 rfl rfl (by simp) rfl (fun t => ?_) rfl ?_
  · rcases t with _ | _ | t <;> rfl
  unfold plainL at hR
  have bl : List.take l.length (l.map iRow) = l.map iRow := List.take_of_length_le (by simp)
  have B0 : ¬ (l.length + 1) * (40 + 1) > bigRow := big41b (by omega)
  have rI := runs_26 l hb (by omega)
  have rO := runs_30 o hp ht
  (refine vw_go rfl ?_; simp only [go_sem, setCells, setIn])
  (refine vw_go rfl ?_; simp only [B0, bl, iRow_plain, List.drop_length, range1, List.replicate_succ, List.replicate_zero, List.flatten_cons, List.flatten_nil, List.range_zero, gt_iff_lt, go_sem, setCells, setIn])
  refine vw_seq ?_
  (refine vw_go rfl ?_; simp only [bl, go_sem, setCells, setIn])
  (refine ⟨_, _, call_rx [0] Tryz.func26 (rI) rfl rfl rfl rfl rfl rfl rfl (by simp [lendAll, lendC, seek, fresh, nav, rcells, RT.cells, VV.cells, tabE_cons, tabS_cons, ev, take_map_len, iRow_r1, iRow_clean]) rfl (by simp [rcells, RT.cells, CT.clean, T.clean, iRow_r1, iRow_clean]) rfl rfl, ?_⟩)
  cases hv : itemsOk l
  · rw [if_pos (.inl hv)] at hR
    subst hR
    (unfold runH; simp (maxSteps := 1000000) only [bl, hv, go_sem, setCells, setIn])
    (refine vw_cond (t := true) rfl (fun _ => ?_) (fun h => nomatch h))
    (refine vw_go rfl ?_; simp only [bl, go_sem, setCells, setIn])
    exact vw_ret (r_then (e_ret (ret_by rfl rfl (by simp [RB]) rfl (by simp only [takeCs, takeC, go_sem, setCells, setIn]))))
  obtain ⟨h11, h100⟩ := itemsOk_small hv
  (unfold runH; simp (maxSteps := 1000000) only [bl, hv, go_sem, setCells, setIn])
  (refine ⟨_, _, call_rx [0] Tryz.func30 (rO) rfl rfl rfl rfl rfl rfl rfl (by simp [lendAll, lendC, seek, fresh, nav, rcells, RT.cells, VV.cells, tabE_cons, tabS_cons, ev, take_map_len, iRow_r1, iRow_clean]) rfl (by simp [rcells, RT.cells, CT.clean, T.clean, iRow_r1, iRow_clean]) rfl rfl, ?_⟩)
  cases ho : opOk o
  · rw [if_pos (.inr ho)] at hR
    subst hR
    simp only [runH, runX, bl, ho, go_sem, setCells, setIn]
    (refine vw_cond (t := true) rfl (fun _ => ?_) (fun h => nomatch h))
    (refine vw_go rfl ?_; simp only [bl, go_sem, setCells, setIn])
    exact vw_ret (r_then (e_ret (ret_by rfl rfl (by simp [RB]) rfl (by simp only [takeCs, takeC, go_sem, setCells, setIn]))))
  rw [if_neg (by rw [hv, ho]; rintro (h | h) <;> cases h)] at hR
  obtain ⟨o1, o2, o3, o4, o5⟩ := opOk_small ho
  have rN := runs_31 l h11 o (by omega) _ rfl
  have rD := runs_32 l h11 h100 o (by omega) (fun h => by have := o2 h; omega) _ rfl
  generalize makeL l o = mk at rN hR
  generalize doL l o = dl at rD hR
  obtain ⟨m1, m2⟩ := mk
  obtain ⟨d1, d2, d3⟩ := dl
  simp only at rN rD hR
  have bm : List.take m1.length (m1.map iRow) = m1.map iRow := List.take_of_length_le (by simp)
  have bd : List.take d1.length (d1.map iRow) = d1.map iRow := List.take_of_length_le (by simp)
  simp only [runH, runX, bl, ho, go_sem, setCells, setIn]
  (refine vw_cond (t := false) rfl (fun h => nomatch h) (fun _ => ?_))
  refine vw_skip (n_then ?_)
  refine vw_seq ?_
  by_cases k1 : o.kind = 1
  · rw [if_pos (.inl k1)] at hR
    subst hR
    (refine vw_go rfl ?_; simp only [k1, go_sem, setCells, setIn])
    (refine vw_cond (t := true) rfl (fun _ => ?_) (fun h => nomatch h))
    rw [← k1]
    (refine vw_go rfl ?_; simp only [bl, List.drop_length, go_sem, setCells, setIn])
    (refine ⟨_, _, call_own [0, 0] [(67589, none)] Tryz.func31 (rN) rfl rfl rfl rfl rfl rfl rfl (by simp [takeCs, takeC, takeV, seek, fresh, nav, takenUp, rcells, RT.cells, VV.cells, tabE_cons, tabS_cons, ups_tab, ups_nil, ev, take_map_len, bl, iRow_r1, iRow_clean, List.drop_length]) rfl (by simp [rcells, RT.cells, CT.clean, T.clean, bl, iRow_r1, iRow_clean, List.drop_length]) rfl rfl, ?_⟩)
    simp only [runH, runX, bm, go_sem, setCells, setIn]
    (refine vw_go rfl ?_; simp only [bm, go_sem, setCells, setIn])
    exact vw_ret (r_then (e_ret (ret_by rfl rfl (by simp [RB]) rfl (by simp only [takeCs, takeC, go_sem, setCells, setIn]))))
  by_cases k2 : o.kind = 2
  · rw [if_pos (.inr k2)] at hR
    subst hR
    (refine vw_go rfl ?_; simp only [k2, go_sem, setCells, setIn])
    (refine vw_cond (t := true) rfl (fun _ => ?_) (fun h => nomatch h))
    rw [← k2]
    (refine vw_go rfl ?_; simp only [bl, List.drop_length, go_sem, setCells, setIn])
    (refine ⟨_, _, call_own [0, 0] [(67589, none)] Tryz.func31 (rN) rfl rfl rfl rfl rfl rfl rfl (by simp [takeCs, takeC, takeV, seek, fresh, nav, takenUp, rcells, RT.cells, VV.cells, tabE_cons, tabS_cons, ups_tab, ups_nil, ev, take_map_len, bl, iRow_r1, iRow_clean, List.drop_length]) rfl (by simp [rcells, RT.cells, CT.clean, T.clean, bl, iRow_r1, iRow_clean, List.drop_length]) rfl rfl, ?_⟩)
    simp only [runH, runX, bm, go_sem, setCells, setIn]
    (refine vw_go rfl ?_; simp only [bm, go_sem, setCells, setIn])
    exact vw_ret (r_then (e_ret (ret_by rfl rfl (by simp [RB]) rfl (by simp only [takeCs, takeC, go_sem, setCells, setIn]))))
  rw [if_neg (by rintro (h | h); exact k1 h; exact k2 h)] at hR
  subst hR
  (refine vw_go rfl ?_; simp only [k1, k2, go_sem, setCells, setIn])
  (refine vw_cond (t := false) rfl (fun h => nomatch h) (fun _ => ?_))
  refine vw_skip (n_then ?_)
  (refine vw_go rfl ?_; simp only [bl, List.drop_length, go_sem, setCells, setIn])
  (refine ⟨_, _, call_own [0, 0] [(67589, none)] Tryz.func32 (rD) rfl rfl rfl rfl rfl rfl rfl (by simp [takeCs, takeC, takeV, seek, fresh, nav, takenUp, rcells, RT.cells, VV.cells, tabE_cons, tabS_cons, ups_tab, ups_nil, ev, take_map_len, bl, iRow_r1, iRow_clean, List.drop_length]) rfl (by simp [rcells, RT.cells, CT.clean, T.clean, bl, iRow_r1, iRow_clean, List.drop_length]) rfl rfl, ?_⟩)
  simp only [runH, runX, bd, go_sem, setCells, setIn]
  (refine vw_go rfl ?_; simp only [bd, go_sem, setCells, setIn])
  exact vw_ret (e_ret (ret_by rfl rfl (by simp [RB]) rfl (by simp only [takeCs, takeC, go_sem, setCells, setIn])))
end Go.Proofs.YtoenfbbadfcfpaaGreatDoor
