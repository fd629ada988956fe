/- Plain of the program: what is asked of a file; the whole. Plain of the program: the whole. The law FnUndone. -/
import Derived.Test.YtoenfbbadfcfpaaGreatDoorPFPlainU
import Derived.Test.YtoenfbbadfcfpaaGreatDoorPFUndo
import Derived.Test.YtoenfbbadfcfpaaGreatDoorPFJoin
namespace Go.Proofs.YtoenfbbadfcfpaaGreatDoor
open Go.VM Go
set_option maxRecDepth 100000
set_option linter.unusedSimpArgs false
set_option linter.unusedVariables false
attribute [-go_sem] runW_cons
attribute [local congr] vw_congr runV_congr runH_congr runW_congr runX_congr stuckV_congr stuckX_congr

theorem runs_35 (o : OpV) (hp : o.path.size ≤ 2 ^ 20) (ht : o.to.size ≤ 2 ^ 20) : Runs Tryz.prog 35 [.agg [.v (.int .i64 o.kind), .v (.str o.path), .v (.str o.to), .v (.str o.data)]] [.one (.v (.bool (opOk o)))] [] := by
  refine runs_tab (tab := [(0, .agg [.c (.int .i64 o.kind), .c (.str o.path), .c (.str o.to), .c (.str o.data)])]) (rts := []) (n := 27) (k := 4) Tryz.func35 rfl rfl (by simp) rfl (fun t => ?_) rfl ?_
  · cases t <;> rfl
  unfold opOk
  (refine vw_go rfl ?_; simp only [go_sem, setCells, setIn])
  (refine vw_go rfl ?_; simp only [go_sem, setCells, setIn])
  (refine ⟨_, _, call_rx [0, 0, 0] Tryz.func66 (runs_66 o.kind 1 7) rfl rfl rfl rfl rfl rfl rfl (by simp [lendAll, lendC, seek, fresh, nav, rcells, RT.cells, VV.cells, tabE_cons, tabS_cons, ev, take_map_len, lit]) rfl (by simp [rcells, RT.cells, CT.clean, T.clean, lit]) rfl rfl, ?_⟩)
  cases inB o.kind 1 7
  · simp only [runH, runX, go_sem, setCells, setIn]
    exact vw_ret (e_ret (ret_of rfl rfl (by simp [RB]) rfl rfl))
  simp only [runH, runX, go_sem, setCells, setIn]
  (refine ⟨_, _, call_rx [0] Tryz.func67 (runs_67 o.path hp) rfl rfl rfl rfl rfl rfl rfl (by simp [lendAll, lendC, seek, fresh, nav, rcells, RT.cells, VV.cells, tabE_cons, tabS_cons, ev, take_map_len, iRow_r1, iRow_clean, sRow_r1, sRow_comp, sRow_clean]) rfl (by simp [rcells, RT.cells, CT.clean, T.clean, iRow_r1, iRow_clean, sRow_r1, sRow_comp, sRow_clean]) rfl rfl, ?_⟩)
  cases pathOk o.path
  · simp only [runH, runX, go_sem, setCells, setIn]
    exact vw_ret (e_ret (ret_of rfl rfl (by simp [RB]) rfl rfl))
  by_cases h2 : o.kind = 6
  case neg =>
    by_cases h1 : (o.data.size : Int) ≤ 60
    · simp only [runH, runX, h1, h2, go_sem, setCells, setIn]
      exact vw_ret (e_ret (ret_of rfl rfl (by simp [RB]) rfl rfl))
    · simp only [runH, runX, h1, h2, go_sem, setCells, setIn]
      exact vw_ret (e_ret (ret_of rfl rfl (by simp [RB]) rfl rfl))
  simp only [runH, runX, h2, go_sem, setCells, setIn]
  (refine ⟨_, _, call_rx [0] Tryz.func67 (runs_67 o.to ht) rfl rfl rfl rfl rfl rfl rfl (by simp [lendAll, lendC, seek, fresh, nav, rcells, RT.cells, VV.cells, tabE_cons, tabS_cons, ev, take_map_len, iRow_r1, iRow_clean, sRow_r1, sRow_comp, sRow_clean]) rfl (by simp [rcells, RT.cells, CT.clean, T.clean, iRow_r1, iRow_clean, sRow_r1, sRow_comp, sRow_clean]) rfl rfl, ?_⟩)
  cases pathOk o.to
  · simp only [runH, runX, go_sem, setCells, setIn]
    exact vw_ret (e_ret (ret_by rfl rfl (by simp [RB]) rfl (by simp [takeCs, takeC, go_sem, setCells, setIn])))
  by_cases h1 : (o.data.size : Int) ≤ 60
  · simp only [runH, runX, h1, h2, go_sem, setCells, setIn]
    exact vw_ret (e_ret (ret_of rfl rfl (by simp [RB]) rfl rfl))
  · simp only [runH, runX, h1, h2, go_sem, setCells, setIn]
    exact vw_ret (e_ret (ret_of rfl rfl (by simp [RB]) rfl rfl))

set_option maxHeartbeats 1000000 in
theorem runs_39 (l : List It3) (hok : itemsOk l = true) (o : OpV) (hp : o.path.size ≤ 2 ^ 19) (h5 : o.kind ≠ 5) (h6 : o.kind ≠ 6) (R : Plain3) (hR : R = doL l o) :
    Runs Tryz.prog 39 [.one (.v (.list true 3 (l.map iRow))), .agg [.v (.int .i64 o.kind), .v (.str o.path), .v (.str o.to), .v (.str o.data)]] [.one (.v (.list true 3 (R.1.map iRow))), .one (.v (.int .i64 R.2.1)), .one (.v (.str R.2.2))] [] := by
  refine runs_tab (tab := [(0, .al 0 [] 0 3 0 l.length), (1, .agg [.c (.int .i64 o.kind), .c (.str o.path), .c (.str o.to), .c (.str o.data)])]) (rts := [(0, some ⟨false, 3, l.map iRow, []⟩)]) (n := 55) (k := 5) Tryz.func39 rfl rfl (by simp) rfl (fun t => ?_) rfl ?_
  · rcases t with _ | _ | t <;> simp [envOf, rvv, RT.vv, CT.vv, cvv, tabE_cons, tabE_nil, rcells, RT.cells]
  obtain ⟨h11, h100⟩ := itemsOk_small hok
  have bl : List.take l.length (l.map iRow) = l.map iRow := List.take_of_length_le (by simp)
  have rF := runs_27 l o.path (by omega)
  change Runs _ _ _ [.one (.v (.int .i64 (findF l o.path)))] _ at rF
  have rT := runs_68 l (by omega) o.path
  have rI := runs_56 l o.path (by omega)
  have rL := runs_75 l h11 h100 o.path hp (namesL_nodup hok o.path)
  rw [← listL_listI hok] at rL
  have hth : thereB l o.path = true ↔ (o.path = ⟨#[]⟩ ∨ 0 ≤ findF l o.path) := by unfold thereB; simp
  have hie : o.path = ⟨#[]⟩ → isFold l o.path = true := fun h => by unfold isFold; simp [h]
  unfold doL at hR
  rw [if_neg h5, if_neg h6, fold_iff] at hR
  generalize hfi : findF l o.path = fi at rF hth hR
  generalize thereB l o.path = tb at rT hth hR
  generalize isFold l o.path = fb at rI hie hR
  generalize listL l o.path = li at rL hR
  (refine vw_go rfl ?_; simp only [go_sem, setCells, setIn])
  (refine vw_go rfl ?_; simp only [bl, go_sem, setCells, setIn])
  (refine ⟨_, _, call_rx [0, 0] Tryz.func27 (rF) rfl rfl rfl rfl rfl rfl rfl (by simp [lendAll, lendC, seek, fresh, nav, rcells, RT.cells, VV.cells, tabE_cons, tabS_cons, ev, take_map_len, iRow_r1, iRow_clean, sRow_r1, sRow_comp, sRow_clean, bl]) rfl (by simp [rcells, RT.cells, CT.clean, T.clean, iRow_r1, iRow_clean, sRow_r1, sRow_comp, sRow_clean, bl]) rfl rfl, ?_⟩)
  simp only [runH, runX, bl, go_sem, setCells, setIn]
  refine vw_seq ?_
  refine vw_block ?_
  (refine vw_go rfl ?_; simp only [bl, go_sem, setCells, setIn])
  (refine ⟨_, _, call_rx [0, 0] Tryz.func68 (rT) rfl rfl rfl rfl rfl rfl rfl (by simp [lendAll, lendC, seek, fresh, nav, rcells, RT.cells, VV.cells, tabE_cons, tabS_cons, ev, take_map_len, iRow_r1, iRow_clean, sRow_r1, sRow_comp, sRow_clean, bl]) rfl (by simp [rcells, RT.cells, CT.clean, T.clean, iRow_r1, iRow_clean, sRow_r1, sRow_comp, sRow_clean, bl]) rfl rfl, ?_⟩)
  cases tb
  · simp only [Bool.false_eq_true, if_false, if_true] at hR
    subst hR
    simp only [runH, runX, bl, go_sem, setCells, setIn]
    (refine vw_cond (t := true) rfl (fun _ => ?_) (fun h => nomatch h))
    (refine vw_go rfl ?_; simp only [go_sem, setCells, setIn])
    exact vw_ret (r_block (r_then (e_ret (ret_by rfl rfl (by simp [RB]) rfl (by simp only [takeCs, takeC, go_sem, setCells, setIn])))))
  have hne2 : ¬ (if fb = true then (0 : Int) else 4) = 2 := by split <;> decide
  simp only [if_true] at hR
  rw [if_neg hne2] at hR
  simp only [runH, runX, bl, go_sem, setCells, setIn]
  (refine vw_cond (t := false) rfl (fun h => nomatch h) (fun _ => ?_))
  (refine vw_drawA mixed rfl rfl ?_; intro A hAA)
  simp (maxSteps := 1000000) only [bl, go_sem, setCells, setIn, runW_step]
  (refine ⟨_, _, _, call_rx_at [0, 0] [0] Tryz.func56 (rI) rfl rfl rfl rfl rfl rfl rfl (fun st1 hst1 => by (try simp only [List.mem_cons, List.not_mem_nil, or_false, false_or, forall_eq_or_imp, forall_eq] at hst1); simp [lendAll, lendC, seek, fresh, nav, rcells, RT.cells, VV.cells, tabE_cons, tabS_cons, ev, take_map_len, hst1, iRow_r1, iRow_clean, sRow_r1, sRow_comp, sRow_clean, bl]) rfl (by simp [rcells, RT.cells, CT.clean, T.clean, iRow_r1, iRow_clean, sRow_r1, sRow_comp, sRow_clean, bl]) rfl rfl, ?_⟩)
  by_cases k7 : o.kind = 7
  · cases fb
    · rw [if_pos (by simp [k7])] at hR
      subst hR
      (unfold runX; simp (maxSteps := 1000000) only [bl, k7, go_sem, setCells, setIn, runW_step])
      refine ⟨by subst hAA; unfold allOk; kernel_rfl, ?_⟩
      (refine vw_cond (t := true) rfl (fun _ => ?_) (fun h => nomatch h))
      (refine vw_go rfl ?_; simp only [go_sem, setCells, setIn])
      refine vw_ret ?_
      repeat (first | refine r_then ?_ | refine r_block ?_)
      exact e_ret (ret_by rfl rfl (by simp [RB]) rfl (by simp only [takeCs, takeC, go_sem, setCells, setIn]))
    rw [if_neg (by simp [k7]), if_pos k7] at hR
    subst hR
    (unfold runX; simp (maxSteps := 1000000) only [bl, k7, go_sem, setCells, setIn, runW_step])
    refine ⟨by subst hAA; unfold allOk; kernel_rfl, ?_⟩
    (refine vw_cond (t := false) rfl (fun h => nomatch h) (fun _ => ?_))
    (refine vw_go rfl ?_; simp only [k7, go_sem, setCells, setIn])
    (refine vw_cond (t := true) rfl (fun _ => ?_) (fun h => nomatch h))
    (refine vw_go rfl ?_; simp only [bl, go_sem, setCells, setIn])
    (refine ⟨_, _, call_rx [0, 0] Tryz.func75 (rL) rfl rfl rfl rfl rfl rfl rfl (by simp [lendAll, lendC, seek, fresh, nav, rcells, RT.cells, VV.cells, tabE_cons, tabS_cons, ev, take_map_len, iRow_r1, iRow_clean, sRow_r1, sRow_comp, sRow_clean, bl]) rfl (by simp [rcells, RT.cells, CT.clean, T.clean, iRow_r1, iRow_clean, sRow_r1, sRow_comp, sRow_clean, bl]) rfl rfl, ?_⟩)
    simp only [runH, runX, bl, go_sem, setCells, setIn]
    refine vw_ret ?_
    repeat (first | refine r_then ?_ | refine r_block ?_)
    exact e_ret (ret_by rfl rfl (by simp [RB]) rfl (by simp only [takeCs, takeC, go_sem, setCells, setIn]))
  cases fb
  case true =>
    rw [if_pos (by simp [k7])] at hR
    subst hR
    (unfold runX; simp (maxSteps := 1000000) only [bl, k7, go_sem, setCells, setIn, runW_step])
    refine ⟨by subst hAA; unfold allOk; kernel_rfl, ?_⟩
    (refine vw_cond (t := true) rfl (fun _ => ?_) (fun h => nomatch h))
    (refine vw_go rfl ?_; simp only [go_sem, setCells, setIn])
    refine vw_ret ?_
    repeat (first | refine r_then ?_ | refine r_block ?_)
    exact e_ret (ret_by rfl rfl (by simp [RB]) rfl (by simp only [takeCs, takeC, go_sem, setCells, setIn]))
  rw [if_neg (by simp [k7]), if_neg k7] at hR
  have hz : ¬ o.path = ⟨#[]⟩ := fun h => nomatch hie h
  have hf0 : 0 ≤ fi := by
    rcases hth.1 rfl with h | h
    · exact absurd h hz
    · exact h
  obtain ⟨j, x, rfl, hx, hxp⟩ : ∃ (j : Nat) (x : It3), fi = (j : Int) ∧ l[j]? = some x ∧ x.1 = o.path := find_hit hfi hf0
  have hj := lt_of_getl hx
  have d0 : (0:Int) ≤ (j : Int) := by omega
  have d1 : (j : Int) < (l.length : Int) := by omega
  rw [Int.toNat_natCast] at hR
  (unfold runX; simp (maxSteps := 1000000) only [bl, k7, go_sem, setCells, setIn, runW_step])
  refine ⟨by subst hAA; unfold allOk; kernel_rfl, ?_⟩
  (refine vw_cond (t := false) rfl (fun h => nomatch h) (fun _ => ?_))
  (refine vw_go rfl ?_; simp only [k7, go_sem, setCells, setIn])
  (refine vw_cond (t := false) rfl (fun h => nomatch h) (fun _ => ?_))
  by_cases k4 : o.kind = 4
  · rw [if_pos k4] at hR
    have hdx : dataAt l j = x.2.2 := by unfold dataAt; rw [hx]
    rw [hdx] at hR
    subst hR
    (refine vw_go rfl ?_; simp only [k4, go_sem, setCells, setIn])
    (refine vw_cond (t := true) rfl (fun _ => ?_) (fun h => nomatch h))
    (refine vw_drawA mixed rfl rfl ?_; intro A hAA)
    simp (maxSteps := 1000000) only [bl, d0, d1, hj, Int.toNat_natCast, getD_map_of hx, iRow, List.length_map, go_sem, setCells, setIn, runW_step]
    refine ⟨by subst hAA; unfold allOk; kernel_rfl, ?_⟩
    refine vw_ret ?_
    repeat (first | refine r_then ?_ | refine r_block ?_)
    exact e_ret (ret_by rfl rfl (by simp [RB]) rfl (by simp only [takeCs, takeC, go_sem, setCells, setIn]))
  rw [if_neg k4] at hR
  have hpx : putAtL l j o.data = l.set j (x.1, x.2.1, o.data) := by unfold putAtL; rw [hx]
  rw [hpx] at hR
  subst hR
  have e5 : (l.map iRow).set j [T.str x.1, T.bool x.2.1, T.str o.data] = (l.set j (x.1, x.2.1, o.data)).map iRow := by rw [List.map_set]; rfl
  have e6 : List.take l.length ((l.set j (x.1, x.2.1, o.data)).map iRow) = (l.set j (x.1, x.2.1, o.data)).map iRow := List.take_of_length_le (by simp)
  have e7 : l.length ≤ (l.set j (x.1, x.2.1, o.data)).length := by simp
  (refine vw_go rfl ?_; simp only [k4, go_sem, setCells, setIn])
  (refine vw_cond (t := false) rfl (fun h => nomatch h) (fun _ => ?_))
  refine vw_skip (n_block (n_then ?_))
  (refine vw_go rfl ?_; simp only [bl, d0, d1, hj, Int.toNat_natCast, getD_map_of hx, iRow, e5, List.length_map, go_sem, setCells, setIn])
  (refine vw_go rfl ?_; simp only [go_sem, setCells, setIn])
  exact vw_ret (e_ret (ret_by rfl rfl (by simp [RB]) rfl (by simp only [takeCs, takeC, e6, e7, List.drop_zero, go_sem, setCells, setIn])))
end Go.Proofs.YtoenfbbadfcfpaaGreatDoor
namespace Go.Proofs.YtoenfbbadfcfpaaGreatDoor
open Go.VM Go
set_option maxRecDepth 100000
set_option linter.unusedSimpArgs false
set_option linter.unusedVariables false
attribute [-go_sem] runW_cons
attribute [local congr] vw_congr runV_congr runH_congr runW_congr runX_congr stuckV_congr stuckX_congr

set_option maxHeartbeats 2000000 in
theorem runs_11 (l : List It3) (hl : l.length ≤ 2 ^ 20) (hb : ∀ x ∈ l, x.1.size ≤ 2 ^ 20) (o : OpV) (hp : o.path.size ≤ 2 ^ 20) (ht : o.to.size ≤ 2 ^ 20) (R : Plain3) (hR : R = plainL l o) :
    Runs Tryz.prog 11 [.one (.v (.list false 3 (l.map iRow))), .agg [.v (.int .i64 o.kind), .v (.str o.path), .v (.str o.to), .v (.str o.data)]] [.one (.v (.list true 3 (R.1.map iRow))), .one (.v (.int .i64 R.2.1)), .one (.v (.str R.2.2))] [] := by
  refine runs_tab (tab := [(0, .c (.list false 3 (l.map iRow))), (1, .agg [.c (.int .i64 o.kind), .c (.str o.path), .c (.str o.to), .c (.str o.data)])]) (rts := []) (n := 55) (k := 5) Tryz.func11 rfl rfl (by simp) rfl (fun t => ?_) rfl ?_
  · rcases t with _ | _ | t <;> rfl
  unfold plainL at hR
  have bl : List.take l.length (l.map iRow) = l.map iRow := List.take_of_length_le (by simp)
  have rC := runs_34 l hl
  have rI := runs_25 l hb (by omega)
  have rO := runs_35 o hp ht
  (refine vw_go rfl ?_; simp only [go_sem, setCells, setIn])
  (refine vw_go rfl ?_; simp only [go_sem, setCells, setIn])
  (refine ⟨_, _, call_rx [0] Tryz.func34 (rC) rfl rfl rfl rfl rfl rfl rfl (by simp [lendAll, lendC, seek, fresh, nav, rcells, RT.cells, VV.cells, tabE_cons, tabS_cons, ev, take_map_len, iRow_r1, iRow_clean, sRow_r1, sRow_comp, sRow_clean]) rfl (by simp [rcells, RT.cells, CT.clean, T.clean, iRow_r1, iRow_clean, sRow_r1, sRow_comp, sRow_clean]) rfl rfl, ?_⟩)
  simp only [runH, runX, bl, go_sem, setCells, setIn]
  refine vw_seq ?_
  (refine vw_go rfl ?_; simp only [bl, go_sem, setCells, setIn])
  (refine ⟨_, _, call_rx [0] Tryz.func25 (rI) rfl rfl rfl rfl rfl rfl rfl (by simp [lendAll, lendC, seek, fresh, nav, rcells, RT.cells, VV.cells, tabE_cons, tabS_cons, ev, take_map_len, iRow_r1, iRow_clean, sRow_r1, sRow_comp, sRow_clean]) rfl (by simp [rcells, RT.cells, CT.clean, T.clean, iRow_r1, iRow_clean, sRow_r1, sRow_comp, sRow_clean]) rfl rfl, ?_⟩)
  cases hv : itemsOk l
  · rw [if_pos (.inl hv)] at hR
    subst hR
    (unfold runH; simp (maxSteps := 1000000) only [bl, hv, go_sem, setCells, setIn])
    (refine vw_cond (t := true) rfl (fun _ => ?_) (fun h => nomatch h))
    (refine vw_go rfl ?_; simp only [bl, go_sem, setCells, setIn])
    exact vw_ret (r_then (e_ret (ret_by rfl rfl (by simp [RB]) rfl (by simp only [takeCs, takeC, go_sem, setCells, setIn]))))
  obtain ⟨h11, h100⟩ := itemsOk_small hv
  (unfold runH; simp (maxSteps := 1000000) only [bl, hv, go_sem, setCells, setIn])
  (refine ⟨_, _, call_rx [0] Tryz.func35 (rO) rfl rfl rfl rfl rfl rfl rfl (by simp [lendAll, lendC, seek, fresh, nav, rcells, RT.cells, VV.cells, tabE_cons, tabS_cons, ev, take_map_len, iRow_r1, iRow_clean, sRow_r1, sRow_comp, sRow_clean]) rfl (by simp [rcells, RT.cells, CT.clean, T.clean, iRow_r1, iRow_clean, sRow_r1, sRow_comp, sRow_clean]) rfl rfl, ?_⟩)
  cases ho : opOk o
  · rw [if_pos (.inr ho)] at hR
    subst hR
    simp only [runH, runX, bl, ho, go_sem, setCells, setIn]
    (refine vw_cond (t := true) rfl (fun _ => ?_) (fun h => nomatch h))
    (refine vw_go rfl ?_; simp only [bl, go_sem, setCells, setIn])
    exact vw_ret (r_then (e_ret (ret_by rfl rfl (by simp [RB]) rfl (by simp only [takeCs, takeC, go_sem, setCells, setIn]))))
  rw [if_neg (by rw [hv, ho]; rintro (h | h) <;> cases h)] at hR
  obtain ⟨o1, o2, o3, o4, o5⟩ := opOk_small ho
  have hto : o.kind = 6 → pathOk o.to = true := fun h => by
    unfold opOk at ho
    simp only [Bool.and_eq_true, Bool.or_eq_true, decide_eq_true_eq] at ho
    rcases ho.2.2.2 with h2 | h2
    · exact absurd h h2
    · exact h2
  simp only [runH, runX, bl, ho, go_sem, setCells, setIn]
  (refine vw_cond (t := false) rfl (fun h => nomatch h) (fun _ => ?_))
  refine vw_skip (n_then ?_)
  (refine vw_go rfl ?_; simp only [go_sem, setCells, setIn])
  refine vw_seq ?_
  (refine vw_go rfl ?_; simp only [go_sem, setCells, setIn])
  refine vw_block ?_
  refine vw_seq ?_
  by_cases k12 : o.kind = 1 ∨ o.kind = 2
  · rw [if_pos k12] at hR
    have rN := runs_36 l h11 o (by omega) _ rfl
    generalize makeL l o = mk at rN hR
    obtain ⟨m1, m2⟩ := mk
    simp only at rN hR
    subst hR
    have bm : List.take m1.length (m1.map iRow) = m1.map iRow := List.take_of_length_le (by simp)
    by_cases k1 : o.kind = 1
    · have q1 : decide (o.kind = 1) = true := by simp [k1]
      (refine vw_go rfl ?_; simp only [q1, go_sem, setCells, setIn])
      refine vw_cond (t := true) rfl (fun _ => ?_) (fun h => nomatch h)
      refine vw_skip (n_then ?_)
      refine vw_cond (t := true) rfl (fun _ => ?_) (fun h => nomatch h)
      (refine vw_last rfl ?_; simp only [bl, List.drop_length, go_sem, setCells, setIn])
      (refine ⟨_, _, call_own [0, 0] [(66565, none)] Tryz.func36 (rN) rfl rfl rfl rfl rfl rfl rfl (by simp [takeCs, takeC, takeV, seek, fresh, nav, takenUp, rcells, RT.cells, VV.cells, tabE_cons, tabS_cons, ups_tab, ups_nil, ev, take_map_len, bl, iRow_r1, iRow_clean, List.drop_length]) rfl (by simp [rcells, RT.cells, CT.clean, T.clean, bl, iRow_r1, iRow_clean, List.drop_length]) rfl rfl, ?_⟩)
      simp only [runH, runX, bm, go_sem, setCells, setIn]
      refine (n_block (n_then ?_))
      (refine vw_go rfl ?_; simp only [bm, go_sem, setCells, setIn])
      refine vw_ret ?_
      repeat (first | refine r_then ?_ | refine r_block ?_)
      exact e_ret (ret_by rfl rfl (by simp [RB]) rfl (by simp only [takeCs, takeC, go_sem, setCells, setIn]))
    · have q1 : decide (o.kind = 1) = false := by simp [k1]
      have k2 : o.kind = 2 := by rcases k12 with h | h; exact absurd h k1; exact h
      have q2 : decide (o.kind = 2) = true := by simp [k2]
      (refine vw_go rfl ?_; simp only [q1, go_sem, setCells, setIn])
      (refine vw_cond (t := false) rfl (fun h => nomatch h) (fun _ => ?_))
      (refine vw_last rfl ?_; simp only [q2, go_sem, setCells, setIn])
      refine (n_then ?_)
      (refine vw_cond (t := true) rfl (fun _ => ?_) (fun h => nomatch h))
      (refine vw_last rfl ?_; simp only [bl, List.drop_length, go_sem, setCells, setIn])
      (refine ⟨_, _, call_own [0, 0] [(66565, none)] Tryz.func36 (rN) rfl rfl rfl rfl rfl rfl rfl (by simp [takeCs, takeC, takeV, seek, fresh, nav, takenUp, rcells, RT.cells, VV.cells, tabE_cons, tabS_cons, ups_tab, ups_nil, ev, take_map_len, bl, iRow_r1, iRow_clean, List.drop_length]) rfl (by simp [rcells, RT.cells, CT.clean, T.clean, bl, iRow_r1, iRow_clean, List.drop_length]) rfl rfl, ?_⟩)
      simp only [runH, runX, bm, go_sem, setCells, setIn]
      refine (n_block (n_then ?_))
      (refine vw_go rfl ?_; simp only [bm, go_sem, setCells, setIn])
      refine vw_ret ?_
      repeat (first | refine r_then ?_ | refine r_block ?_)
      exact e_ret (ret_by rfl rfl (by simp [RB]) rfl (by simp only [takeCs, takeC, go_sem, setCells, setIn]))
  rw [if_neg k12] at hR
  have k1 : ¬ o.kind = 1 := fun h => k12 (.inl h)
  have k2 : ¬ o.kind = 2 := fun h => k12 (.inr h)
  have q1 : decide (o.kind = 1) = false := by simp [k1]
  have q2 : decide (o.kind = 2) = false := by simp [k2]
  (refine vw_go rfl ?_; simp only [q1, go_sem, setCells, setIn])
  (refine vw_cond (t := false) rfl (fun h => nomatch h) (fun _ => ?_))
  (refine vw_last rfl ?_; simp only [q2, go_sem, setCells, setIn])
  refine (n_then ?_)
  (refine vw_cond (t := false) rfl (fun h => nomatch h) (fun _ => ?_))
  by_cases k5 : o.kind = 5
  · have q5 : decide (o.kind = 5) = true := by simp [k5]
    have hd : R = ((if foldF l o.path = 2 then (l, 2) else dropL l o).1, (if foldF l o.path = 2 then (l, 2) else dropL l o).2, ⟨#[]⟩) := by
      rw [hR]; unfold doL; rw [if_pos k5]; split <;> rfl
    have rD := runs_37 l hv o (by omega) _ rfl
    generalize (if foldF l o.path = 2 then (l, (2 : Int)) else dropL l o) = mk at rD hd
    obtain ⟨m1, m2⟩ := mk
    simp only at rD hd
    clear hR
    subst hd
    have bm : List.take m1.length (m1.map iRow) = m1.map iRow := List.take_of_length_le (by simp)
    (refine vw_go rfl ?_; simp only [q5, go_sem, setCells, setIn])
    (refine vw_cond (t := true) rfl (fun _ => ?_) (fun h => nomatch h))
    (refine vw_last rfl ?_; simp only [bl, List.drop_length, go_sem, setCells, setIn])
    (refine ⟨_, _, call_own [0, 0] [(66565, none)] Tryz.func37 (rD) rfl rfl rfl rfl rfl rfl rfl (by simp [takeCs, takeC, takeV, seek, fresh, nav, takenUp, rcells, RT.cells, VV.cells, tabE_cons, tabS_cons, ups_tab, ups_nil, ev, take_map_len, bl, iRow_r1, iRow_clean, List.drop_length]) rfl (by simp [rcells, RT.cells, CT.clean, T.clean, bl, iRow_r1, iRow_clean, List.drop_length]) rfl rfl, ?_⟩)
    simp only [runH, runX, bm, go_sem, setCells, setIn]
    refine (n_block (n_then ?_))
    (refine vw_go rfl ?_; simp only [bm, go_sem, setCells, setIn])
    refine vw_ret ?_
    repeat (first | refine r_then ?_ | refine r_block ?_)
    exact e_ret (ret_by rfl rfl (by simp [RB]) rfl (by simp only [takeCs, takeC, go_sem, setCells, setIn]))
  have q5 : decide (o.kind = 5) = false := by simp [k5]
  (refine vw_go rfl ?_; simp only [q5, go_sem, setCells, setIn])
  (refine vw_cond (t := false) rfl (fun h => nomatch h) (fun _ => ?_))
  by_cases k6 : o.kind = 6
  · have q6 : decide (o.kind = 6) = true := by simp [k6]
    have hd : R = ((if foldF l o.path = 2 then (l, 2) else moveL l o).1, (if foldF l o.path = 2 then (l, 2) else moveL l o).2, ⟨#[]⟩) := by
      rw [hR]; unfold doL; rw [if_neg k5, if_pos k6]; split <;> rfl
    have rD := runs_38 l hv o (by omega) (by have := o2 k6; omega) (hto k6) _ rfl
    generalize (if foldF l o.path = 2 then (l, (2 : Int)) else moveL l o) = mk at rD hd
    obtain ⟨m1, m2⟩ := mk
    simp only at rD hd
    clear hR
    subst hd
    have bm : List.take m1.length (m1.map iRow) = m1.map iRow := List.take_of_length_le (by simp)
    (refine vw_go rfl ?_; simp only [q6, go_sem, setCells, setIn])
    (refine vw_cond (t := true) rfl (fun _ => ?_) (fun h => nomatch h))
    (refine vw_last rfl ?_; simp only [bl, List.drop_length, go_sem, setCells, setIn])
    (refine ⟨_, _, call_own [0, 0] [(66565, none)] Tryz.func38 (rD) rfl rfl rfl rfl rfl rfl rfl (by simp [takeCs, takeC, takeV, seek, fresh, nav, takenUp, rcells, RT.cells, VV.cells, tabE_cons, tabS_cons, ups_tab, ups_nil, ev, take_map_len, bl, iRow_r1, iRow_clean, List.drop_length]) rfl (by simp [rcells, RT.cells, CT.clean, T.clean, bl, iRow_r1, iRow_clean, List.drop_length]) rfl rfl, ?_⟩)
    simp only [runH, runX, bm, go_sem, setCells, setIn]
    refine (n_block (n_then ?_))
    (refine vw_go rfl ?_; simp only [bm, go_sem, setCells, setIn])
    refine vw_ret ?_
    repeat (first | refine r_then ?_ | refine r_block ?_)
    exact e_ret (ret_by rfl rfl (by simp [RB]) rfl (by simp only [takeCs, takeC, go_sem, setCells, setIn]))
  have q6 : decide (o.kind = 6) = false := by simp [k6]
  have rD := runs_39 l hv o (by omega) k5 k6 _ rfl
  rw [← hR] at rD
  clear hR
  obtain ⟨d1, d2, d3⟩ := R
  simp only at rD
  have bd : List.take d1.length (d1.map iRow) = d1.map iRow := List.take_of_length_le (by simp)
  (refine vw_go rfl ?_; simp only [q6, go_sem, setCells, setIn])
  (refine vw_cond (t := false) rfl (fun h => nomatch h) (fun _ => ?_))
  (refine vw_go rfl ?_; simp only [bl, List.drop_length, go_sem, setCells, setIn])
  (refine ⟨_, _, call_own [0, 0] [(66565, none)] Tryz.func39 (rD) rfl rfl rfl rfl rfl rfl rfl (by simp [takeCs, takeC, takeV, seek, fresh, nav, takenUp, rcells, RT.cells, VV.cells, tabE_cons, tabS_cons, ups_tab, ups_nil, ev, take_map_len, bl, iRow_r1, iRow_clean, List.drop_length]) rfl (by simp [rcells, RT.cells, CT.clean, T.clean, bl, iRow_r1, iRow_clean, List.drop_length]) rfl rfl, ?_⟩)
  simp only [runH, runX, bd, go_sem, setCells, setIn]
  refine vw_ret ?_
  repeat (first | refine r_then ?_ | refine r_block ?_)
  exact e_ret (ret_by rfl rfl (by simp [RB]) rfl (by simp only [takeCs, takeC, go_sem, setCells, setIn]))
end Go.Proofs.YtoenfbbadfcfpaaGreatDoor
namespace Go.Proofs.YtoenfbbadfcfpaaGreatDoor
open Go.VM Go
set_option maxRecDepth 100000
set_option linter.unusedSimpArgs false
set_option linter.unusedVariables false
attribute [-go_sem] runW_cons
attribute [local congr] vw_congr runV_congr runH_congr runW_congr runX_congr stuckV_congr stuckX_congr

theorem runs_17 (L : List UInt8) (hL : L.length < 2 ^ 60) (l : List ByteArray) (hl : l = (drawV L (newC L)).1) :
    Runs Tryz.prog 17 [.one (.v (.list false 1 (L.map bRow)))] [.one (.v (.list true 1 (l.map sRow)))] [] := by
  refine runs_hold (fun v => ?_)
  refine runs_tab (tab := [(0, .c (.held v 1 (L.map bRow)))]) (rts := []) (n := 6) (k := 1) Tryz.func17 rfl rfl (by simp) rfl (fun t => ?_) rfl ?_
  · rcases t with _ | t <;> rfl
  have rN := runs_45 v L hL _ rfl
  generalize newC L = c at rN hl
  have rP := runs_44 v L hL c l (drawV L c).2 (by rw [hl])
  have bl : List.take l.length (l.map sRow) = l.map sRow := List.take_of_length_le (by simp)
  (refine vw_go rfl ?_; simp only [go_sem, setCells, setIn])
  (refine vw_go rfl ?_; simp only [go_sem, setCells, setIn])
  (refine ⟨_, _, call_fine [0] Tryz.func45 (rN) rfl rfl rfl rfl rfl rfl rfl (by simp [lendAll, lendC, seek, fresh, nav, rcells, RT.cells, VV.cells, tabE_cons, tabS_cons, ev, take_map_len]) rfl (by simp [rcells, RT.cells, CT.fine, fineR, T.fine, Known, VV.cells, ev, tabE_cons]) rfl rfl, ?_⟩)
  simp only [runH, runX, go_sem, setCells, setIn]
  (refine ⟨_, _, call_pt [0] 66561 Tryz.func44 (rP) rfl rfl rfl rfl rfl rfl rfl rfl (by simp [lendAll, lendC, seek, fresh, nav, rcells, RT.cells, VV.cells, tabE_cons, tabS_cons, St.put, ev, lit, take_map_len, sRow_r1, sRow_comp, sRow_clean, iRow_r1, iRow_clean, take_map_len, lit, sRow_fine]) rfl rfl (by simp [rcells, RT.cells, CT.fine, T.fine, sRow_r1, sRow_comp, sRow_clean, iRow_r1, iRow_clean, take_map_len, lit, sRow_fine]) (by exact ⟨.inr ⟨66561, _, _, rfl, .head _, .head _⟩, trivial, trivial, trivial⟩) rfl rfl, ?_⟩)
  simp only [runH, runX, go_sem, setCells, setIn]
  exact vw_ret (e_ret (ret_by rfl rfl (by simp [RB]) rfl (by simp only [takeCs, takeC, go_sem, setCells, setIn])))

set_option maxHeartbeats 2000000 in
theorem runs_4 (L : List UInt8) (hL63 : L.length < 2 ^ 63) : Runs Tryz.prog 4 [.one (.v (.list false 1 (L.map bRow)))] [.one (.v (.bool true))] [] := by
  refine runs_tab (tab := [(0, .c (.list false 1 (L.map bRow)))]) (rts := []) (n := 106) (k := 1) Tryz.func4 rfl rfl (by simp) rfl (fun t => ?_) rfl ?_
  · rcases t with _ | t <;> rfl
  have rB := runs_15 L hL63
  by_cases hbig : 1048576 < (L.length : Int)
  · rw [decide_eq_true hbig] at rB
    (refine vw_go rfl ?_; simp only [go_sem, setCells, setIn])
    refine vw_seq ?_
    (refine vw_go rfl ?_; simp only [go_sem, setCells, setIn])
    (refine ⟨_, _, call_rx [0] Tryz.func15 (rB) rfl rfl rfl rfl rfl rfl rfl (by simp [lendAll, lendC, seek, fresh, nav, rcells, RT.cells, VV.cells, tabE_cons, tabS_cons, ev, take_map_len, sRow_r1, sRow_comp, sRow_clean, iRow_r1, iRow_clean, take_map_len, lit]) rfl (by simp [rcells, RT.cells, CT.clean, T.clean, sRow_r1, sRow_comp, sRow_clean, iRow_r1, iRow_clean, take_map_len, lit]) rfl rfl, ?_⟩)
    simp only [runH, runX, go_sem, setCells, setIn]
    (refine vw_cond (t := true) rfl (fun _ => ?_) (fun h => nomatch h))
    (refine vw_go rfl ?_; simp only [go_sem, setCells, setIn])
    exact vw_ret (r_then (e_ret (ret_of rfl rfl (by simp [RB]) rfl rfl)))
  have hL : L.length < 2 ^ 60 := by omega
  rw [decide_eq_false hbig] at rB
  have hfit := drawV_fit L (newC L)
  have hcl := drawV_cl L (newC L)
  have rD := runs_17 L hL _ rfl
  generalize (drawV L (newC L)).1 = v at rD hfit hcl
  obtain ⟨f1, f2⟩ := hfit
  have hvl : v.length < 2 ^ 60 := by omega
  have hvs : ∀ s ∈ v, s.size ≤ 2 ^ 20 := fun s hs => Nat.le_trans (f2 s hs) (by decide)
  have rIi := runs_16 v hvl hvs
  have rIs := runs_18 v hvl hvs
  have hN := itemsOk_N (vol_items (l := v))
  have hC := itemsV_cl hcl
  generalize itemsV v = l at rIi rIs hN hC
  have h1 := plainL_ok hN ⟨1, newB, ⟨#[]⟩, ⟨#[]⟩⟩
  have r1 := runs_11 l (okN_small hN).1 (okN_small hN).2 ⟨1, newB, ⟨#[]⟩, ⟨#[]⟩⟩ (by decide) (by decide) _ rfl
  have h2 := plainL_ok h1 ⟨3, newB, ⟨#[]⟩, dataB⟩
  have r2 := runs_11 _ (okN_small h1).1 (okN_small h1).2 ⟨3, newB, ⟨#[]⟩, dataB⟩ (by decide) (by decide) _ rfl
  have r3 := runs_11 _ (okN_small h2).1 (okN_small h2).2 ⟨4, newB, ⟨#[]⟩, ⟨#[]⟩⟩ (by decide) (by decide) _ rfl
  have h3 := plainL_ok h2 ⟨4, newB, ⟨#[]⟩, ⟨#[]⟩⟩
  have h4 := plainL_ok h2 ⟨6, newB, otherB, ⟨#[]⟩⟩
  have r4 := runs_11 _ (okN_small h2).1 (okN_small h2).2 ⟨6, newB, otherB, ⟨#[]⟩⟩ (by decide) (by decide) _ rfl
  have h5 := plainL_ok h4 ⟨6, otherB, newB, ⟨#[]⟩⟩
  have r5 := runs_11 _ (okN_small h4).1 (okN_small h4).2 ⟨6, otherB, newB, ⟨#[]⟩⟩ (by decide) (by decide) _ rfl
  have h6 := plainL_ok h5 ⟨5, newB, ⟨#[]⟩, ⟨#[]⟩⟩
  have r6 := runs_11 _ (okN_small h5).1 (okN_small h5).2 ⟨5, newB, ⟨#[]⟩, ⟨#[]⟩⟩ (by decide) (by decide) _ rfl
  have hlaw : ((plainL l ⟨1, newB, ⟨#[]⟩, ⟨#[]⟩⟩).2.1 = 5 ∧ l.length = 11) ∨ ((plainL l ⟨1, newB, ⟨#[]⟩, ⟨#[]⟩⟩).2.1 = 0 ∧ (plainL (plainL l ⟨1, newB, ⟨#[]⟩, ⟨#[]⟩⟩).1 ⟨3, newB, ⟨#[]⟩, dataB⟩).2.1 = 0 ∧
      (plainL (plainL (plainL l ⟨1, newB, ⟨#[]⟩, ⟨#[]⟩⟩).1 ⟨3, newB, ⟨#[]⟩, dataB⟩).1 ⟨4, newB, ⟨#[]⟩, ⟨#[]⟩⟩).2 = (0, dataB) ∧
      sameB (plainL (plainL l ⟨1, newB, ⟨#[]⟩, ⟨#[]⟩⟩).1 ⟨3, newB, ⟨#[]⟩, dataB⟩).1 (plainL (plainL (plainL (plainL l ⟨1, newB, ⟨#[]⟩, ⟨#[]⟩⟩).1 ⟨3, newB, ⟨#[]⟩, dataB⟩).1 ⟨6, newB, otherB, ⟨#[]⟩⟩).1 ⟨6, otherB, newB, ⟨#[]⟩⟩).1 = true ∧
      sameB (plainL (plainL (plainL (plainL (plainL l ⟨1, newB, ⟨#[]⟩, ⟨#[]⟩⟩).1 ⟨3, newB, ⟨#[]⟩, dataB⟩).1 ⟨6, newB, otherB, ⟨#[]⟩⟩).1 ⟨6, otherB, newB, ⟨#[]⟩⟩).1 ⟨5, newB, ⟨#[]⟩, ⟨#[]⟩⟩).1 l = true) := by
    by_cases hl : l.length = 11
    · exact .inl ⟨by rw [undone_full hN hC hl], hl⟩
    · obtain ⟨e1, e2, e3, e4, e5, e6⟩ := undone_law hN hC hl
      refine .inr ⟨?_, ?_, ?_, ?_, ?_⟩
      · rw [e1]
      · rw [e1, e2]
      · rw [e1, e2, e3]
      · rw [e1, e2, e4, e5]; exact same_refl _
      · rw [e1, e2, e4, e5, e6]; exact same_refl _
  generalize plainL l ⟨1, newB, ⟨#[]⟩, ⟨#[]⟩⟩ = P1 at h1 r1 h2 r2 r3 h3 h4 r4 h5 r5 h6 r6 hlaw
  obtain ⟨A, c1, t1⟩ := P1
  simp only at h1 r1 h2 r2 r3 h3 h4 r4 h5 r5 h6 r6 hlaw
  generalize plainL A ⟨3, newB, ⟨#[]⟩, dataB⟩ = P2 at h2 r2 r3 h3 h4 r4 h5 r5 h6 r6 hlaw
  obtain ⟨B, c2, t2⟩ := P2
  simp only at h2 r2 r3 h3 h4 r4 h5 r5 h6 r6 hlaw
  generalize plainL B ⟨4, newB, ⟨#[]⟩, ⟨#[]⟩⟩ = P3 at r3 h3 hlaw
  obtain ⟨B3, c3, t3⟩ := P3
  simp only at r3 h3 hlaw
  generalize plainL B ⟨6, newB, otherB, ⟨#[]⟩⟩ = P4 at h4 r4 h5 r5 h6 r6 hlaw
  obtain ⟨C, c4, t4⟩ := P4
  simp only at h4 r4 h5 r5 h6 r6 hlaw
  generalize plainL C ⟨6, otherB, newB, ⟨#[]⟩⟩ = P5 at h5 r5 h6 r6 hlaw
  obtain ⟨D, c5, t5⟩ := P5
  simp only at h5 r5 h6 r6 hlaw
  generalize plainL D ⟨5, newB, ⟨#[]⟩, ⟨#[]⟩⟩ = P6 at h6 r6 hlaw
  obtain ⟨F, c6, t6⟩ := P6
  simp only at h6 r6 hlaw
  unfold newB at r1 r2 r3 r4 r5 r6
  unfold otherB at r4 r5
  unfold dataB at r2 hlaw
  have ll : l.length < 2 ^ 63 := by have := hN.len; omega
  have rS1 := runs_19 l l ll ll
  rw [same_refl] at rS1
  have rS2 := runs_19 B D (by have := h2.len; omega) (by have := h5.len; omega)
  have rS3 := runs_19 F l (by have := h6.len; omega) ll
  have bv : List.take v.length (v.map sRow) = v.map sRow := List.take_of_length_le (by simp)
  have bl : List.take l.length (l.map iRow) = l.map iRow := List.take_of_length_le (by simp)
  have bA : List.take A.length (A.map iRow) = A.map iRow := List.take_of_length_le (by simp)
  have bB : List.take B.length (B.map iRow) = B.map iRow := List.take_of_length_le (by simp)
  have b3 : List.take B3.length (B3.map iRow) = B3.map iRow := List.take_of_length_le (by simp)
  have bC : List.take C.length (C.map iRow) = C.map iRow := List.take_of_length_le (by simp)
  have bD : List.take D.length (D.map iRow) = D.map iRow := List.take_of_length_le (by simp)
  have bF : List.take F.length (F.map iRow) = F.map iRow := List.take_of_length_le (by simp)
  (refine vw_go rfl ?_; simp only [go_sem, setCells, setIn])
  refine vw_seq ?_
  (refine vw_go rfl ?_; simp only [go_sem, setCells, setIn])
  (refine ⟨_, _, call_rx [0] Tryz.func15 (rB) rfl rfl rfl rfl rfl rfl rfl (by simp [lendAll, lendC, seek, fresh, nav, rcells, RT.cells, VV.cells, tabE_cons, tabS_cons, ev, take_map_len, sRow_r1, sRow_comp, sRow_clean, iRow_r1, iRow_clean, take_map_len, lit]) rfl (by simp [rcells, RT.cells, CT.clean, T.clean, sRow_r1, sRow_comp, sRow_clean, iRow_r1, iRow_clean, take_map_len, lit]) rfl rfl, ?_⟩)
  simp only [runH, runX, go_sem, setCells, setIn]
  (refine vw_cond (t := false) rfl (fun h => nomatch h) (fun _ => ?_))
  refine vw_skip (n_then ?_)
  (refine vw_go rfl ?_; simp only [go_sem, setCells, setIn])
  (refine ⟨_, _, call_rx [0] Tryz.func17 (rD) rfl rfl rfl rfl rfl rfl rfl (by simp [lendAll, lendC, seek, fresh, nav, rcells, RT.cells, VV.cells, tabE_cons, tabS_cons, ev, take_map_len, sRow_r1, sRow_comp, sRow_clean, iRow_r1, iRow_clean, take_map_len, lit]) rfl (by simp [rcells, RT.cells, CT.clean, T.clean, sRow_r1, sRow_comp, sRow_clean, iRow_r1, iRow_clean, take_map_len, lit]) rfl rfl, ?_⟩)
  simp only [runH, runX, bv, go_sem, setCells, setIn]
  (refine ⟨_, _, call_rx [0] Tryz.func16 (rIi) rfl rfl rfl rfl rfl rfl rfl (by simp [lendAll, lendC, seek, fresh, nav, rcells, RT.cells, VV.cells, tabE_cons, tabS_cons, ev, take_map_len, sRow_r1, sRow_comp, sRow_clean, iRow_r1, iRow_clean, take_map_len, lit, bv]) rfl (by simp [rcells, RT.cells, CT.clean, T.clean, sRow_r1, sRow_comp, sRow_clean, iRow_r1, iRow_clean, take_map_len, lit, bv]) rfl rfl, ?_⟩)
  simp only [runH, runX, bv, bl, go_sem, setCells, setIn]
  (refine vw_go rfl ?_; simp only [bl, go_sem, setCells, setIn])
  (refine ⟨_, _, call_rx [0] Tryz.func17 (rD) rfl rfl rfl rfl rfl rfl rfl (by simp [lendAll, lendC, seek, fresh, nav, rcells, RT.cells, VV.cells, tabE_cons, tabS_cons, ev, take_map_len, sRow_r1, sRow_comp, sRow_clean, iRow_r1, iRow_clean, take_map_len, lit]) rfl (by simp [rcells, RT.cells, CT.clean, T.clean, sRow_r1, sRow_comp, sRow_clean, iRow_r1, iRow_clean, take_map_len, lit]) rfl rfl, ?_⟩)
  simp only [runH, runX, bv, bl, go_sem, setCells, setIn]
  (refine ⟨_, _, call_rx [0] Tryz.func18 (rIs) rfl rfl rfl rfl rfl rfl rfl (by simp [lendAll, lendC, seek, fresh, nav, rcells, RT.cells, VV.cells, tabE_cons, tabS_cons, ev, take_map_len, sRow_r1, sRow_comp, sRow_clean, iRow_r1, iRow_clean, take_map_len, lit, bv]) rfl (by simp [rcells, RT.cells, CT.clean, T.clean, sRow_r1, sRow_comp, sRow_clean, iRow_r1, iRow_clean, take_map_len, lit, bv]) rfl rfl, ?_⟩)
  simp only [runH, runX, bv, bl, go_sem, setCells, setIn]
  refine vw_seq ?_
  (refine vw_go rfl ?_; simp only [bl, go_sem, setCells, setIn])
  (refine ⟨_, _, call_rx [0, 0] Tryz.func19 (rS1) rfl rfl rfl rfl rfl rfl rfl (by simp [lendAll, lendC, seek, fresh, nav, rcells, RT.cells, VV.cells, tabE_cons, tabS_cons, ev, take_map_len, sRow_r1, sRow_comp, sRow_clean, iRow_r1, iRow_clean, take_map_len, lit, bl]) rfl (by simp [rcells, RT.cells, CT.clean, T.clean, sRow_r1, sRow_comp, sRow_clean, iRow_r1, iRow_clean, take_map_len, lit, bl]) rfl rfl, ?_⟩)
  simp only [runH, runX, bl, go_sem, setCells, setIn]
  (refine vw_cond (t := false) rfl (fun h => nomatch h) (fun _ => ?_))
  refine vw_skip (n_then ?_)
  (refine vw_go rfl ?_; simp only [bl, go_sem, setCells, setIn])
  (refine ⟨_, _, call_rx [0, 0] Tryz.func11 (r1) rfl rfl rfl rfl rfl rfl rfl (by simp [lendAll, lendC, seek, fresh, nav, rcells, RT.cells, VV.cells, tabE_cons, tabS_cons, ev, take_map_len, sRow_r1, sRow_comp, sRow_clean, iRow_r1, iRow_clean, take_map_len, lit, bl]) rfl (by simp [rcells, RT.cells, CT.clean, T.clean, sRow_r1, sRow_comp, sRow_clean, iRow_r1, iRow_clean, take_map_len, lit, bl]) rfl rfl, ?_⟩)
  simp only [runH, runX, bl, bA, go_sem, setCells, setIn]
  (refine vw_go rfl ?_; simp only [bA, go_sem, setCells, setIn])
  (refine ⟨_, _, call_rx [0, 0] Tryz.func11 (r2) rfl rfl rfl rfl rfl rfl rfl (by simp [lendAll, lendC, seek, fresh, nav, rcells, RT.cells, VV.cells, tabE_cons, tabS_cons, ev, take_map_len, sRow_r1, sRow_comp, sRow_clean, iRow_r1, iRow_clean, take_map_len, lit, bA]) rfl (by simp [rcells, RT.cells, CT.clean, T.clean, sRow_r1, sRow_comp, sRow_clean, iRow_r1, iRow_clean, take_map_len, lit, bA]) rfl rfl, ?_⟩)
  simp only [runH, runX, bl, bA, bB, go_sem, setCells, setIn]
  (refine vw_go rfl ?_; simp only [bB, go_sem, setCells, setIn])
  (refine ⟨_, _, call_rx [0, 0] Tryz.func11 (r3) rfl rfl rfl rfl rfl rfl rfl (by simp [lendAll, lendC, seek, fresh, nav, rcells, RT.cells, VV.cells, tabE_cons, tabS_cons, ev, take_map_len, sRow_r1, sRow_comp, sRow_clean, iRow_r1, iRow_clean, take_map_len, lit, bB]) rfl (by simp [rcells, RT.cells, CT.clean, T.clean, sRow_r1, sRow_comp, sRow_clean, iRow_r1, iRow_clean, take_map_len, lit, bB]) rfl rfl, ?_⟩)
  simp only [runH, runX, bl, bB, b3, go_sem, setCells, setIn]
  (refine vw_go rfl ?_; simp only [bB, go_sem, setCells, setIn])
  (refine ⟨_, _, call_rx [0, 0] Tryz.func11 (r4) rfl rfl rfl rfl rfl rfl rfl (by simp [lendAll, lendC, seek, fresh, nav, rcells, RT.cells, VV.cells, tabE_cons, tabS_cons, ev, take_map_len, sRow_r1, sRow_comp, sRow_clean, iRow_r1, iRow_clean, take_map_len, lit, bB]) rfl (by simp [rcells, RT.cells, CT.clean, T.clean, sRow_r1, sRow_comp, sRow_clean, iRow_r1, iRow_clean, take_map_len, lit, bB]) rfl rfl, ?_⟩)
  simp only [runH, runX, bl, bB, bC, go_sem, setCells, setIn]
  (refine vw_go rfl ?_; simp only [bC, go_sem, setCells, setIn])
  (refine ⟨_, _, call_rx [0, 0] Tryz.func11 (r5) rfl rfl rfl rfl rfl rfl rfl (by simp [lendAll, lendC, seek, fresh, nav, rcells, RT.cells, VV.cells, tabE_cons, tabS_cons, ev, take_map_len, sRow_r1, sRow_comp, sRow_clean, iRow_r1, iRow_clean, take_map_len, lit, bC]) rfl (by simp [rcells, RT.cells, CT.clean, T.clean, sRow_r1, sRow_comp, sRow_clean, iRow_r1, iRow_clean, take_map_len, lit, bC]) rfl rfl, ?_⟩)
  simp only [runH, runX, bl, bC, bD, go_sem, setCells, setIn]
  (refine vw_go rfl ?_; simp only [bD, go_sem, setCells, setIn])
  (refine ⟨_, _, call_rx [0, 0] Tryz.func11 (r6) rfl rfl rfl rfl rfl rfl rfl (by simp [lendAll, lendC, seek, fresh, nav, rcells, RT.cells, VV.cells, tabE_cons, tabS_cons, ev, take_map_len, sRow_r1, sRow_comp, sRow_clean, iRow_r1, iRow_clean, take_map_len, lit, bD]) rfl (by simp [rcells, RT.cells, CT.clean, T.clean, sRow_r1, sRow_comp, sRow_clean, iRow_r1, iRow_clean, take_map_len, lit, bD]) rfl rfl, ?_⟩)
  simp only [runH, runX, bl, bD, bF, go_sem, setCells, setIn]
  refine vw_seq ?_
  rcases hlaw with ⟨rfl, hl⟩ | ⟨rfl, rfl, e3, s1, s2⟩
  · (refine vw_go rfl ?_; simp only [go_sem, setCells, setIn])
    refine vw_cond (t := true) rfl (fun h => ?_) (fun h => ?_)
    case refine_2 => cases h
    have hl2 : (l.length : Int) = 11 := by omega
    (refine vw_go rfl ?_; simp only [bl, hl2, go_sem, setCells, setIn])
    exact vw_ret (r_then (e_ret (ret_by rfl rfl (by simp [RB]) rfl (by simp only [takeCs, takeC, go_sem, setCells, setIn]))))
  · obtain ⟨rfl, rfl⟩ : c3 = 0 ∧ t3 = ⟨#[100, 97, 116, 97]⟩ := by simpa using e3
    rw [s1] at rS2
    rw [s2] at rS3
    (refine vw_go rfl ?_; simp only [go_sem, setCells, setIn])
    refine vw_cond (t := false) rfl (fun h => ?_) (fun h => ?_)
    · cases h
    refine vw_skip (n_then ?_)
    (refine vw_go rfl ?_; simp only [go_sem, setCells, setIn])
    (refine ⟨_, _, call_rx [0, 0] Tryz.func19 (rS2) rfl rfl rfl rfl rfl rfl rfl (by simp [lendAll, lendC, seek, fresh, nav, rcells, RT.cells, VV.cells, tabE_cons, tabS_cons, ev, take_map_len, sRow_r1, sRow_comp, sRow_clean, iRow_r1, iRow_clean, take_map_len, lit, bB, bD]) rfl (by simp [rcells, RT.cells, CT.clean, T.clean, sRow_r1, sRow_comp, sRow_clean, iRow_r1, iRow_clean, take_map_len, lit, bB, bD]) rfl rfl, ?_⟩)
    simp only [runH, runX, bl, bF, go_sem, setCells, setIn]
    (refine ⟨_, _, call_rx [0, 0] Tryz.func19 (rS3) rfl rfl rfl rfl rfl rfl rfl (by simp [lendAll, lendC, seek, fresh, nav, rcells, RT.cells, VV.cells, tabE_cons, tabS_cons, ev, take_map_len, sRow_r1, sRow_comp, sRow_clean, iRow_r1, iRow_clean, take_map_len, lit, bl, bF]) rfl (by simp [rcells, RT.cells, CT.clean, T.clean, sRow_r1, sRow_comp, sRow_clean, iRow_r1, iRow_clean, take_map_len, lit, bl, bF]) rfl rfl, ?_⟩)
    simp only [runH, runX, go_sem, setCells, setIn]
    exact vw_ret (e_ret (ret_by rfl rfl (by simp [RB]) rfl (by simp only [takeCs, takeC, go_sem, setCells, setIn])))
end Go.Proofs.YtoenfbbadfcfpaaGreatDoor
