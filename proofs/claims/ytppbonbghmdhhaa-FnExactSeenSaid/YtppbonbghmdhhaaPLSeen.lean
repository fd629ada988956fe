/- The law FnExactSeen. -/
import Derived.Test.YtppbonbghmdhhaaPFSeen
import Derived.Test.YtppbonbghmdhhaaPLPorts
namespace Go.Proofs.Ytppbonbghmdhhaa
open Go.VM Go
set_option maxRecDepth 100000
set_option linter.unusedSimpArgs false
set_option linter.unusedVariables false
attribute [local congr] vw_congr runV_congr runH_congr runW_congr runX_congr

set_option maxHeartbeats 2000000 in
theorem runs_5 (x : SysV) (hx : x.ok) (who : Int) : Runs Try.prog 5 [.agg [.v (.list false 1 (x.ftl.pages.map sRow)), .v (.list false 1 (x.ftl.wear.map nRow)), .v (.list false 1 (x.ftl.map.map nRow)), .v (.int .i64 x.ftl.seq), .v (.list false 4 (x.parts.map partRow)), .v (.list false 2 (x.ports.map portRow)), .v (.int .i64 x.tick)], .one (.v (.int .i64 who))] [.one (.v (.bool true))] [] := by
  refine runs_tab (tab := [(0, .agg [.c (.list false 1 (x.ftl.pages.map sRow)), .c (.list false 1 (x.ftl.wear.map nRow)), .c (.list false 1 (x.ftl.map.map nRow)), .c (.int .i64 x.ftl.seq), .c (.list false 4 (x.parts.map partRow)), .c (.list false 2 (x.ports.map portRow)), .c (.int .i64 x.tick)]), (1, .c (.int .i64 who))]) (rts := []) (n := 74) (k := 8) Try.func5 rfl rfl (by simp) rfl (fun t => ?_) rfl ?_
  · rcases t with _ | _ | t <;> rfl
  have rz := runs_24 x 1048576 hx (by decide) (by decide)
  have qp : (x.ftl.pages.map sRow).take x.ftl.pages.length = x.ftl.pages.map sRow := by rw [List.take_of_length_le (by simp)]
  have qw : (x.ftl.wear.map nRow).take x.ftl.wear.length = x.ftl.wear.map nRow := by rw [List.take_of_length_le (by simp)]
  have qm : (x.ftl.map.map nRow).take x.ftl.map.length = x.ftl.map.map nRow := by rw [List.take_of_length_le (by simp)]
  have qa : (x.parts.map partRowO).take x.parts.length = x.parts.map partRowO := by rw [List.take_of_length_le (by simp)]
  have qb : (x.ports.map portRowO).take x.ports.length = x.ports.map portRowO := by rw [List.take_of_length_le (by simp)]
  have qa2 : (x.parts.map partRow).take x.parts.length = x.parts.map partRow := by rw [List.take_of_length_le (by simp)]
  have qb2 : (x.ports.map portRow).take x.ports.length = x.ports.map portRow := by rw [List.take_of_length_le (by simp)]
  (refine vw_go rfl ?_; simp only [go_sem, setCells, setIn])
  (refine vw_go rfl ?_; simp only [go_sem, setCells, setIn])
  (refine vw_go rfl ?_; simp only [go_sem, setCells, setIn])
  (refine ⟨_, _, call_rx [0, 0] Try.func24 (rz) rfl rfl rfl rfl rfl rfl rfl (by simp [lendAll, lendC, seek, fresh, nav, rcells, RT.cells, VV.cells, tabE_cons, tabS_cons, ev, take_map_len, sRow_r1, sRow_comp, sRow_clean, nRow_r1, nRow_comp, nRow_clean, partRow_r1, partRow_comp, partRowO_r1, partRowO_comp, partRowO_clean, portRow_r1, portRow_comp, portRowO_r1, portRowO_comp, portRowO_clean, tellRow_r1, tellRow_clean, qp, qw, qm, qa, qb, qa2, qb2]) rfl (by simp [rcells, RT.cells, CT.clean, T.clean, sRow_r1, sRow_comp, sRow_clean, nRow_r1, nRow_comp, nRow_clean, partRow_r1, partRow_comp, partRowO_r1, partRowO_comp, partRowO_clean, portRow_r1, portRow_comp, portRowO_r1, portRowO_comp, portRowO_clean, tellRow_r1, tellRow_clean, qp, qw, qm, qa, qb, qa2, qb2]) rfl rfl, ?_⟩)
  simp only [runH, runX, go_sem, setCells, setIn]
  refine vw_seq ?_
  by_cases h : szSystem x 1048576 < 0
  · (refine vw_go rfl ?_; simp only [h, go_sem, setCells, setIn])
    (refine vw_cond (t := true) rfl (fun _ => ?_) (fun h => nomatch h))
    (refine vw_go rfl ?_; simp only [go_sem, setCells, setIn])
    exact vw_ret (r_then (e_ret (ret_of rfl rfl (by simp [RB]) rfl rfl)))
  have hs := szSystem_small h
  have rt := runs_26 x hs
  have r1 := runs_25 x who hs.nparts (fun y hy => (hs.parts y hy).2)
  have r2 := runs_27 x who hs.nparts (fun y hy => (hs.parts y hy).2)
  have hD : (seenF x who).length ≤ 2 ^ 20 := by
    unfold seenF
    split
    · rcases Nat.lt_or_ge who.toNat x.parts.length with g | g
      · rw [List.getD_eq_getElem?_getD, List.getElem?_eq_getElem g]
        exact (hs.parts _ (List.getElem_mem g)).2
      · rw [List.getD_eq_getElem?_getD, List.getElem?_eq_none g]; exact Nat.zero_le _
    · exact Nat.zero_le _
  generalize seenF x who = D at r1 r2 hD
  have re := runs_29 x x hs hs hx hx
  rw [decide_eq_true (rfl : x = x)] at re
  have rE := runs_28 D D (by omega) (by omega)
  have bd : List.take D.length (D.map tellRow) = D.map tellRow := List.take_of_length_le (by simp)
  (refine vw_go rfl ?_; simp only [h, go_sem, setCells, setIn])
  (refine vw_cond (t := false) rfl (fun h => nomatch h) (fun _ => ?_))
  refine vw_skip (n_then ?_)
  (refine vw_go rfl ?_; simp only [go_sem, setCells, setIn])
  (refine ⟨_, _, call_rx [0] Try.func26 (rt) rfl rfl rfl rfl rfl rfl rfl (by simp [lendAll, lendC, seek, fresh, nav, rcells, RT.cells, VV.cells, tabE_cons, tabS_cons, ev, take_map_len, sRow_r1, sRow_comp, sRow_clean, nRow_r1, nRow_comp, nRow_clean, partRow_r1, partRow_comp, partRowO_r1, partRowO_comp, partRowO_clean, portRow_r1, portRow_comp, portRowO_r1, portRowO_comp, portRowO_clean, tellRow_r1, tellRow_clean, qp, qw, qm, qa, qb, qa2, qb2]) rfl (by simp [rcells, RT.cells, CT.clean, T.clean, sRow_r1, sRow_comp, sRow_clean, nRow_r1, nRow_comp, nRow_clean, partRow_r1, partRow_comp, partRowO_r1, partRowO_comp, partRowO_clean, portRow_r1, portRow_comp, portRowO_r1, portRowO_comp, portRowO_clean, tellRow_r1, tellRow_clean, qp, qw, qm, qa, qb, qa2, qb2]) rfl rfl, ?_⟩)
  simp only [runH, runX, qp, qw, qm, qa, qb, List.length_map, go_sem, setCells, setIn]
  (refine ⟨_, _, call_rx [0, 0] Try.func25 (r1) rfl rfl rfl rfl rfl rfl rfl (by simp [lendAll, lendC, seek, fresh, nav, rcells, RT.cells, VV.cells, tabE_cons, tabS_cons, ev, take_map_len, sRow_r1, sRow_comp, sRow_clean, nRow_r1, nRow_comp, nRow_clean, partRow_r1, partRow_comp, partRowO_r1, partRowO_comp, partRowO_clean, portRow_r1, portRow_comp, portRowO_r1, portRowO_comp, portRowO_clean, tellRow_r1, tellRow_clean, qp, qw, qm, qa, qb, qa2, qb2]) rfl (by simp [rcells, RT.cells, CT.clean, T.clean, sRow_r1, sRow_comp, sRow_clean, nRow_r1, nRow_comp, nRow_clean, partRow_r1, partRow_comp, partRowO_r1, partRowO_comp, partRowO_clean, portRow_r1, portRow_comp, portRowO_r1, portRowO_comp, portRowO_clean, tellRow_r1, tellRow_clean, qp, qw, qm, qa, qb, qa2, qb2]) rfl rfl, ?_⟩)
  simp only [runH, runX, go_sem, setCells, setIn]
  (refine vw_go rfl ?_; simp only [go_sem, setCells, setIn])
  (refine ⟨_, _, call_rx [0] Try.func26 (rt) rfl rfl rfl rfl rfl rfl rfl (by simp [lendAll, lendC, seek, fresh, nav, rcells, RT.cells, VV.cells, tabE_cons, tabS_cons, ev, take_map_len, sRow_r1, sRow_comp, sRow_clean, nRow_r1, nRow_comp, nRow_clean, partRow_r1, partRow_comp, partRowO_r1, partRowO_comp, partRowO_clean, portRow_r1, portRow_comp, portRowO_r1, portRowO_comp, portRowO_clean, tellRow_r1, tellRow_clean, qp, qw, qm, qa, qb, qa2, qb2]) rfl (by simp [rcells, RT.cells, CT.clean, T.clean, sRow_r1, sRow_comp, sRow_clean, nRow_r1, nRow_comp, nRow_clean, partRow_r1, partRow_comp, partRowO_r1, partRowO_comp, partRowO_clean, portRow_r1, portRow_comp, portRowO_r1, portRowO_comp, portRowO_clean, tellRow_r1, tellRow_clean, qp, qw, qm, qa, qb, qa2, qb2]) rfl rfl, ?_⟩)
  simp only [runH, runX, qp, qw, qm, qa, qb, List.length_map, go_sem, setCells, setIn]
  (refine vw_norm (norm_freeze 7 _ rfl rfl (Nat.le_refl _)) ?_; simp only [go_sem, setCells, setIn])
  (refine vw_go rfl ?_; simp only [qp, qw, qm, qa, qb, List.length_map, go_sem, setCells, setIn])
  (refine ⟨_, _, call_rx [0, 0] Try.func27 (r2) rfl rfl rfl rfl rfl rfl rfl (by simp [lendAll, lendC, seek, fresh, nav, rcells, RT.cells, VV.cells, tabE_cons, tabS_cons, ev, take_map_len, sRow_r1, sRow_comp, sRow_clean, nRow_r1, nRow_comp, nRow_clean, partRow_r1, partRow_comp, partRowO_r1, partRowO_comp, partRowO_clean, portRow_r1, portRow_comp, portRowO_r1, portRowO_comp, portRowO_clean, tellRow_r1, tellRow_clean, qp, qw, qm, qa, qb, qa2, qb2]) rfl (by simp [rcells, RT.cells, CT.clean, T.clean, sRow_r1, sRow_comp, sRow_clean, nRow_r1, nRow_comp, nRow_clean, partRow_r1, partRow_comp, partRowO_r1, partRowO_comp, partRowO_clean, portRow_r1, portRow_comp, portRowO_r1, portRowO_comp, portRowO_clean, tellRow_r1, tellRow_clean, qp, qw, qm, qa, qb, qa2, qb2]) rfl rfl, ?_⟩)
  simp only [runH, runX, go_sem, setCells, setIn]
  refine vw_seq ?_
  (refine vw_go rfl ?_; simp only [go_sem, setCells, setIn])
  (refine ⟨_, _, call_rx [0, 0] Try.func28 (rE) rfl rfl rfl rfl rfl rfl rfl (by simp [lendAll, lendC, seek, fresh, nav, rcells, RT.cells, VV.cells, tabE_cons, tabS_cons, ev, take_map_len, sRow_r1, sRow_comp, sRow_clean, nRow_r1, nRow_comp, nRow_clean, partRow_r1, partRow_comp, partRowO_r1, partRowO_comp, partRowO_clean, portRow_r1, portRow_comp, portRowO_r1, portRowO_comp, portRowO_clean, tellRow_r1, tellRow_clean, qp, qw, qm, qa, qb, qa2, qb2, bd]) rfl (by simp [rcells, RT.cells, CT.clean, T.clean, sRow_r1, sRow_comp, sRow_clean, nRow_r1, nRow_comp, nRow_clean, partRow_r1, partRow_comp, partRowO_r1, partRowO_comp, partRowO_clean, portRow_r1, portRow_comp, portRowO_r1, portRowO_comp, portRowO_clean, tellRow_r1, tellRow_clean, qp, qw, qm, qa, qb, qa2, qb2, bd]) rfl rfl, ?_⟩)
  simp only [runH, runX, go_sem, setCells, setIn]
  (refine vw_cond (t := false) rfl (fun h => nomatch h) (fun _ => ?_))
  refine vw_skip (n_then ?_)
  refine vw_seq ?_
  (refine vw_draw mixed rfl rfl ?_; simp only [go_sem, setCells, setIn])
  (refine ⟨_, _, _, call_rx_at [0] [] Try.func26 (rt) rfl rfl rfl rfl rfl rfl rfl (fun st1 hst1 => by (try simp only [List.mem_cons, List.not_mem_nil, or_false, false_or, forall_eq_or_imp, forall_eq] at hst1); simp [lendAll, lendC, seek, fresh, nav, rcells, RT.cells, VV.cells, tabE_cons, tabS_cons, ev, take_map_len, hst1, sRow_r1, sRow_comp, sRow_clean, nRow_r1, nRow_comp, nRow_clean, partRow_r1, partRow_comp, partRowO_r1, partRowO_comp, partRowO_clean, portRow_r1, portRow_comp, portRowO_r1, portRowO_comp, portRowO_clean, tellRow_r1, tellRow_clean, qp, qw, qm, qa, qb, qa2, qb2]) rfl (by simp [rcells, RT.cells, CT.clean, T.clean, sRow_r1, sRow_comp, sRow_clean, nRow_r1, nRow_comp, nRow_clean, partRow_r1, partRow_comp, partRowO_r1, partRowO_comp, partRowO_clean, portRow_r1, portRow_comp, portRowO_r1, portRowO_comp, portRowO_clean, tellRow_r1, tellRow_clean, qp, qw, qm, qa, qb, qa2, qb2]) rfl rfl, ?_⟩)
  simp only [runH, runX, qp, qw, qm, qa, qb, List.length_map, go_sem, setCells, setIn]
  (refine ⟨_, _, _, call_rx_at [0, 0] [393224, 393225, 393226, 393228, 393229, 526351, 526352, 526353, 526355, 526356] Try.func29 (re) rfl rfl rfl rfl rfl rfl rfl (fun st1 hst1 => by (try simp only [List.mem_cons, List.not_mem_nil, or_false, false_or, forall_eq_or_imp, forall_eq] at hst1); simp [lendAll, lendC, seek, fresh, nav, rcells, RT.cells, VV.cells, tabE_cons, tabS_cons, ev, take_map_len, hst1, sRow_r1, sRow_comp, sRow_clean, nRow_r1, nRow_comp, nRow_clean, partRow_r1, partRow_comp, partRowO_r1, partRowO_comp, partRowO_clean, portRow_r1, portRow_comp, portRowO_r1, portRowO_comp, portRowO_clean, tellRow_r1, tellRow_clean, qp, qw, qm, qa, qb, qa2, qb2]) rfl (by simp [rcells, RT.cells, CT.clean, T.clean, sRow_r1, sRow_comp, sRow_clean, nRow_r1, nRow_comp, nRow_clean, partRow_r1, partRow_comp, partRowO_r1, partRowO_comp, partRowO_clean, portRow_r1, portRow_comp, portRowO_r1, portRowO_comp, portRowO_clean, tellRow_r1, tellRow_clean, qp, qw, qm, qa, qb, qa2, qb2]) rfl rfl, ?_⟩)
  simp only [runH, runX, go_sem, setCells, setIn]
  refine ⟨by unfold allOk; kernel_rfl, ?_⟩
  (refine vw_cond (t := false) rfl (fun h => nomatch h) (fun _ => ?_))
  refine vw_skip (n_then ?_)
  have hF : kFtl x.ftl 1 = 1 + x.ftl.pages.length + x.ftl.wear.length + x.ftl.map.length := rfl
  have hk1 := kParts_le x.parts (kFtl x.ftl 1) hs.parts (by omega)
  have hk2 := kPorts_le x.ports (kParts x.parts (kFtl x.ftl 1)) hs.ports hk1.1
  have hn1 : (kSys x 1 < 0) = False := eq_false (by unfold kSys; omega)
  have hn2 : (1 + 2 * (D.length : Int) < 0) = False := eq_false (by omega)
  (refine vw_go rfl ?_; simp only [go_sem, setCells, setIn])
  (refine vw_go rfl ?_; simp only [go_sem, setCells, setIn])
  (refine ⟨_, _, call_bm [0, 0] [.back, .ro] [.b 393224 0 ⟨false, 1, x.ftl.pages.map sRow, []⟩ ((marks 1 x.ftl.pages.length).map sRow), .b 393225 0 ⟨false, 1, x.ftl.wear.map nRow, []⟩ ((marksN (1 + x.ftl.pages.length) x.ftl.wear.length).map nRow), .b 393226 0 ⟨false, 1, x.ftl.map.map nRow, []⟩ ((marksN (1 + x.ftl.pages.length + x.ftl.wear.length) x.ftl.map.length).map nRow), .o true (.int .i64 x.ftl.seq), .b 393228 0 ⟨false, 4, x.parts.map partRowO, []⟩ (marksPart x.parts (kFtl x.ftl 1)), .b 393229 0 ⟨false, 2, x.ports.map portRowO, []⟩ (marksPort x.ports (kParts x.parts (kFtl x.ftl 1))), .o true (.int .i64 x.tick), .o false (.int .i64 1)] Try.func30 (runs_30 x 1 hs (by decide) (by decide)) rfl rfl rfl rfl rfl rfl rfl rfl (by simp [VV.cells, ev, tabE_cons, BC.mc, BC.md, sRow_clean, nRow_clean, marksPart_clean, marksPort_clean]) (by simp [BC.ok, tabS_cons, sRow_clean, nRow_clean, marksPart_clean, marksPort_clean]) (by simp [BC.rs]) (by simp [rcells, RT.cells, BC.cc, T.toRO, sRow_clean, nRow_clean, marksPart_clean, marksPort_clean]) rfl rfl rfl rfl, ?_⟩)
  simp only [runH, runX, go_sem, setCells, setIn]
  refine vw_seq ?_
  (refine vw_go rfl ?_; simp only [hn1, go_sem, setCells, setIn])
  (refine ⟨_, _, call_rx [0, 0] Try.func28 (rE) rfl rfl rfl rfl rfl rfl rfl (by simp [lendAll, lendC, seek, fresh, nav, rcells, RT.cells, VV.cells, tabE_cons, tabS_cons, ev, take_map_len, sRow_r1, sRow_comp, sRow_clean, nRow_r1, nRow_comp, nRow_clean, partRow_r1, partRow_comp, partRowO_r1, partRowO_comp, partRowO_clean, portRow_r1, portRow_comp, portRowO_r1, portRowO_comp, portRowO_clean, tellRow_r1, tellRow_clean, qp, qw, qm, qa, qb, qa2, qb2, bd]) rfl (by simp [rcells, RT.cells, CT.clean, T.clean, sRow_r1, sRow_comp, sRow_clean, nRow_r1, nRow_comp, nRow_clean, partRow_r1, partRow_comp, partRowO_r1, partRowO_comp, partRowO_clean, portRow_r1, portRow_comp, portRowO_r1, portRowO_comp, portRowO_clean, tellRow_r1, tellRow_clean, qp, qw, qm, qa, qb, qa2, qb2, bd]) rfl rfl, ?_⟩)
  simp only [runH, runX, go_sem, setCells, setIn]
  (refine vw_cond (t := false) rfl (fun h => nomatch h) (fun _ => ?_))
  refine vw_skip (n_then ?_)
  (refine vw_go rfl ?_; simp only [go_sem, setCells, setIn])
  (refine vw_go rfl ?_; simp only [go_sem, setCells, setIn])
  (refine ⟨_, _, call_bs [0, 0] [.back, .ro] [(395279, 0, ⟨false, 2, D.map tellRow, []⟩)] [marksTell 1 D.length] (rest := [.c (.int .i64 1)]) Try.func31 (runs_31 D 1 (by omega) (by decide) (by decide)) rfl rfl rfl rfl rfl rfl rfl rfl (by simp [VV.cells, ev, tabE_cons, marksTell_clean]) (by simp [tabS_cons, marksTell_clean]) (by simp) rfl rfl (by simp [rcells, RT.cells, marksTell_clean]) rfl rfl (by simp [clean_map, marksTell_clean]) rfl rfl, ?_⟩)
  simp only [runH, runX, go_sem, setCells, setIn]
  (refine vw_go rfl ?_; simp only [go_sem, setCells, setIn])
  (refine vw_go rfl ?_; simp only [go_sem, setCells, setIn])
  (refine ⟨_, _, call_rx [0, 0] Try.func32 (runs_32 1 D.length (by omega) (by decide) (by decide)) rfl rfl rfl rfl rfl rfl rfl (by simp [lendAll, lendC, seek, fresh, nav, rcells, RT.cells, VV.cells, tabE_cons, tabS_cons, ev, take_map_len, marksTell_take, marksTell_len, marksTell_ro]) rfl (by simp [rcells, RT.cells, CT.clean, T.clean, marksTell_take, marksTell_len, marksTell_ro]) rfl rfl, ?_⟩)
  simp only [runH, runX, go_sem, setCells, setIn]
  refine vw_seq ?_
  (refine vw_go rfl ?_; simp only [hn2, go_sem, setCells, setIn])
  (refine vw_cond (t := false) rfl (fun h => nomatch h) (fun _ => ?_))
  refine vw_skip (n_then ?_)
  refine vw_seq ?_
  (refine vw_go rfl ?_; simp only [go_sem, setCells, setIn])
  (refine vw_cond (t := false) rfl (fun h => nomatch h) (fun _ => ?_))
  refine vw_skip (n_then ?_)
  (refine vw_go rfl ?_; simp only [go_sem, setCells, setIn])
  (refine ⟨_, _, call_rx [0] Try.func26 (rt) rfl rfl rfl rfl rfl rfl rfl (by simp [lendAll, lendC, seek, fresh, nav, rcells, RT.cells, VV.cells, tabE_cons, tabS_cons, ev, take_map_len, sRow_r1, sRow_comp, sRow_clean, nRow_r1, nRow_comp, nRow_clean, partRow_r1, partRow_comp, partRowO_r1, partRowO_comp, partRowO_clean, portRow_r1, portRow_comp, portRowO_r1, portRowO_comp, portRowO_clean, tellRow_r1, tellRow_clean, qp, qw, qm, qa, qb, qa2, qb2]) rfl (by simp [rcells, RT.cells, CT.clean, T.clean, sRow_r1, sRow_comp, sRow_clean, nRow_r1, nRow_comp, nRow_clean, partRow_r1, partRow_comp, partRowO_r1, partRowO_comp, partRowO_clean, portRow_r1, portRow_comp, portRowO_r1, portRowO_comp, portRowO_clean, tellRow_r1, tellRow_clean, qp, qw, qm, qa, qb, qa2, qb2]) rfl rfl, ?_⟩)
  simp only [runH, runX, qp, qw, qm, qa, qb, List.length_map, go_sem, setCells, setIn]
  (refine ⟨_, _, call_rx [0, 0] Try.func27 (r2) rfl rfl rfl rfl rfl rfl rfl (by simp [lendAll, lendC, seek, fresh, nav, rcells, RT.cells, VV.cells, tabE_cons, tabS_cons, ev, take_map_len, sRow_r1, sRow_comp, sRow_clean, nRow_r1, nRow_comp, nRow_clean, partRow_r1, partRow_comp, partRowO_r1, partRowO_comp, partRowO_clean, portRow_r1, portRow_comp, portRowO_r1, portRowO_comp, portRowO_clean, tellRow_r1, tellRow_clean, qp, qw, qm, qa, qb, qa2, qb2]) rfl (by simp [rcells, RT.cells, CT.clean, T.clean, sRow_r1, sRow_comp, sRow_clean, nRow_r1, nRow_comp, nRow_clean, partRow_r1, partRow_comp, partRowO_r1, partRowO_comp, partRowO_clean, portRow_r1, portRow_comp, portRowO_r1, portRowO_comp, portRowO_clean, tellRow_r1, tellRow_clean, qp, qw, qm, qa, qb, qa2, qb2]) rfl rfl, ?_⟩)
  simp only [runH, runX, go_sem, setCells, setIn]
  refine vw_seq ?_
  (refine vw_go rfl ?_; simp only [go_sem, setCells, setIn])
  (refine ⟨_, _, call_rx [0, 0] Try.func28 (rE) rfl rfl rfl rfl rfl rfl rfl (by simp [lendAll, lendC, seek, fresh, nav, rcells, RT.cells, VV.cells, tabE_cons, tabS_cons, ev, take_map_len, sRow_r1, sRow_comp, sRow_clean, nRow_r1, nRow_comp, nRow_clean, partRow_r1, partRow_comp, partRowO_r1, partRowO_comp, partRowO_clean, portRow_r1, portRow_comp, portRowO_r1, portRowO_comp, portRowO_clean, tellRow_r1, tellRow_clean, qp, qw, qm, qa, qb, qa2, qb2, bd]) rfl (by simp [rcells, RT.cells, CT.clean, T.clean, sRow_r1, sRow_comp, sRow_clean, nRow_r1, nRow_comp, nRow_clean, partRow_r1, partRow_comp, partRowO_r1, partRowO_comp, partRowO_clean, portRow_r1, portRow_comp, portRowO_r1, portRowO_comp, portRowO_clean, tellRow_r1, tellRow_clean, qp, qw, qm, qa, qb, qa2, qb2, bd]) rfl rfl, ?_⟩)
  simp only [runH, runX, go_sem, setCells, setIn]
  (refine vw_cond (t := false) rfl (fun h => nomatch h) (fun _ => ?_))
  refine vw_skip (n_then ?_)
  (refine vw_go rfl ?_; simp only [go_sem, setCells, setIn])
  (refine vw_go rfl ?_; simp only [go_sem, setCells, setIn])
  (refine ⟨_, _, call_rx [0, 0] Try.func32 (runs_32 1 D.length (by omega) (by decide) (by decide)) rfl rfl rfl rfl rfl rfl rfl (by simp [lendAll, lendC, seek, fresh, nav, rcells, RT.cells, VV.cells, tabE_cons, tabS_cons, ev, take_map_len, marksTell_take, marksTell_len, marksTell_ro]) rfl (by simp [rcells, RT.cells, CT.clean, T.clean, marksTell_take, marksTell_len, marksTell_ro]) rfl rfl, ?_⟩)
  simp only [runH, runX, go_sem, setCells, setIn]
  refine vw_seq ?_
  (refine vw_go rfl ?_; simp only [hn2, go_sem, setCells, setIn])
  (refine vw_cond (t := false) rfl (fun h => nomatch h) (fun _ => ?_))
  refine vw_skip (n_then ?_)
  refine vw_seq ?_
  (refine vw_go rfl ?_; simp only [go_sem, setCells, setIn])
  (refine vw_cond (t := false) rfl (fun h => nomatch h) (fun _ => ?_))
  refine vw_skip (n_then ?_)
  (refine vw_go rfl ?_; simp only [go_sem, setCells, setIn])
  exact vw_ret (e_ret (ret_of rfl rfl (by simp [RB]) rfl rfl))
end Go.Proofs.Ytppbonbghmdhhaa
