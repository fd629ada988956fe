/- The law FnExactSystemOk. -/
import Derived.Test.YtppbonbghmdhhaaGreatPFSysOk
namespace Go.Proofs.YtppbonbghmdhhaaGreat
open Go.VM Go
set_option maxRecDepth 100000
set_option linter.unusedSimpArgs false
set_option linter.unusedVariables false
attribute [local congr] vw_congr runV_congr runH_congr runW_congr runX_congr

theorem runs_3 (x : SysV) (hx : x.ok) : Runs Tryz.prog 3 [.agg [.v (.list false 1 (x.ftl.pages.map sRow)), .v (.list false 1 (x.ftl.wear.map nRow)), .v (.list false 1 (x.ftl.map.map nRow)), .v (.int .i64 x.ftl.seq), .v (.list false 4 (x.parts.map partRow)), .v (.list false 2 (x.ports.map portRow)), .v (.int .i64 x.tick)]] [.one (.v (.bool true))] [] := by
  refine runs_tab (tab := [(0, .agg [.c (.list false 1 (x.ftl.pages.map sRow)), .c (.list false 1 (x.ftl.wear.map nRow)), .c (.list false 1 (x.ftl.map.map nRow)), .c (.int .i64 x.ftl.seq), .c (.list false 4 (x.parts.map partRow)), .c (.list false 2 (x.ports.map portRow)), .c (.int .i64 x.tick)])]) (rts := []) (n := 27) (k := 7) Tryz.func3 rfl rfl (by simp) rfl (fun t => ?_) rfl ?_
  · rcases t with _ | t <;> rfl
  have rz := runs_6 x 1048576 hx (by decide) (by decide)
  have qp : (x.ftl.pages.map sRow).take x.ftl.pages.length = x.ftl.pages.map sRow := by rw [List.take_of_length_le (by simp)]
  have qw : (x.ftl.wear.map nRow).take x.ftl.wear.length = x.ftl.wear.map nRow := by rw [List.take_of_length_le (by simp)]
  have qm : (x.ftl.map.map nRow).take x.ftl.map.length = x.ftl.map.map nRow := by rw [List.take_of_length_le (by simp)]
  have qa : (x.parts.map partRowO).take x.parts.length = x.parts.map partRowO := by rw [List.take_of_length_le (by simp)]
  have qb : (x.ports.map portRowO).take x.ports.length = x.ports.map portRowO := by rw [List.take_of_length_le (by simp)]
  have qa2 : (x.parts.map partRow).take x.parts.length = x.parts.map partRow := by rw [List.take_of_length_le (by simp)]
  have qb2 : (x.ports.map portRow).take x.ports.length = x.ports.map portRow := by rw [List.take_of_length_le (by simp)]
  (refine vw_go rfl ?_; simp only [go_sem, setCells, setIn])
  (refine vw_go rfl ?_; simp only [go_sem, setCells, setIn])
  (refine vw_go rfl ?_; simp only [go_sem, setCells, setIn])
  (refine ⟨_, _, call_rx [0, 0] Tryz.func6 (rz) rfl rfl rfl rfl rfl rfl rfl (by simp [lendAll, lendC, seek, fresh, nav, rcells, RT.cells, VV.cells, tabE_cons, tabS_cons, ev, take_map_len, sRow_r1, sRow_comp, sRow_clean, nRow_r1, nRow_comp, nRow_clean, partRow_r1, partRow_comp, partRowO_r1, partRowO_comp, partRowO_clean, portRow_r1, portRow_comp, portRowO_r1, portRowO_comp, portRowO_clean]) rfl (by simp [rcells, RT.cells, CT.clean, T.clean, sRow_r1, sRow_comp, sRow_clean, nRow_r1, nRow_comp, nRow_clean, partRow_r1, partRow_comp, partRowO_r1, partRowO_comp, partRowO_clean, portRow_r1, portRow_comp, portRowO_r1, portRowO_comp, portRowO_clean]) rfl rfl, ?_⟩)
  simp only [runH, runX, go_sem, setCells, setIn]
  refine vw_seq ?_
  by_cases h : szSystem x 1048576 < 0
  · (refine vw_go rfl ?_; simp only [h, go_sem, setCells, setIn])
    (refine vw_cond (t := true) rfl (fun _ => ?_) (fun h => nomatch h))
    (refine vw_go rfl ?_; simp only [go_sem, setCells, setIn])
    exact vw_ret (r_then (e_ret (ret_of rfl rfl (by simp [RB]) rfl rfl)))
  have hs := szSystem_small h
  have rt := runs_8 x hs
  have r1 := runs_7 x hs hx
  have r2 := runs_9 x hs hx
  have re := runs_10 x x hs hs hx hx
  rw [decide_eq_true (rfl : x = x)] at re
  (refine vw_go rfl ?_; simp only [h, go_sem, setCells, setIn])
  (refine vw_cond (t := false) rfl (fun h => nomatch h) (fun _ => ?_))
  refine vw_skip (n_then ?_)
  (refine vw_go rfl ?_; simp only [go_sem, setCells, setIn])
  (refine ⟨_, _, call_rx [0] Tryz.func8 (rt) rfl rfl rfl rfl rfl rfl rfl (by simp [lendAll, lendC, seek, fresh, nav, rcells, RT.cells, VV.cells, tabE_cons, tabS_cons, ev, take_map_len, sRow_r1, sRow_comp, sRow_clean, nRow_r1, nRow_comp, nRow_clean, partRow_r1, partRow_comp, partRowO_r1, partRowO_comp, partRowO_clean, portRow_r1, portRow_comp, portRowO_r1, portRowO_comp, portRowO_clean]) rfl (by simp [rcells, RT.cells, CT.clean, T.clean, sRow_r1, sRow_comp, sRow_clean, nRow_r1, nRow_comp, nRow_clean, partRow_r1, partRow_comp, partRowO_r1, partRowO_comp, partRowO_clean, portRow_r1, portRow_comp, portRowO_r1, portRowO_comp, portRowO_clean]) rfl rfl, ?_⟩)
  simp only [runH, runX, qp, qw, qm, List.length_map, go_sem, setCells, setIn]
  (refine ⟨_, _, call_rx [0] Tryz.func7 (r1) rfl rfl rfl rfl rfl rfl rfl (by simp [lendAll, lendC, seek, fresh, nav, rcells, RT.cells, VV.cells, tabE_cons, tabS_cons, ev, take_map_len, sRow_r1, sRow_comp, sRow_clean, nRow_r1, nRow_comp, nRow_clean, partRow_r1, partRow_comp, partRowO_r1, partRowO_comp, partRowO_clean, portRow_r1, portRow_comp, portRowO_r1, portRowO_comp, portRowO_clean, qp, qw, qm, qa, qb, qa2, qb2]) rfl (by simp [rcells, RT.cells, CT.clean, T.clean, sRow_r1, sRow_comp, sRow_clean, nRow_r1, nRow_comp, nRow_clean, partRow_r1, partRow_comp, partRowO_r1, partRowO_comp, partRowO_clean, portRow_r1, portRow_comp, portRowO_r1, portRowO_comp, portRowO_clean, qp, qw, qm, qa, qb, qa2, qb2]) rfl rfl, ?_⟩)
  simp only [runH, runX, go_sem, setCells, setIn]
  (refine vw_go rfl ?_; simp only [go_sem, setCells, setIn])
  (refine ⟨_, _, call_rx [0] Tryz.func8 (rt) rfl rfl rfl rfl rfl rfl rfl (by simp [lendAll, lendC, seek, fresh, nav, rcells, RT.cells, VV.cells, tabE_cons, tabS_cons, ev, take_map_len, sRow_r1, sRow_comp, sRow_clean, nRow_r1, nRow_comp, nRow_clean, partRow_r1, partRow_comp, partRowO_r1, partRowO_comp, partRowO_clean, portRow_r1, portRow_comp, portRowO_r1, portRowO_comp, portRowO_clean]) rfl (by simp [rcells, RT.cells, CT.clean, T.clean, sRow_r1, sRow_comp, sRow_clean, nRow_r1, nRow_comp, nRow_clean, partRow_r1, partRow_comp, partRowO_r1, partRowO_comp, partRowO_clean, portRow_r1, portRow_comp, portRowO_r1, portRowO_comp, portRowO_clean]) rfl rfl, ?_⟩)
  simp only [runH, runX, qp, qw, qm, qa, qb, List.length_map, go_sem, setCells, setIn]
  (refine vw_go rfl ?_; simp only [qp, qw, qm, qa, qb, List.length_map, go_sem, setCells, setIn])
  (refine ⟨_, _, call_rx [0] Tryz.func9 (r2) rfl rfl rfl rfl rfl rfl rfl (by simp [lendAll, lendC, seek, fresh, nav, rcells, RT.cells, VV.cells, tabE_cons, tabS_cons, ev, take_map_len, sRow_r1, sRow_comp, sRow_clean, nRow_r1, nRow_comp, nRow_clean, partRow_r1, partRow_comp, partRowO_r1, partRowO_comp, partRowO_clean, portRow_r1, portRow_comp, portRowO_r1, portRowO_comp, portRowO_clean, qp, qw, qm, qa, qb, qa2, qb2]) rfl (by simp [rcells, RT.cells, CT.clean, T.clean, sRow_r1, sRow_comp, sRow_clean, nRow_r1, nRow_comp, nRow_clean, partRow_r1, partRow_comp, partRowO_r1, partRowO_comp, partRowO_clean, portRow_r1, portRow_comp, portRowO_r1, portRowO_comp, portRowO_clean, qp, qw, qm, qa, qb, qa2, qb2]) rfl rfl, ?_⟩)
  simp only [runH, runX, go_sem, setCells, setIn]
  refine vw_seq ?_
  (refine vw_go rfl ?_; simp only [go_sem, setCells, setIn])
  (refine vw_cond (t := false) rfl (fun h => nomatch h) (fun _ => ?_))
  refine vw_skip (n_then ?_)
  refine vw_seq ?_
  (refine vw_draw mixed rfl rfl ?_; simp only [go_sem, setCells, setIn])
  (refine ⟨_, _, _, call_rx_at [0] [] Tryz.func8 (rt) rfl rfl rfl rfl rfl rfl rfl (fun st1 hst1 => by (try simp only [List.mem_cons, List.not_mem_nil, or_false, false_or, forall_eq_or_imp, forall_eq] at hst1); simp [lendAll, lendC, seek, fresh, nav, rcells, RT.cells, VV.cells, tabE_cons, tabS_cons, ev, take_map_len, hst1, sRow_r1, sRow_comp, sRow_clean, nRow_r1, nRow_comp, nRow_clean, partRow_r1, partRow_comp, partRowO_r1, partRowO_comp, partRowO_clean, portRow_r1, portRow_comp, portRowO_r1, portRowO_comp, portRowO_clean]) rfl (by simp [rcells, RT.cells, CT.clean, T.clean, sRow_r1, sRow_comp, sRow_clean, nRow_r1, nRow_comp, nRow_clean, partRow_r1, partRow_comp, partRowO_r1, partRowO_comp, partRowO_clean, portRow_r1, portRow_comp, portRowO_r1, portRowO_comp, portRowO_clean]) rfl rfl, ?_⟩)
  simp only [runH, runX, qp, qw, qm, qa, qb, List.length_map, go_sem, setCells, setIn]
  (refine ⟨_, _, _, call_rx_at [0, 0] [329735, 526343, 526344, 526345, 526347, 526348] Tryz.func10 (re) rfl rfl rfl rfl rfl rfl rfl (fun st1 hst1 => by (try simp only [List.mem_cons, List.not_mem_nil, or_false, false_or, forall_eq_or_imp, forall_eq] at hst1); simp [lendAll, lendC, seek, fresh, nav, rcells, RT.cells, VV.cells, tabE_cons, tabS_cons, ev, take_map_len, hst1, sRow_r1, sRow_comp, sRow_clean, nRow_r1, nRow_comp, nRow_clean, partRow_r1, partRow_comp, partRowO_r1, partRowO_comp, partRowO_clean, portRow_r1, portRow_comp, portRowO_r1, portRowO_comp, portRowO_clean, qp, qw, qm, qa, qb, qa2, qb2]) rfl (by simp [rcells, RT.cells, CT.clean, T.clean, sRow_r1, sRow_comp, sRow_clean, nRow_r1, nRow_comp, nRow_clean, partRow_r1, partRow_comp, partRowO_r1, partRowO_comp, partRowO_clean, portRow_r1, portRow_comp, portRowO_r1, portRowO_comp, portRowO_clean, qp, qw, qm, qa, qb, qa2, qb2]) rfl rfl, ?_⟩)
  simp only [runH, runX, go_sem, setCells, setIn]
  refine ⟨by unfold allOk; kernel_rfl, ?_⟩
  (refine vw_cond (t := false) rfl (fun h => nomatch h) (fun _ => ?_))
  refine vw_skip (n_then ?_)
  (refine vw_go rfl ?_; simp only [go_sem, setCells, setIn])
  exact vw_ret (e_ret (ret_of rfl rfl (by simp [RB]) rfl rfl))

theorem typed_28 {k : Nat} {ts : List T} (h : typed Tryz.prog (k + 6) 28 ts) : ∃ l : List PartV, ts = [.list false 4 (l.map partRow)] ∧ l.length < 2 ^ 63 ∧ ∀ x ∈ l, x.ok := by
  rw [typed] at h
  simp only [Tryz.underlying28, cellsOf_120] at h
  obtain ⟨rows, rfl, hlen, hrows⟩ := h
  obtain ⟨l, rfl, hl⟩ := map_of (f := partRow) (Q := PartV.ok) (rows := rows) (fun r hr => by
    obtain ⟨x, hx, ho⟩ := typed_120 (hrows r hr)
    exact ⟨x, hx, ho⟩)
  exact ⟨l, rfl, by simpa using hlen, hl⟩
theorem typed_29 {k : Nat} {ts : List T} (h : typed Tryz.prog (k + 6) 29 ts) : ∃ l : List PortV, ts = [.list false 2 (l.map portRow)] ∧ l.length < 2 ^ 63 ∧ ∀ x ∈ l, x.ok := by
  rw [typed] at h
  simp only [Tryz.underlying29, cellsOf_124] at h
  obtain ⟨rows, rfl, hlen, hrows⟩ := h
  obtain ⟨l, rfl, hl⟩ := map_of (f := portRow) (Q := PortV.ok) (rows := rows) (fun r hr => by
    obtain ⟨x, hx, ho⟩ := typed_124 (hrows r hr)
    exact ⟨x, hx, ho⟩)
  exact ⟨l, rfl, by simpa using hlen, hl⟩
theorem typed_31 {k : Nat} {ts : List T} (h : typed Tryz.prog (k + 7) 31 ts) : ∃ x : SysV, ts = [.list false 1 (x.ftl.pages.map sRow), .list false 1 (x.ftl.wear.map nRow), .list false 1 (x.ftl.map.map nRow), .int .i64 x.ftl.seq, .list false 4 (x.parts.map partRow), .list false 2 (x.ports.map portRow), .int .i64 x.tick] ∧ x.ok := by
  rw [typed] at h
  simp only [Tryz.underlying31, typedF, List.map_cons, List.map_nil] at h
  obtain ⟨_, _, rfl, h1, _, _, rfl, h2, _, _, rfl, h3, _, _, rfl, h4, rfl⟩ := h
  obtain ⟨c, rfl, hc⟩ := typed_27 h1
  obtain ⟨a, rfl, ha⟩ := typed_28 h2
  obtain ⟨b, rfl, hb⟩ := typed_29 h3
  rw [typed] at h4
  simp only [Tryz.underlying3] at h4
  obtain ⟨n, rfl, _⟩ := h4
  exact ⟨⟨c, a, b, n⟩, rfl, hc, ha, hb⟩
end Go.Proofs.YtppbonbghmdhhaaGreat
