/- Whole of both, and its law. -/
import Derived.Test.YtppbonbghmdhhaaGreatPFVolOk
import Derived.Test.YtppbonbghmdhhaaGreatPLShow
namespace Go.Proofs.YtppbonbghmdhhaaGreat
open Go.VM Go
set_option maxRecDepth 100000
set_option linter.unusedSimpArgs false
set_option linter.unusedVariables false
attribute [local congr] vw_congr runV_congr runH_congr runW_congr runX_congr

def wholeF (f : FtlV) : Bool := if ftlOk f = true then decide (secF f 24 = ⟨#[]⟩) && (volOk (volF f 0) && volOk (volF f 1)) else false
theorem volF_size {f : FtlV} (hf : f.right) {v : Nat} (hv : v ≤ 1) : ∀ s ∈ volF f v, s.size ≤ 2 ^ 20 := by
  intro s hs
  unfold volF at hs
  obtain ⟨k, hk, rfl⟩ := List.mem_map.1 hs
  rw [List.mem_range] at hk
  exact Nat.le_trans (secF_size hf _ (by omega)) (by decide)

theorem runs_44 (f : FtlV) (hs : f.small) : Runs Tryz.prog 44 [.agg [.v (.list false 1 (f.pages.map sRow)), .v (.list false 1 (f.wear.map nRow)), .v (.list false 1 (f.map.map nRow)), .v (.int .i64 f.seq)]] [.one (.v (.bool (wholeF f)))] [] := by
  refine runs_tab (tab := [(0, .agg [.c (.list false 1 (f.pages.map sRow)), .c (.list false 1 (f.wear.map nRow)), .c (.list false 1 (f.map.map nRow)), .c (.int .i64 f.seq)])]) (rts := []) (n := 20) (k := 4) Tryz.func44 rfl rfl (by simp) rfl (fun t => ?_) rfl ?_
  · rcases t with _ | t <;> rfl
  have r0 := runs_82 f hs
  have qp : (f.pages.map sRow).take f.pages.length = f.pages.map sRow := by rw [List.take_of_length_le (by simp)]
  have qw : (f.wear.map nRow).take f.wear.length = f.wear.map nRow := by rw [List.take_of_length_le (by simp)]
  have qm : (f.map.map nRow).take f.map.length = f.map.map nRow := by rw [List.take_of_length_le (by simp)]
  have hright : ftlOk f = true → f.right := right_of hs
  unfold wholeF
  (refine vw_go rfl ?_; simp only [go_sem, setCells, setIn])
  (refine vw_go rfl ?_; simp only [qp, qw, qm, go_sem, setCells, setIn])
  (refine ⟨_, _, call_rx [0] Tryz.func82 (r0) rfl rfl rfl rfl rfl rfl rfl (by simp [lendAll, lendC, seek, fresh, nav, rcells, RT.cells, VV.cells, tabE_cons, tabS_cons, ev, take_map_len, sRow_r1, sRow_comp, sRow_clean, nRow_r1, nRow_comp, nRow_clean, qp, qw, qm]) rfl (by simp [rcells, RT.cells, CT.clean, T.clean, sRow_r1, sRow_comp, sRow_clean, nRow_r1, nRow_comp, nRow_clean, qp, qw, qm]) rfl rfl, ?_⟩)
  generalize ftlOk f = ok at hright ⊢
  cases ok
  case false =>
    (unfold runH; simp (maxSteps := 1000000) only [go_sem, setCells, setIn])
    exact vw_ret (e_ret (ret_of rfl rfl (by simp [RB]) rfl rfl))
  have hr := hright rfl
  have r1 := runs_86 f hr 24 (by decide)
  have v0 := runs_100 f hr 0 (by decide)
  have v1 := runs_100 f hr 1 (by decide)
  have o0 := runs_99 (volF f 0) (by rw [volF_len]; decide) (volF_size hr (by decide))
  have o1 := runs_99 (volF f 1) (by rw [volF_len]; decide) (volF_size hr (by decide))
  have l0 := volF_len f 0
  have l1 := volF_len f 1
  generalize volF f 0 = a at v0 o0 l0 ⊢
  generalize volF f 1 = b at v1 o1 l1 ⊢
  have qa : (a.map sRow).take a.length = a.map sRow := by rw [List.take_of_length_le (by simp)]
  have qb : (b.map sRow).take b.length = b.map sRow := by rw [List.take_of_length_le (by simp)]
  (unfold runH; simp (maxSteps := 1000000) only [qp, qw, qm, go_sem, setCells, setIn])
  (refine ⟨_, _, call_rx [0, 0] Tryz.func86 (r1) rfl rfl rfl rfl rfl rfl rfl (by simp [lendAll, lendC, seek, fresh, nav, rcells, RT.cells, VV.cells, tabE_cons, tabS_cons, ev, take_map_len, lit, sRow_r1, sRow_comp, sRow_clean, nRow_r1, nRow_comp, nRow_clean, qp, qw, qm]) rfl (by simp [rcells, RT.cells, CT.clean, T.clean, lit, sRow_r1, sRow_comp, sRow_clean, nRow_r1, nRow_comp, nRow_clean, qp, qw, qm]) rfl rfl, ?_⟩)
  by_cases h24 : secF f 24 = ⟨#[]⟩
  case neg =>
    rw [decide_eq_false h24]
    (unfold runH; simp (maxSteps := 1000000) only [h24, go_sem, setCells, setIn])
    exact vw_ret (e_ret (ret_of rfl rfl (by simp [RB]) rfl rfl))
  rw [decide_eq_true h24]
  (unfold runH; simp (maxSteps := 1000000) only [h24, qp, qw, qm, go_sem, setCells, setIn])
  (refine ⟨_, _, call_rx [0, 0] Tryz.func100 (v0) rfl rfl rfl rfl rfl rfl rfl (by simp [lendAll, lendC, seek, fresh, nav, rcells, RT.cells, VV.cells, tabE_cons, tabS_cons, ev, take_map_len, lit, sRow_r1, sRow_comp, sRow_clean, nRow_r1, nRow_comp, nRow_clean, qp, qw, qm]) rfl (by simp [rcells, RT.cells, CT.clean, T.clean, lit, sRow_r1, sRow_comp, sRow_clean, nRow_r1, nRow_comp, nRow_clean, qp, qw, qm]) rfl rfl, ?_⟩)
  (unfold runH; simp (maxSteps := 1000000) only [qp, qw, qm, qa, go_sem, setCells, setIn])
  (refine ⟨_, _, call_rx [0] Tryz.func99 (o0) rfl rfl rfl rfl rfl rfl rfl (by simp [lendAll, lendC, seek, fresh, nav, rcells, RT.cells, VV.cells, tabE_cons, tabS_cons, ev, take_map_len, sRow_r1, sRow_comp, sRow_clean, nRow_r1, nRow_comp, nRow_clean, qa]) rfl (by simp [rcells, RT.cells, CT.clean, T.clean, sRow_r1, sRow_comp, sRow_clean, nRow_r1, nRow_comp, nRow_clean, qa]) rfl rfl, ?_⟩)
  cases hv0 : volOk a
  · (unfold runH; simp (maxSteps := 1000000) only [hv0, go_sem, setCells, setIn])
    exact vw_ret (e_ret (ret_of rfl rfl (by simp [RB]) rfl rfl))
  (unfold runH; simp (maxSteps := 1000000) only [hv0, qp, qw, qm, go_sem, setCells, setIn])
  (refine ⟨_, _, call_rx [0, 0] Tryz.func100 (v1) rfl rfl rfl rfl rfl rfl rfl (by simp [lendAll, lendC, seek, fresh, nav, rcells, RT.cells, VV.cells, tabE_cons, tabS_cons, ev, take_map_len, lit, sRow_r1, sRow_comp, sRow_clean, nRow_r1, nRow_comp, nRow_clean, qp, qw, qm]) rfl (by simp [rcells, RT.cells, CT.clean, T.clean, lit, sRow_r1, sRow_comp, sRow_clean, nRow_r1, nRow_comp, nRow_clean, qp, qw, qm]) rfl rfl, ?_⟩)
  (unfold runH; simp (maxSteps := 1000000) only [qp, qw, qm, qb, go_sem, setCells, setIn])
  (refine ⟨_, _, call_rx [0] Tryz.func99 (o1) rfl rfl rfl rfl rfl rfl rfl (by simp [lendAll, lendC, seek, fresh, nav, rcells, RT.cells, VV.cells, tabE_cons, tabS_cons, ev, take_map_len, sRow_r1, sRow_comp, sRow_clean, nRow_r1, nRow_comp, nRow_clean, qb]) rfl (by simp [rcells, RT.cells, CT.clean, T.clean, sRow_r1, sRow_comp, sRow_clean, nRow_r1, nRow_comp, nRow_clean, qb]) rfl rfl, ?_⟩)
  cases hv1 : volOk b
  · (unfold runH; simp (maxSteps := 1000000) only [hv1, go_sem, setCells, setIn])
    exact vw_ret (e_ret (ret_of rfl rfl (by simp [RB]) rfl rfl))
  · (unfold runH; simp (maxSteps := 1000000) only [hv1, go_sem, setCells, setIn])
    exact vw_ret (e_ret (ret_of rfl rfl (by simp [RB]) rfl rfl))

theorem runs_37 (f : FtlV) (hs : f.small) : Runs Tryz.prog 37 [.agg [.v (.list false 1 (f.pages.map sRow)), .v (.list false 1 (f.wear.map nRow)), .v (.list false 1 (f.map.map nRow)), .v (.int .i64 f.seq)]] [.one (.v (.bool (wholeF f)))] [] := by
  refine runs_tab (tab := [(0, .agg [.c (.list false 1 (f.pages.map sRow)), .c (.list false 1 (f.wear.map nRow)), .c (.list false 1 (f.map.map nRow)), .c (.int .i64 f.seq)])]) (rts := []) (n := 20) (k := 4) Tryz.func37 rfl rfl (by simp) rfl (fun t => ?_) rfl ?_
  · rcases t with _ | t <;> rfl
  have r0 := runs_84 f hs
  have qp : (f.pages.map sRow).take f.pages.length = f.pages.map sRow := by rw [List.take_of_length_le (by simp)]
  have qw : (f.wear.map nRow).take f.wear.length = f.wear.map nRow := by rw [List.take_of_length_le (by simp)]
  have qm : (f.map.map nRow).take f.map.length = f.map.map nRow := by rw [List.take_of_length_le (by simp)]
  have hright : ftlOk f = true → f.right := right_of hs
  have hvc : ∀ v : Nat, v ≤ 1 → ftlOk f = true → volC f v = volF f v := by
    intro v hv h
    unfold volC
    have : inB (v : Int) 0 1 = true := by simp only [inB, Bool.and_eq_true, decide_eq_true_eq]; omega
    rw [this, h]; rfl
  unfold wholeF
  (refine vw_go rfl ?_; simp only [go_sem, setCells, setIn])
  (refine vw_go rfl ?_; simp only [qp, qw, qm, go_sem, setCells, setIn])
  (refine ⟨_, _, call_rx [0] Tryz.func84 (r0) rfl rfl rfl rfl rfl rfl rfl (by simp [lendAll, lendC, seek, fresh, nav, rcells, RT.cells, VV.cells, tabE_cons, tabS_cons, ev, take_map_len, sRow_r1, sRow_comp, sRow_clean, nRow_r1, nRow_comp, nRow_clean, qp, qw, qm]) rfl (by simp [rcells, RT.cells, CT.clean, T.clean, sRow_r1, sRow_comp, sRow_clean, nRow_r1, nRow_comp, nRow_clean, qp, qw, qm]) rfl rfl, ?_⟩)
  generalize ftlOk f = ok at hright hvc ⊢
  cases ok
  case false =>
    (unfold runH; simp (maxSteps := 1000000) only [go_sem, setCells, setIn])
    exact vw_ret (e_ret (ret_of rfl rfl (by simp [RB]) rfl rfl))
  have hr := hright rfl
  have r1 := runs_87 f hr 24 (by decide)
  have v0 := runs_93 f hs ((0 : Nat) : Int)
  have v1 := runs_93 f hs ((1 : Nat) : Int)
  rw [hvc 0 (by decide) rfl] at v0
  rw [hvc 1 (by decide) rfl] at v1
  have o0 := runs_92 (volF f 0) (by rw [volF_len]; decide) (volF_size hr (by decide))
  have o1 := runs_92 (volF f 1) (by rw [volF_len]; decide) (volF_size hr (by decide))
  have l0 := volF_len f 0
  have l1 := volF_len f 1
  generalize volF f 0 = a at v0 o0 l0 ⊢
  generalize volF f 1 = b at v1 o1 l1 ⊢
  have qa : (a.map sRow).take a.length = a.map sRow := by rw [List.take_of_length_le (by simp)]
  have qb : (b.map sRow).take b.length = b.map sRow := by rw [List.take_of_length_le (by simp)]
  (unfold runH; simp (maxSteps := 1000000) only [qp, qw, qm, go_sem, setCells, setIn])
  (refine ⟨_, _, call_rx [0, 0] Tryz.func87 (r1) rfl rfl rfl rfl rfl rfl rfl (by simp [lendAll, lendC, seek, fresh, nav, rcells, RT.cells, VV.cells, tabE_cons, tabS_cons, ev, take_map_len, lit, sRow_r1, sRow_comp, sRow_clean, nRow_r1, nRow_comp, nRow_clean, qp, qw, qm]) rfl (by simp [rcells, RT.cells, CT.clean, T.clean, lit, sRow_r1, sRow_comp, sRow_clean, nRow_r1, nRow_comp, nRow_clean, qp, qw, qm]) rfl rfl, ?_⟩)
  by_cases h24 : secF f 24 = ⟨#[]⟩
  case neg =>
    rw [decide_eq_false h24]
    (unfold runH; simp (maxSteps := 1000000) only [h24, go_sem, setCells, setIn])
    exact vw_ret (e_ret (ret_of rfl rfl (by simp [RB]) rfl rfl))
  rw [decide_eq_true h24]
  (unfold runH; simp (maxSteps := 1000000) only [h24, qp, qw, qm, go_sem, setCells, setIn])
  (refine ⟨_, _, call_rx [0, 0] Tryz.func93 (v0) rfl rfl rfl rfl rfl rfl rfl (by simp [lendAll, lendC, seek, fresh, nav, rcells, RT.cells, VV.cells, tabE_cons, tabS_cons, ev, take_map_len, lit, sRow_r1, sRow_comp, sRow_clean, nRow_r1, nRow_comp, nRow_clean, qp, qw, qm]) rfl (by simp [rcells, RT.cells, CT.clean, T.clean, lit, sRow_r1, sRow_comp, sRow_clean, nRow_r1, nRow_comp, nRow_clean, qp, qw, qm]) rfl rfl, ?_⟩)
  (unfold runH; simp (maxSteps := 1000000) only [qp, qw, qm, qa, go_sem, setCells, setIn])
  (refine ⟨_, _, call_rx [0] Tryz.func92 (o0) rfl rfl rfl rfl rfl rfl rfl (by simp [lendAll, lendC, seek, fresh, nav, rcells, RT.cells, VV.cells, tabE_cons, tabS_cons, ev, take_map_len, sRow_r1, sRow_comp, sRow_clean, nRow_r1, nRow_comp, nRow_clean, qa]) rfl (by simp [rcells, RT.cells, CT.clean, T.clean, sRow_r1, sRow_comp, sRow_clean, nRow_r1, nRow_comp, nRow_clean, qa]) rfl rfl, ?_⟩)
  cases hv0 : volOk a
  · (unfold runH; simp (maxSteps := 1000000) only [hv0, go_sem, setCells, setIn])
    exact vw_ret (e_ret (ret_of rfl rfl (by simp [RB]) rfl rfl))
  (unfold runH; simp (maxSteps := 1000000) only [hv0, qp, qw, qm, go_sem, setCells, setIn])
  (refine ⟨_, _, call_rx [0, 0] Tryz.func93 (v1) rfl rfl rfl rfl rfl rfl rfl (by simp [lendAll, lendC, seek, fresh, nav, rcells, RT.cells, VV.cells, tabE_cons, tabS_cons, ev, take_map_len, lit, sRow_r1, sRow_comp, sRow_clean, nRow_r1, nRow_comp, nRow_clean, qp, qw, qm]) rfl (by simp [rcells, RT.cells, CT.clean, T.clean, lit, sRow_r1, sRow_comp, sRow_clean, nRow_r1, nRow_comp, nRow_clean, qp, qw, qm]) rfl rfl, ?_⟩)
  (unfold runH; simp (maxSteps := 1000000) only [qp, qw, qm, qb, go_sem, setCells, setIn])
  (refine ⟨_, _, call_rx [0] Tryz.func92 (o1) rfl rfl rfl rfl rfl rfl rfl (by simp [lendAll, lendC, seek, fresh, nav, rcells, RT.cells, VV.cells, tabE_cons, tabS_cons, ev, take_map_len, sRow_r1, sRow_comp, sRow_clean, nRow_r1, nRow_comp, nRow_clean, qb]) rfl (by simp [rcells, RT.cells, CT.clean, T.clean, sRow_r1, sRow_comp, sRow_clean, nRow_r1, nRow_comp, nRow_clean, qb]) rfl rfl, ?_⟩)
  cases hv1 : volOk b
  · (unfold runH; simp (maxSteps := 1000000) only [hv1, go_sem, setCells, setIn])
    exact vw_ret (e_ret (ret_of rfl rfl (by simp [RB]) rfl rfl))
  · (unfold runH; simp (maxSteps := 1000000) only [hv1, go_sem, setCells, setIn])
    exact vw_ret (e_ret (ret_of rfl rfl (by simp [RB]) rfl rfl))

end Go.Proofs.YtppbonbghmdhhaaGreat
