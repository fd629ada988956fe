/- Ports: marks, marks read again, copies. -/
import Derived.Test.YtppbonbghmdhhaaPFPort
import Derived.Test.YtppbonbghmdhhaaPFOpM
import Derived.Test.YtppbonbghmdhhaaPFTellM
namespace Go.Proofs.Ytppbonbghmdhhaa
open Go.VM
set_option maxRecDepth 100000
set_option linter.unusedSimpArgs false
set_option linter.unusedVariables false
attribute [local congr] vw_congr runV_congr runH_congr runW_congr runX_congr

theorem runs_108 (x : PortV) (ha : x.asks.length ≤ 2 ^ 20) (ht : x.tells.length ≤ 2 ^ 20) :
    Runs Try.prog 108 [.agg [.v (.list false 4 (x.asks.map opRow)), .v (.list false 2 (x.tells.map tellRow))]] [.agg [.v (.list true 4 (x.asks.map opRow)), .v (.list true 2 (x.tells.map tellRow))]] [] := by
  refine runs_tab (tab := [(0, .agg [.c (.list false 4 (x.asks.map opRow)), .c (.list false 2 (x.tells.map tellRow))])]) (rts := []) (n := 12) (k := 2) Try.func108 rfl rfl (by simp) rfl (fun t => ?_) rfl ?_
  · cases t <;> rfl
  have B1 : ¬ (x.asks.length + 1) * (56 + 1) > bigRow := by simp only [bigRow]; omega
  have B2 : ¬ (x.tells.length + 1) * (24 + 1) > bigRow := by simp only [bigRow]; omega
  (refine vw_go rfl ?_; simp only [go_sem, setCells, setIn, Int.reduceToNat, Int.reduceEq, Int.reduceLT, Int.reduceLE, Int.reduceNeg, Int.reduceSub, Int.reduceAdd, ge_iff_le, gt_iff_lt, ↓reduceIte, Nat.reduceEqDiff, Nat.reduceAdd, Nat.reduceMul, Nat.reduceLT, Nat.reduceLeDiff, Nat.reduceBEq, reduceCtorEq])
  (refine vw_draw mixed rfl rfl ?_; simp only [range1, List.replicate_succ, List.replicate_zero, List.flatten_cons, List.flatten_nil, List.range_zero, gt_iff_lt, opRow_noOwn, tellRow_noOwn, B1, B2, go_sem, setCells, setIn, Int.reduceToNat, Int.reduceEq, Int.reduceLT, Int.reduceLE, Int.reduceNeg, Int.reduceSub, Int.reduceAdd, ge_iff_le, gt_iff_lt, ↓reduceIte, Nat.reduceEqDiff, Nat.reduceAdd, Nat.reduceMul, Nat.reduceLT, Nat.reduceLeDiff, Nat.reduceBEq, reduceCtorEq])
  refine ⟨by unfold allOk; kernel_rfl, ?_⟩
  exact vw_ret (e_ret (ret_by rfl rfl (by simp [RB]) rfl (by simp only [takeCs, takeC, go_sem, setCells, setIn, Int.reduceToNat, Int.reduceEq, Int.reduceLT, Int.reduceLE, Int.reduceNeg, Int.reduceSub, Int.reduceAdd, ge_iff_le, gt_iff_lt, ↓reduceIte, Nat.reduceEqDiff, Nat.reduceAdd, Nat.reduceMul, Nat.reduceLT, Nat.reduceLeDiff, Nat.reduceBEq, reduceCtorEq])))

theorem runs_107 (x : PortV) (ha : x.asks.length ≤ 2 ^ 20) (ht : x.tells.length ≤ 2 ^ 20) :
    Runs Try.prog 107 [.agg [.v (.list false 4 (x.asks.map opRow)), .v (.list false 2 (x.tells.map tellRow))]] [.agg [.v (.list true 4 (x.asks.map opRow)), .v (.list true 2 (x.tells.map tellRow))]] [] := by
  refine runs_tab (tab := [(0, .agg [.c (.list false 4 (x.asks.map opRow)), .c (.list false 2 (x.tells.map tellRow))])]) (rts := []) (n := 10) (k := 2) Try.func107 rfl rfl (by simp) rfl (fun t => ?_) rfl ?_
  · cases t <;> rfl
  (refine vw_go rfl ?_; simp only [go_sem, setCells, setIn, Int.reduceToNat, Int.reduceEq, Int.reduceLT, Int.reduceLE, Int.reduceNeg, Int.reduceSub, Int.reduceAdd, ge_iff_le, gt_iff_lt, ↓reduceIte, Nat.reduceEqDiff, Nat.reduceAdd, Nat.reduceMul, Nat.reduceLT, Nat.reduceLeDiff, Nat.reduceBEq, reduceCtorEq])
  (refine vw_draw mixed rfl rfl ?_; simp only [go_sem, setCells, setIn, Int.reduceToNat, Int.reduceEq, Int.reduceLT, Int.reduceLE, Int.reduceNeg, Int.reduceSub, Int.reduceAdd, ge_iff_le, gt_iff_lt, ↓reduceIte, Nat.reduceEqDiff, Nat.reduceAdd, Nat.reduceMul, Nat.reduceLT, Nat.reduceLeDiff, Nat.reduceBEq, reduceCtorEq])
  (refine ⟨_, _, _, call_rx_at [0] [] Try.func149 (runs_149 x.asks ha) rfl rfl rfl rfl rfl rfl rfl (fun st1 hst1 => by (try simp only [List.mem_cons, List.not_mem_nil, or_false, false_or, forall_eq_or_imp, forall_eq] at hst1); simp [lendAll, lendC, seek, fresh, nav, rcells, RT.cells, VV.cells, tabE_cons, tabS_cons, ev, take_map_len, hst1, opRow_r1, opRow_clean, tellRow_r1, tellRow_clean]) rfl (by simp [rcells, RT.cells, CT.clean, T.clean, opRow_r1, opRow_clean, tellRow_r1, tellRow_clean]) rfl rfl, ?_⟩)
  simp only [runH, runX, go_sem, setCells, setIn, Int.reduceToNat, Int.reduceEq, Int.reduceLT, Int.reduceLE, Int.reduceNeg, Int.reduceSub, Int.reduceAdd, ge_iff_le, gt_iff_lt, ↓reduceIte, Nat.reduceEqDiff, Nat.reduceAdd, Nat.reduceMul, Nat.reduceLT, Nat.reduceLeDiff, Nat.reduceBEq, reduceCtorEq]
  (refine ⟨_, _, _, call_rx_at [0] [] Try.func93 (runs_93 x.tells ht) rfl rfl rfl rfl rfl rfl rfl (fun st1 hst1 => by (try simp only [List.mem_cons, List.not_mem_nil, or_false, false_or, forall_eq_or_imp, forall_eq] at hst1); simp [lendAll, lendC, seek, fresh, nav, rcells, RT.cells, VV.cells, tabE_cons, tabS_cons, ev, take_map_len, hst1, opRow_r1, opRow_clean, tellRow_r1, tellRow_clean]) rfl (by simp [rcells, RT.cells, CT.clean, T.clean, opRow_r1, opRow_clean, tellRow_r1, tellRow_clean]) rfl rfl, ?_⟩)
  simp only [runH, runX, go_sem, setCells, setIn, Int.reduceToNat, Int.reduceEq, Int.reduceLT, Int.reduceLE, Int.reduceNeg, Int.reduceSub, Int.reduceAdd, ge_iff_le, gt_iff_lt, ↓reduceIte, Nat.reduceEqDiff, Nat.reduceAdd, Nat.reduceMul, Nat.reduceLT, Nat.reduceLeDiff, Nat.reduceBEq, reduceCtorEq]
  refine ⟨by unfold allOk; kernel_rfl, ?_⟩
  exact vw_ret (e_ret (ret_by rfl rfl (by simp [RB]) rfl (by simp only [takeCs, takeC, go_sem, setCells, setIn, Int.reduceToNat, Int.reduceEq, Int.reduceLT, Int.reduceLE, Int.reduceNeg, Int.reduceSub, Int.reduceAdd, ge_iff_le, gt_iff_lt, ↓reduceIte, Nat.reduceEqDiff, Nat.reduceAdd, Nat.reduceMul, Nat.reduceLT, Nat.reduceLeDiff, Nat.reduceBEq, reduceCtorEq])))
end Go.Proofs.Ytppbonbghmdhhaa
