/- Take of both. Printed by a program (pfun.py). -/
import Derived.Test.YtppbonbghmdhhaaFPortM
namespace Go.Proofs.Ytppbonbghmdhhaa
open Go.VM
set_option maxRecDepth 100000
set_option linter.unusedSimpArgs false
set_option linter.unusedVariables false
attribute [local congr] vw_congr runV_congr runH_congr runW_congr runX_congr
attribute [go_sem] List.take_length

def takeF (x : PortV) : PortV × OpV × Bool := match x.asks with
  | [] => (x, ⟨0, ⟨#[]⟩, ⟨#[]⟩, ⟨#[]⟩⟩, false)
  | y :: ys => if portOk x = true then (⟨ys, x.tells⟩, y, true) else (x, ⟨0, ⟨#[]⟩, ⟨#[]⟩, ⟨#[]⟩⟩, false)
theorem takeF_no {x : PortV} (h : portOk x = false) : takeF x = (x, ⟨0, ⟨#[]⟩, ⟨#[]⟩, ⟨#[]⟩⟩, false) := by
  unfold takeF; split <;> simp [h]
theorem takeF_nil {x : PortV} (h : x.asks = []) : takeF x = (x, ⟨0, ⟨#[]⟩, ⟨#[]⟩, ⟨#[]⟩⟩, false) := by
  unfold takeF; rw [h]
theorem takeF_yes {x : PortV} {y : OpV} {ys : List OpV} (h : portOk x = true) (h' : x.asks = y :: ys) : takeF x = (⟨ys, x.tells⟩, y, true) := by
  unfold takeF; rw [h']; simp only [h, if_true]
theorem takeF_len (x : PortV) (ha : x.asks.length ≤ 2 ^ 20) (ht : x.tells.length ≤ 2 ^ 20) : (takeF x).1.asks.length ≤ 2 ^ 20 + 1 ∧ (takeF x).1.tells.length ≤ 2 ^ 20 + 1 := by
  unfold takeF
  split
  · simp; omega
  · rename_i y ys h
    have : x.asks.length = ys.length + 1 := by rw [h]; rfl
    split <;> simp <;> omega

theorem runs_48 (x : PortV) (ha : x.asks.length ≤ 2 ^ 20) (ht : x.tells.length ≤ 2 ^ 20) :
    Runs Try.prog 48 [.agg [.v (.list false 4 (x.asks.map opRow)), .v (.list false 2 (x.tells.map tellRow))]] [.agg [.v (.list true 4 ((takeF x).1.asks.map opRow)), .v (.list true 2 ((takeF x).1.tells.map tellRow))], .agg [.v (.int .i64 (takeF x).2.1.kind), .v (.str (takeF x).2.1.path), .v (.str (takeF x).2.1.to), .v (.str (takeF x).2.1.data)], .one (.v (.bool (takeF x).2.2))] [] := by
  refine runs_tab (tab := [(0, .agg [.c (.list false 4 (x.asks.map opRow)), .c (.list false 2 (x.tells.map tellRow))])]) (rts := []) (n := 30) (k := 2) Try.func48 rfl rfl (by simp) rfl (fun t => ?_) rfl ?_
  · cases t <;> rfl
  (refine vw_go rfl ?_; simp only [go_sem, setCells, setIn, Int.reduceToNat, Int.reduceEq, Int.reduceLT, Int.reduceLE, Int.reduceNeg, Int.reduceSub, Int.reduceAdd, ge_iff_le, gt_iff_lt, ↓reduceIte, Nat.reduceEqDiff, Nat.reduceAdd, Nat.reduceMul, Nat.reduceLT, Nat.reduceLeDiff, Nat.reduceBEq, reduceCtorEq])
  (refine vw_go rfl ?_; simp only [go_sem, setCells, setIn, Int.reduceToNat, Int.reduceEq, Int.reduceLT, Int.reduceLE, Int.reduceNeg, Int.reduceSub, Int.reduceAdd, ge_iff_le, gt_iff_lt, ↓reduceIte, Nat.reduceEqDiff, Nat.reduceAdd, Nat.reduceMul, Nat.reduceLT, Nat.reduceLeDiff, Nat.reduceBEq, reduceCtorEq])
  (refine ⟨_, _, call_rx [0] Try.func108 (runs_108 x ha ht) rfl rfl rfl rfl rfl rfl rfl (by simp [lendAll, lendC, seek, fresh, nav, rcells, RT.cells, VV.cells, tabE_cons, tabS_cons, ev, take_map_len, opRow_r1, opRow_clean, tellRow_r1, tellRow_clean]) rfl (by simp [rcells, RT.cells, CT.clean, T.clean, opRow_r1, opRow_clean, tellRow_r1, tellRow_clean]) rfl rfl, ?_⟩)
  simp only [runH, runX, go_sem, setCells, setIn, Int.reduceToNat, Int.reduceEq, Int.reduceLT, Int.reduceLE, Int.reduceNeg, Int.reduceSub, Int.reduceAdd, ge_iff_le, gt_iff_lt, ↓reduceIte, Nat.reduceEqDiff, Nat.reduceAdd, Nat.reduceMul, Nat.reduceLT, Nat.reduceLeDiff, Nat.reduceBEq, reduceCtorEq]
  refine vw_seq ?_
  (refine vw_go rfl ?_; simp only [go_sem, setCells, setIn, Int.reduceToNat, Int.reduceEq, Int.reduceLT, Int.reduceLE, Int.reduceNeg, Int.reduceSub, Int.reduceAdd, ge_iff_le, gt_iff_lt, ↓reduceIte, Nat.reduceEqDiff, Nat.reduceAdd, Nat.reduceMul, Nat.reduceLT, Nat.reduceLeDiff, Nat.reduceBEq, reduceCtorEq])
  (refine ⟨_, _, call_rx [0] Try.func43 (runs_43 x) rfl rfl rfl rfl rfl rfl rfl (by simp [lendAll, lendC, seek, fresh, nav, rcells, RT.cells, VV.cells, tabE_cons, tabS_cons, ev, take_map_len, opRow_r1, opRow_clean, tellRow_r1, tellRow_clean]) rfl (by simp [rcells, RT.cells, CT.clean, T.clean, opRow_r1, opRow_clean, tellRow_r1, tellRow_clean]) rfl rfl, ?_⟩)
  cases hp : portOk x
  · simp only [runH, runX, go_sem, setCells, setIn, Int.reduceToNat, Int.reduceEq, Int.reduceLT, Int.reduceLE, Int.reduceNeg, Int.reduceSub, Int.reduceAdd, ge_iff_le, gt_iff_lt, ↓reduceIte, Nat.reduceEqDiff, Nat.reduceAdd, Nat.reduceMul, Nat.reduceLT, Nat.reduceLeDiff, Nat.reduceBEq, reduceCtorEq]
    refine vw_cond (t := true) rfl (fun h => ?_) (fun h => ?_)
    case refine_2 => cases h
    (refine vw_go rfl ?_; simp only [go_sem, setCells, setIn, Int.reduceToNat, Int.reduceEq, Int.reduceLT, Int.reduceLE, Int.reduceNeg, Int.reduceSub, Int.reduceAdd, ge_iff_le, gt_iff_lt, ↓reduceIte, Nat.reduceEqDiff, Nat.reduceAdd, Nat.reduceMul, Nat.reduceLT, Nat.reduceLeDiff, Nat.reduceBEq, reduceCtorEq])
    rw [takeF_no hp]
    exact vw_ret (r_then (e_ret (ret_by rfl rfl (by simp [RB]) rfl (by simp only [takeCs, takeC, go_sem, setCells, setIn, Int.reduceToNat, Int.reduceEq, Int.reduceLT, Int.reduceLE, Int.reduceNeg, Int.reduceSub, Int.reduceAdd, ge_iff_le, gt_iff_lt, ↓reduceIte, Nat.reduceEqDiff, Nat.reduceAdd, Nat.reduceMul, Nat.reduceLT, Nat.reduceLeDiff, Nat.reduceBEq, reduceCtorEq]))))
  · simp only [runH, runX, go_sem, setCells, setIn, Int.reduceToNat, Int.reduceEq, Int.reduceLT, Int.reduceLE, Int.reduceNeg, Int.reduceSub, Int.reduceAdd, ge_iff_le, gt_iff_lt, ↓reduceIte, Nat.reduceEqDiff, Nat.reduceAdd, Nat.reduceMul, Nat.reduceLT, Nat.reduceLeDiff, Nat.reduceBEq, reduceCtorEq]
    refine vw_cond (t := decide ((x.asks.length : Int) = 0)) rfl (fun h => ?_) (fun h => ?_)
    · (refine vw_go rfl ?_; simp only [go_sem, setCells, setIn, Int.reduceToNat, Int.reduceEq, Int.reduceLT, Int.reduceLE, Int.reduceNeg, Int.reduceSub, Int.reduceAdd, ge_iff_le, gt_iff_lt, ↓reduceIte, Nat.reduceEqDiff, Nat.reduceAdd, Nat.reduceMul, Nat.reduceLT, Nat.reduceLeDiff, Nat.reduceBEq, reduceCtorEq])
      have h0 : x.asks = [] := by
        simp only [decide_eq_true_eq] at h
        exact List.eq_nil_of_length_eq_zero (by omega)
      rw [takeF_nil h0]
      exact vw_ret (r_then (e_ret (ret_by rfl rfl (by simp [RB]) rfl (by simp only [takeCs, takeC, go_sem, setCells, setIn, Int.reduceToNat, Int.reduceEq, Int.reduceLT, Int.reduceLE, Int.reduceNeg, Int.reduceSub, Int.reduceAdd, ge_iff_le, gt_iff_lt, ↓reduceIte, Nat.reduceEqDiff, Nat.reduceAdd, Nat.reduceMul, Nat.reduceLT, Nat.reduceLeDiff, Nat.reduceBEq, reduceCtorEq]))))
    refine vw_skip (n_then ?_)
    obtain ⟨y, ys, hy⟩ : ∃ y ys, x.asks = y :: ys := by
      cases hx : x.asks with
      | nil => rw [hx] at h; simp at h
      | cons y ys => exact ⟨y, ys, rfl⟩
    have B1 : ¬ (ys.length + 1) * (56 + 1) > bigRow := by
      have : x.asks.length = ys.length + 1 := by rw [hy]; rfl
      simp only [bigRow]; omega
    have p1 : 1 ≤ ys.length + 1 := by omega
    have p2 : ys.length + 1 - 1 = ys.length := by omega
    have p4 : 1 + ys.length ≤ ys.length + 1 := by omega
    have p3 : (0:Int) < ((ys.length + 1 : Nat) : Int) := by omega
    rw [takeF_yes hp hy]
    simp only [hy, List.map_cons]
    (refine vw_go rfl ?_; simp only [range1, List.replicate_succ, List.replicate_zero, List.flatten_cons, List.flatten_nil, List.range_zero, gt_iff_lt, B1, p1, p2, p4, opRow_noOwn, List.length_append, go_sem, setCells, setIn, Int.reduceToNat, Int.reduceEq, Int.reduceLT, Int.reduceLE, Int.reduceNeg, Int.reduceSub, Int.reduceAdd, ge_iff_le, gt_iff_lt, ↓reduceIte, Nat.reduceEqDiff, Nat.reduceAdd, Nat.reduceMul, Nat.reduceLT, Nat.reduceLeDiff, Nat.reduceBEq, reduceCtorEq])
    (refine vw_draw mixed rfl rfl ?_; simp only [p3, Int.reduceToNat, opRow, go_sem, setCells, setIn, Int.reduceToNat, Int.reduceEq, Int.reduceLT, Int.reduceLE, Int.reduceNeg, Int.reduceSub, Int.reduceAdd, ge_iff_le, gt_iff_lt, ↓reduceIte, Nat.reduceEqDiff, Nat.reduceAdd, Nat.reduceMul, Nat.reduceLT, Nat.reduceLeDiff, Nat.reduceBEq, reduceCtorEq])
    refine ⟨by unfold allOk; kernel_rfl, ?_⟩
    exact vw_ret (e_ret (ret_by rfl rfl (by simp [RB]) rfl (by simp only [takeCs, takeC, go_sem, setCells, setIn, Int.reduceToNat, Int.reduceEq, Int.reduceLT, Int.reduceLE, Int.reduceNeg, Int.reduceSub, Int.reduceAdd, ge_iff_le, gt_iff_lt, ↓reduceIte, Nat.reduceEqDiff, Nat.reduceAdd, Nat.reduceMul, Nat.reduceLT, Nat.reduceLeDiff, Nat.reduceBEq, reduceCtorEq])))

theorem runs_44 (x : PortV) (ha : x.asks.length ≤ 2 ^ 20) (ht : x.tells.length ≤ 2 ^ 20) :
    Runs Try.prog 44 [.agg [.v (.list false 4 (x.asks.map opRow)), .v (.list false 2 (x.tells.map tellRow))]] [.agg [.v (.list true 4 ((takeF x).1.asks.map opRow)), .v (.list true 2 ((takeF x).1.tells.map tellRow))], .agg [.v (.int .i64 (takeF x).2.1.kind), .v (.str (takeF x).2.1.path), .v (.str (takeF x).2.1.to), .v (.str (takeF x).2.1.data)], .one (.v (.bool (takeF x).2.2))] [] := by
  refine runs_tab (tab := [(0, .agg [.c (.list false 4 (x.asks.map opRow)), .c (.list false 2 (x.tells.map tellRow))])]) (rts := []) (n := 28) (k := 2) Try.func44 rfl rfl (by simp) rfl (fun t => ?_) rfl ?_
  · cases t <;> rfl
  (refine vw_go rfl ?_; simp only [go_sem, setCells, setIn, Int.reduceToNat, Int.reduceEq, Int.reduceLT, Int.reduceLE, Int.reduceNeg, Int.reduceSub, Int.reduceAdd, ge_iff_le, gt_iff_lt, ↓reduceIte, Nat.reduceEqDiff, Nat.reduceAdd, Nat.reduceMul, Nat.reduceLT, Nat.reduceLeDiff, Nat.reduceBEq, reduceCtorEq])
  (refine vw_go rfl ?_; simp only [go_sem, setCells, setIn, Int.reduceToNat, Int.reduceEq, Int.reduceLT, Int.reduceLE, Int.reduceNeg, Int.reduceSub, Int.reduceAdd, ge_iff_le, gt_iff_lt, ↓reduceIte, Nat.reduceEqDiff, Nat.reduceAdd, Nat.reduceMul, Nat.reduceLT, Nat.reduceLeDiff, Nat.reduceBEq, reduceCtorEq])
  (refine ⟨_, _, call_rx [0] Try.func107 (runs_107 x ha ht) rfl rfl rfl rfl rfl rfl rfl (by simp [lendAll, lendC, seek, fresh, nav, rcells, RT.cells, VV.cells, tabE_cons, tabS_cons, ev, take_map_len, opRow_r1, opRow_clean, tellRow_r1, tellRow_clean]) rfl (by simp [rcells, RT.cells, CT.clean, T.clean, opRow_r1, opRow_clean, tellRow_r1, tellRow_clean]) rfl rfl, ?_⟩)
  simp only [runH, runX, go_sem, setCells, setIn, Int.reduceToNat, Int.reduceEq, Int.reduceLT, Int.reduceLE, Int.reduceNeg, Int.reduceSub, Int.reduceAdd, ge_iff_le, gt_iff_lt, ↓reduceIte, Nat.reduceEqDiff, Nat.reduceAdd, Nat.reduceMul, Nat.reduceLT, Nat.reduceLeDiff, Nat.reduceBEq, reduceCtorEq]
  refine vw_seq ?_
  (refine vw_go rfl ?_; simp only [go_sem, setCells, setIn, Int.reduceToNat, Int.reduceEq, Int.reduceLT, Int.reduceLE, Int.reduceNeg, Int.reduceSub, Int.reduceAdd, ge_iff_le, gt_iff_lt, ↓reduceIte, Nat.reduceEqDiff, Nat.reduceAdd, Nat.reduceMul, Nat.reduceLT, Nat.reduceLeDiff, Nat.reduceBEq, reduceCtorEq])
  (refine ⟨_, _, call_rx [0] Try.func42 (runs_42 x) rfl rfl rfl rfl rfl rfl rfl (by simp [lendAll, lendC, seek, fresh, nav, rcells, RT.cells, VV.cells, tabE_cons, tabS_cons, ev, take_map_len, opRow_r1, opRow_clean, tellRow_r1, tellRow_clean]) rfl (by simp [rcells, RT.cells, CT.clean, T.clean, opRow_r1, opRow_clean, tellRow_r1, tellRow_clean]) rfl rfl, ?_⟩)
  cases hp : portOk x
  · simp only [runH, runX, go_sem, setCells, setIn, Int.reduceToNat, Int.reduceEq, Int.reduceLT, Int.reduceLE, Int.reduceNeg, Int.reduceSub, Int.reduceAdd, ge_iff_le, gt_iff_lt, ↓reduceIte, Nat.reduceEqDiff, Nat.reduceAdd, Nat.reduceMul, Nat.reduceLT, Nat.reduceLeDiff, Nat.reduceBEq, reduceCtorEq]
    refine vw_cond (t := true) rfl (fun h => ?_) (fun h => ?_)
    case refine_2 => cases h
    (refine vw_go rfl ?_; simp only [go_sem, setCells, setIn, Int.reduceToNat, Int.reduceEq, Int.reduceLT, Int.reduceLE, Int.reduceNeg, Int.reduceSub, Int.reduceAdd, ge_iff_le, gt_iff_lt, ↓reduceIte, Nat.reduceEqDiff, Nat.reduceAdd, Nat.reduceMul, Nat.reduceLT, Nat.reduceLeDiff, Nat.reduceBEq, reduceCtorEq])
    rw [takeF_no hp]
    exact vw_ret (r_then (e_ret (ret_by rfl rfl (by simp [RB]) rfl (by simp only [takeCs, takeC, go_sem, setCells, setIn, Int.reduceToNat, Int.reduceEq, Int.reduceLT, Int.reduceLE, Int.reduceNeg, Int.reduceSub, Int.reduceAdd, ge_iff_le, gt_iff_lt, ↓reduceIte, Nat.reduceEqDiff, Nat.reduceAdd, Nat.reduceMul, Nat.reduceLT, Nat.reduceLeDiff, Nat.reduceBEq, reduceCtorEq]))))
  · simp only [runH, runX, go_sem, setCells, setIn, Int.reduceToNat, Int.reduceEq, Int.reduceLT, Int.reduceLE, Int.reduceNeg, Int.reduceSub, Int.reduceAdd, ge_iff_le, gt_iff_lt, ↓reduceIte, Nat.reduceEqDiff, Nat.reduceAdd, Nat.reduceMul, Nat.reduceLT, Nat.reduceLeDiff, Nat.reduceBEq, reduceCtorEq]
    refine vw_cond (t := decide ((x.asks.length : Int) = 0)) rfl (fun h => ?_) (fun h => ?_)
    · (refine vw_go rfl ?_; simp only [go_sem, setCells, setIn, Int.reduceToNat, Int.reduceEq, Int.reduceLT, Int.reduceLE, Int.reduceNeg, Int.reduceSub, Int.reduceAdd, ge_iff_le, gt_iff_lt, ↓reduceIte, Nat.reduceEqDiff, Nat.reduceAdd, Nat.reduceMul, Nat.reduceLT, Nat.reduceLeDiff, Nat.reduceBEq, reduceCtorEq])
      have h0 : x.asks = [] := by
        simp only [decide_eq_true_eq] at h
        exact List.eq_nil_of_length_eq_zero (by omega)
      rw [takeF_nil h0]
      exact vw_ret (r_then (e_ret (ret_by rfl rfl (by simp [RB]) rfl (by simp only [takeCs, takeC, go_sem, setCells, setIn, Int.reduceToNat, Int.reduceEq, Int.reduceLT, Int.reduceLE, Int.reduceNeg, Int.reduceSub, Int.reduceAdd, ge_iff_le, gt_iff_lt, ↓reduceIte, Nat.reduceEqDiff, Nat.reduceAdd, Nat.reduceMul, Nat.reduceLT, Nat.reduceLeDiff, Nat.reduceBEq, reduceCtorEq]))))
    refine vw_skip (n_then ?_)
    obtain ⟨y, ys, hy⟩ : ∃ y ys, x.asks = y :: ys := by
      cases hx : x.asks with
      | nil => rw [hx] at h; simp at h
      | cons y ys => exact ⟨y, ys, rfl⟩
    have B1 : ¬ (ys.length + 1) * (56 + 1) > bigRow := by
      have : x.asks.length = ys.length + 1 := by rw [hy]; rfl
      simp only [bigRow]; omega
    have p1 : 1 ≤ ys.length + 1 := by omega
    have p2 : ys.length + 1 - 1 = ys.length := by omega
    have p4 : 1 + ys.length ≤ ys.length + 1 := by omega
    have p3 : (0:Int) < ((ys.length + 1 : Nat) : Int) := by omega
    rw [takeF_yes hp hy]
    simp only [hy, List.map_cons]
    (refine vw_go rfl ?_; simp only [range1, List.replicate_succ, List.replicate_zero, List.flatten_cons, List.flatten_nil, List.range_zero, gt_iff_lt, B1, p1, p2, p4, opRow_noOwn, List.length_append, go_sem, setCells, setIn, Int.reduceToNat, Int.reduceEq, Int.reduceLT, Int.reduceLE, Int.reduceNeg, Int.reduceSub, Int.reduceAdd, ge_iff_le, gt_iff_lt, ↓reduceIte, Nat.reduceEqDiff, Nat.reduceAdd, Nat.reduceMul, Nat.reduceLT, Nat.reduceLeDiff, Nat.reduceBEq, reduceCtorEq])
    (refine vw_draw mixed rfl rfl ?_; simp only [p3, Int.reduceToNat, opRow, go_sem, setCells, setIn, Int.reduceToNat, Int.reduceEq, Int.reduceLT, Int.reduceLE, Int.reduceNeg, Int.reduceSub, Int.reduceAdd, ge_iff_le, gt_iff_lt, ↓reduceIte, Nat.reduceEqDiff, Nat.reduceAdd, Nat.reduceMul, Nat.reduceLT, Nat.reduceLeDiff, Nat.reduceBEq, reduceCtorEq])
    refine ⟨by unfold allOk; kernel_rfl, ?_⟩
    exact vw_ret (e_ret (ret_by rfl rfl (by simp [RB]) rfl (by simp only [takeCs, takeC, go_sem, setCells, setIn, Int.reduceToNat, Int.reduceEq, Int.reduceLT, Int.reduceLE, Int.reduceNeg, Int.reduceSub, Int.reduceAdd, ge_iff_le, gt_iff_lt, ↓reduceIte, Nat.reduceEqDiff, Nat.reduceAdd, Nat.reduceMul, Nat.reduceLT, Nat.reduceLeDiff, Nat.reduceBEq, reduceCtorEq])))

end Go.Proofs.Ytppbonbghmdhhaa
