/- Nodes: pairs and Kid of the implementation. -/
import Derived.Test.YtplnflkabpcaaaaDoorFKid
import Derived.Test.YtplnflkabpcaaaaDoorFSlices
import Derived.Test.YtplnflkabpcaaaaDoorFMark
namespace Go.Proofs.YtplnflkabpcaaaaDoor
open Go.VM Go
set_option maxRecDepth 100000
set_option linter.unusedSimpArgs false
set_option linter.unusedVariables false
attribute [-go_sem] runW_cons
attribute [local congr] vw_congr runV_congr runH_congr runW_congr runX_congr

theorem idx_kid : ∀ (xs : List ByteArray) (ys : List Int) (s : ByteArray) (i : Nat), xs.length = ys.length → idxOf (fun x => decide (s = x)) xs i = kidIx xs ys s i
  | [], [], s, i, _ => by unfold kidIx idxOf; rfl
  | a :: xs, b :: ys, s, i, h => by
    unfold kidIx idxOf
    rw [idx_kid xs ys s (i + 1) (by simpa using h)]
    by_cases e : a = s
    · subst e; simp
    · simp [e, show ¬ s = a from fun h => e h.symm]

set_option maxHeartbeats 1000000 in
theorem runs_29 (n : NodeV) (h : n.names.length = n.kids.length) (h1 : n.names.length ≤ 2 ^ 20) :
    Runs Tryd.prog 29 [.agg [.v (.bool n.dir), .v (.list false 1 (n.names.map sRow)), .v (.list false 1 (n.kids.map nRow)), .v (.str n.data)]] [.agg [.v (.bool n.dir), .v (.list true 1 (n.names.map sRow)), .v (.list true 1 (n.kids.map nRow)), .v (.str n.data)]] [] := by
  refine runs_tab (tab := [(0, .agg [.c (.bool n.dir), .c (.list false 1 (n.names.map sRow)), .c (.list false 1 (n.kids.map nRow)), .c (.str n.data)])]) (rts := []) (n := 26) (k := 4) Tryd.func29 rfl rfl (by simp) rfl (fun t => ?_) rfl ?_
  · rcases t with _ | t <;> rfl
  have bn : List.take n.kids.length (n.names.map sRow) = n.names.map sRow := List.take_of_length_le (by simp [h])
  have bk : List.take n.kids.length (n.kids.map nRow) = n.kids.map nRow := List.take_of_length_le (by simp)
  have rS := runs_37 n.names h1
  have rI := runs_38 n.kids (by omega)
  have d0 : (0:Int) ≤ (n.kids.length : Int) := by omega
  have mm : min (n.kids.length : Int) (n.kids.length : Int) = (n.kids.length : Int) := by omega
  have mi : ¬ (n.kids.length : Int) < n.kids.length := Int.lt_irrefl _
  (refine vw_go rfl ?_; simp only [go_sem, setCells, setIn, Int.reduceToNat, Int.reduceEq, Int.reduceLT, Int.reduceLE, Int.reduceNeg, Int.reduceSub, Int.reduceAdd, ge_iff_le, gt_iff_lt, ↓reduceIte, Nat.reduceEqDiff, Nat.reduceAdd, Nat.reduceMul, Nat.reduceLT, Nat.reduceLeDiff, Nat.reduceBEq, reduceCtorEq])
  (refine vw_go rfl ?_; simp only [h, mi, go_sem, setCells, setIn, Int.reduceToNat, Int.reduceEq, Int.reduceLT, Int.reduceLE, Int.reduceNeg, Int.reduceSub, Int.reduceAdd, ge_iff_le, gt_iff_lt, ↓reduceIte, Nat.reduceEqDiff, Nat.reduceAdd, Nat.reduceMul, Nat.reduceLT, Nat.reduceLeDiff, Nat.reduceBEq, reduceCtorEq])
  (refine vw_drawA mixed rfl rfl ?_; intro A hAA)
  simp (maxSteps := 1000000) only [d0, Int.toNat_natCast, h, bn, bk, List.drop_zero, mi, go_sem, setCells, setIn, Int.reduceToNat, Int.reduceEq, Int.reduceLT, Int.reduceLE, Int.reduceNeg, Int.reduceSub, Int.reduceAdd, ge_iff_le, gt_iff_lt, ↓reduceIte, Nat.reduceEqDiff, Nat.reduceAdd, Nat.reduceMul, Nat.reduceLT, Nat.reduceLeDiff, Nat.reduceBEq, reduceCtorEq, runW_step]
  (refine ⟨_, _, _, call_rx_at [0] [4] Tryd.func37 (rS) rfl rfl rfl rfl rfl rfl rfl (fun st1 hst1 => by (try simp only [List.mem_cons, List.not_mem_nil, or_false, false_or, forall_eq_or_imp, forall_eq] at hst1); simp [lendAll, lendC, seek, fresh, nav, rcells, RT.cells, VV.cells, tabE_cons, tabS_cons, ev, take_map_len, hst1, sRow_r1, sRow_comp, sRow_clean, nRow_r1, nRow_comp, nRow_clean, bn]) rfl (by simp [rcells, RT.cells, CT.clean, T.clean, sRow_r1, sRow_comp, sRow_clean, nRow_r1, nRow_comp, nRow_clean, bn]) rfl rfl, ?_⟩)
  (unfold runX; simp (maxSteps := 1000000) only [d0, Int.toNat_natCast, h, bn, bk, List.drop_zero, mi, go_sem, setCells, setIn, Int.reduceToNat, Int.reduceEq, Int.reduceLT, Int.reduceLE, Int.reduceNeg, Int.reduceSub, Int.reduceAdd, ge_iff_le, gt_iff_lt, ↓reduceIte, Nat.reduceEqDiff, Nat.reduceAdd, Nat.reduceMul, Nat.reduceLT, Nat.reduceLeDiff, Nat.reduceBEq, reduceCtorEq, runW_step])
  (refine ⟨_, _, _, call_rx_at [0] [4] Tryd.func38 (rI) rfl rfl rfl rfl rfl rfl rfl (fun st1 hst1 => by (try simp only [List.mem_cons, List.not_mem_nil, or_false, false_or, forall_eq_or_imp, forall_eq] at hst1); simp [lendAll, lendC, seek, fresh, nav, rcells, RT.cells, VV.cells, tabE_cons, tabS_cons, ev, take_map_len, hst1, sRow_r1, sRow_comp, sRow_clean, nRow_r1, nRow_comp, nRow_clean, bk]) rfl (by simp [rcells, RT.cells, CT.clean, T.clean, sRow_r1, sRow_comp, sRow_clean, nRow_r1, nRow_comp, nRow_clean, bk]) rfl rfl, ?_⟩)
  (unfold runX; simp (maxSteps := 1000000) only [d0, Int.toNat_natCast, h, bn, bk, List.drop_zero, mi, go_sem, setCells, setIn, Int.reduceToNat, Int.reduceEq, Int.reduceLT, Int.reduceLE, Int.reduceNeg, Int.reduceSub, Int.reduceAdd, ge_iff_le, gt_iff_lt, ↓reduceIte, Nat.reduceEqDiff, Nat.reduceAdd, Nat.reduceMul, Nat.reduceLT, Nat.reduceLeDiff, Nat.reduceBEq, reduceCtorEq, runW_step])
  refine ⟨by subst hAA; unfold allOk; kernel_rfl, ?_⟩
  exact vw_ret (e_ret (ret_by rfl rfl (by simp [RB]) rfl (by simp only [takeCs, takeC, go_sem, setCells, setIn, Int.reduceToNat, Int.reduceEq, Int.reduceLT, Int.reduceLE, Int.reduceNeg, Int.reduceSub, Int.reduceAdd, ge_iff_le, gt_iff_lt, ↓reduceIte, Nat.reduceEqDiff, Nat.reduceAdd, Nat.reduceMul, Nat.reduceLT, Nat.reduceLeDiff, Nat.reduceBEq, reduceCtorEq])))

theorem runs_16 (n : NodeV) (h : n.names.length = n.kids.length) (h1 : n.names.length ≤ 2 ^ 20) (s : ByteArray) :
    Runs Tryd.prog 16 [.agg [.v (.bool n.dir), .v (.list false 1 (n.names.map sRow)), .v (.list false 1 (n.kids.map nRow)), .v (.str n.data)], .one (.v (.str s))] [.one (.v (.int .i64 (kidF n s)))] [] := by
  refine runs_tab (tab := [(0, .agg [.c (.bool n.dir), .c (.list false 1 (n.names.map sRow)), .c (.list false 1 (n.kids.map nRow)), .c (.str n.data)]), (1, .c (.str s))]) (rts := []) (n := 20) (k := 5) Tryd.func16 rfl rfl (by simp) rfl (fun t => ?_) rfl ?_
  · rcases t with _ | _ | t <;> rfl
  have bn : List.take n.names.length (n.names.map sRow) = n.names.map sRow := List.take_of_length_le (by simp)
  have bk : List.take n.kids.length (n.kids.map nRow) = n.kids.map nRow := List.take_of_length_le (by simp)
  have rP := runs_29 n h h1
  have rX := runs_30 n.names (by omega) s
  rw [idx_kid n.names n.kids s 0 h] at rX
  have hx := kidIx_in n.names n.kids s 0
  unfold kidF
  generalize kidIx n.names n.kids s 0 = x at rX hx ⊢
  (refine vw_go rfl ?_; simp only [go_sem, setCells, setIn, Int.reduceToNat, Int.reduceEq, Int.reduceLT, Int.reduceLE, Int.reduceNeg, Int.reduceSub, Int.reduceAdd, ge_iff_le, gt_iff_lt, ↓reduceIte, Nat.reduceEqDiff, Nat.reduceAdd, Nat.reduceMul, Nat.reduceLT, Nat.reduceLeDiff, Nat.reduceBEq, reduceCtorEq])
  (refine vw_go rfl ?_; simp only [go_sem, setCells, setIn, Int.reduceToNat, Int.reduceEq, Int.reduceLT, Int.reduceLE, Int.reduceNeg, Int.reduceSub, Int.reduceAdd, ge_iff_le, gt_iff_lt, ↓reduceIte, Nat.reduceEqDiff, Nat.reduceAdd, Nat.reduceMul, Nat.reduceLT, Nat.reduceLeDiff, Nat.reduceBEq, reduceCtorEq])
  (refine ⟨_, _, call_rx [0] Tryd.func29 (rP) rfl rfl rfl rfl rfl rfl rfl (by simp [lendAll, lendC, seek, fresh, nav, rcells, RT.cells, VV.cells, tabE_cons, tabS_cons, ev, take_map_len, sRow_r1, sRow_comp, sRow_clean, nRow_r1, nRow_comp, nRow_clean]) rfl (by simp [rcells, RT.cells, CT.clean, T.clean, sRow_r1, sRow_comp, sRow_clean, nRow_r1, nRow_comp, nRow_clean]) rfl rfl, ?_⟩)
  simp only [runH, runX, bn, bk, go_sem, setCells, setIn, Int.reduceToNat, Int.reduceEq, Int.reduceLT, Int.reduceLE, Int.reduceNeg, Int.reduceSub, Int.reduceAdd, ge_iff_le, gt_iff_lt, ↓reduceIte, Nat.reduceEqDiff, Nat.reduceAdd, Nat.reduceMul, Nat.reduceLT, Nat.reduceLeDiff, Nat.reduceBEq, reduceCtorEq]
  (refine vw_go rfl ?_; simp only [List.drop_length, bn, bk, go_sem, setCells, setIn, Int.reduceToNat, Int.reduceEq, Int.reduceLT, Int.reduceLE, Int.reduceNeg, Int.reduceSub, Int.reduceAdd, ge_iff_le, gt_iff_lt, ↓reduceIte, Nat.reduceEqDiff, Nat.reduceAdd, Nat.reduceMul, Nat.reduceLT, Nat.reduceLeDiff, Nat.reduceBEq, reduceCtorEq])
  (refine ⟨_, _, call_rx [0, 0] Tryd.func30 (rX) rfl rfl rfl rfl rfl rfl rfl (by simp [lendAll, lendC, seek, fresh, nav, rcells, RT.cells, VV.cells, tabE_cons, tabS_cons, ev, take_map_len, sRow_r1, sRow_comp, sRow_clean, nRow_r1, nRow_comp, nRow_clean]) rfl (by simp [rcells, RT.cells, CT.clean, T.clean, sRow_r1, sRow_comp, sRow_clean, nRow_r1, nRow_comp, nRow_clean]) rfl rfl, ?_⟩)
  simp only [runH, runX, bn, bk, go_sem, setCells, setIn, Int.reduceToNat, Int.reduceEq, Int.reduceLT, Int.reduceLE, Int.reduceNeg, Int.reduceSub, Int.reduceAdd, ge_iff_le, gt_iff_lt, ↓reduceIte, Nat.reduceEqDiff, Nat.reduceAdd, Nat.reduceMul, Nat.reduceLT, Nat.reduceLeDiff, Nat.reduceBEq, reduceCtorEq]
  refine vw_seq ?_
  rcases hx with rfl | ⟨j, hj, hjl, _⟩
  · rw [if_pos (by decide)]
    (refine vw_go rfl ?_; simp only [go_sem, setCells, setIn, Int.reduceToNat, Int.reduceEq, Int.reduceLT, Int.reduceLE, Int.reduceNeg, Int.reduceSub, Int.reduceAdd, ge_iff_le, gt_iff_lt, ↓reduceIte, Nat.reduceEqDiff, Nat.reduceAdd, Nat.reduceMul, Nat.reduceLT, Nat.reduceLeDiff, Nat.reduceBEq, reduceCtorEq])
    (refine vw_cond (t := true) rfl (fun _ => ?_) (fun h => nomatch h))
    (refine vw_go rfl ?_; simp only [go_sem, setCells, setIn, Int.reduceToNat, Int.reduceEq, Int.reduceLT, Int.reduceLE, Int.reduceNeg, Int.reduceSub, Int.reduceAdd, ge_iff_le, gt_iff_lt, ↓reduceIte, Nat.reduceEqDiff, Nat.reduceAdd, Nat.reduceMul, Nat.reduceLT, Nat.reduceLeDiff, Nat.reduceBEq, reduceCtorEq])
    exact vw_ret (r_then (e_ret (ret_of rfl rfl (by simp [RB]) rfl rfl)))
  rw [Nat.zero_add] at hj
  subst hj
  have g0 : ¬ (j : Int) < 0 := by omega
  rw [if_neg g0, Int.toNat_natCast]
  obtain ⟨y, hy⟩ : ∃ y, n.kids[j]? = some y := ⟨_, List.getElem?_eq_getElem hjl⟩
  rw [getD_of hy]
  have d0 : (0:Int) ≤ (j : Int) := by omega
  have d1 : (j : Int) < n.kids.length := by omega
  (refine vw_go rfl ?_; simp only [g0, go_sem, setCells, setIn, Int.reduceToNat, Int.reduceEq, Int.reduceLT, Int.reduceLE, Int.reduceNeg, Int.reduceSub, Int.reduceAdd, ge_iff_le, gt_iff_lt, ↓reduceIte, Nat.reduceEqDiff, Nat.reduceAdd, Nat.reduceMul, Nat.reduceLT, Nat.reduceLeDiff, Nat.reduceBEq, reduceCtorEq])
  (refine vw_cond (t := false) rfl (fun h => nomatch h) (fun _ => ?_))
  refine vw_skip (n_then ?_)
  (refine vw_go rfl ?_; simp only [d0, d1, hjl, Int.toNat_natCast, getD_map_of hy, nRow, go_sem, setCells, setIn, Int.reduceToNat, Int.reduceEq, Int.reduceLT, Int.reduceLE, Int.reduceNeg, Int.reduceSub, Int.reduceAdd, ge_iff_le, gt_iff_lt, ↓reduceIte, Nat.reduceEqDiff, Nat.reduceAdd, Nat.reduceMul, Nat.reduceLT, Nat.reduceLeDiff, Nat.reduceBEq, reduceCtorEq])
  exact vw_ret (e_ret (ret_of rfl rfl (by simp [RB]) rfl rfl))
end Go.Proofs.YtplnflkabpcaaaaDoor
