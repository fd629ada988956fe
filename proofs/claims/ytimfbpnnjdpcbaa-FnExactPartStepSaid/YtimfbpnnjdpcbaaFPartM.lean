/- Parts: marks, marks read again, copies. -/
import Derived.Test.YtimfbpnnjdpcbaaFPart
import Derived.Test.YtimfbpnnjdpcbaaFInsM
import Derived.Test.YtimfbpnnjdpcbaaFTellM
namespace Go.Proofs.Ytimfbpnnjdpcbaa
open Go.VM
set_option maxRecDepth 100000
set_option linter.unusedSimpArgs false
set_option linter.unusedVariables false
attribute [local congr] vw_congr runV_congr runH_congr runW_congr runX_congr

theorem runs_12 (x : PartV) (k : Int) (ha : x.code.length ≤ 2 ^ 30) (ht : x.seen.length ≤ 2 ^ 30) (h0 : 0 ≤ k) (h1 : k ≤ 2 ^ 40) :
    Runs Try.prog 12 [.agg [.v (.list true 6 (x.code.map insRow)), .v (.int .i64 x.at_), .v (.list true 2 (x.seen.map tellRow)), .v (.bool x.over)], .one (.v (.int .i64 k))] [.one (.v (.int .i64 (k + 6 * x.code.length + 2 * x.seen.length)))]
      [(0, ⟨false, 6, marksIns k x.code.length, []⟩), (2, ⟨false, 2, marksTell (k + 6 * x.code.length) x.seen.length, []⟩)] := by
  refine runs_tabB (tab := [(0, .agg [.al 0 [] 0 6 0 x.code.length, .c (.int .i64 x.at_), .al 2 [] 0 2 0 x.seen.length, .c (.bool x.over)]), (1, .c (.int .i64 k))]) (rts := [(2, some ⟨false, 2, x.seen.map tellRow, []⟩), (0, some ⟨false, 6, x.code.map insRow, []⟩)]) (n := 14) (k := 5) Try.func12 rfl rfl (by simp) rfl (fun t => ?_) ?_ ?_
  · rcases t with _ | _ | t
    · simp [rvv, RT.vv, CT.vv, cvv, envOf, tabE_cons]
    · rfl
    · rfl
  · simp [rcells, RT.cells, cups, CT.ups]
    funext r
    simp [St.put, tabS, st0]
  refine vw_go1 rfl rfl (box_ro rfl rfl) ?_
  simp only [go_sem, setCells, setIn, Int.reduceToNat, Int.reduceEq, Int.reduceLT, Int.reduceLE, Int.reduceNeg, Int.reduceSub, Int.reduceAdd, ge_iff_le, gt_iff_lt, ↓reduceIte, Nat.reduceEqDiff, Nat.reduceAdd, Nat.reduceMul, Nat.reduceLT, Nat.reduceLeDiff, Nat.reduceBEq, reduceCtorEq]
  (refine vw_go rfl ?_; simp only [go_sem, setCells, setIn, Int.reduceToNat, Int.reduceEq, Int.reduceLT, Int.reduceLE, Int.reduceNeg, Int.reduceSub, Int.reduceAdd, ge_iff_le, gt_iff_lt, ↓reduceIte, Nat.reduceEqDiff, Nat.reduceAdd, Nat.reduceMul, Nat.reduceLT, Nat.reduceLeDiff, Nat.reduceBEq, reduceCtorEq])
  (refine ⟨_, _, call_bs [0, 0] [.back, .ro] [(0, 0, ⟨false, 6, x.code.map insRow, []⟩)] [marksIns k x.code.length] (rest := [.c (.int .i64 k)]) Try.func37 (runs_37 x.code k (by omega) h0 (by omega)) rfl rfl rfl rfl rfl rfl rfl rfl (by simp [VV.cells, ev, tabE_cons, insRow_r1, insRow_clean, tellRow_r1, tellRow_clean, marksIns_clean]) (by simp [tabS_cons, insRow_r1, insRow_clean, tellRow_r1, tellRow_clean, marksIns_clean]) (by simp) rfl rfl (by simp [rcells, RT.cells, insRow_r1, insRow_clean, tellRow_r1, tellRow_clean, marksIns_clean]) rfl rfl (by simp [clean_map, insRow_r1, insRow_clean, tellRow_r1, tellRow_clean, marksIns_clean]) rfl rfl, ?_⟩)
  simp only [runH, runX, go_sem, setCells, setIn, Int.reduceToNat, Int.reduceEq, Int.reduceLT, Int.reduceLE, Int.reduceNeg, Int.reduceSub, Int.reduceAdd, ge_iff_le, gt_iff_lt, ↓reduceIte, Nat.reduceEqDiff, Nat.reduceAdd, Nat.reduceMul, Nat.reduceLT, Nat.reduceLeDiff, Nat.reduceBEq, reduceCtorEq]
  (refine vw_go rfl ?_; simp only [go_sem, setCells, setIn, Int.reduceToNat, Int.reduceEq, Int.reduceLT, Int.reduceLE, Int.reduceNeg, Int.reduceSub, Int.reduceAdd, ge_iff_le, gt_iff_lt, ↓reduceIte, Nat.reduceEqDiff, Nat.reduceAdd, Nat.reduceMul, Nat.reduceLT, Nat.reduceLeDiff, Nat.reduceBEq, reduceCtorEq])
  (refine ⟨_, _, call_bs [0, 0] [.back, .ro] [(2, 0, ⟨false, 2, x.seen.map tellRow, []⟩)] [marksTell (k + 6 * x.code.length) x.seen.length] (rest := [.c (.int .i64 (k + 6 * x.code.length))]) Try.func38 (runs_38 x.seen (k + 6 * x.code.length) (by omega) (by omega) (by omega)) rfl rfl rfl rfl rfl rfl rfl rfl (by simp [VV.cells, ev, tabE_cons, insRow_r1, insRow_clean, tellRow_r1, tellRow_clean, marksTell_clean]) (by simp [tabS_cons, insRow_r1, insRow_clean, tellRow_r1, tellRow_clean, marksTell_clean]) (by simp) rfl rfl (by simp [rcells, RT.cells, insRow_r1, insRow_clean, tellRow_r1, tellRow_clean, marksTell_clean]) rfl rfl (by simp [clean_map, insRow_r1, insRow_clean, tellRow_r1, tellRow_clean, marksTell_clean]) rfl rfl, ?_⟩)
  simp only [runH, runX, go_sem, setCells, setIn, Int.reduceToNat, Int.reduceEq, Int.reduceLT, Int.reduceLE, Int.reduceNeg, Int.reduceSub, Int.reduceAdd, ge_iff_le, gt_iff_lt, ↓reduceIte, Nat.reduceEqDiff, Nat.reduceAdd, Nat.reduceMul, Nat.reduceLT, Nat.reduceLeDiff, Nat.reduceBEq, reduceCtorEq]
  (refine vw_go rfl ?_; simp only [go_sem, setCells, setIn, Int.reduceToNat, Int.reduceEq, Int.reduceLT, Int.reduceLE, Int.reduceNeg, Int.reduceSub, Int.reduceAdd, ge_iff_le, gt_iff_lt, ↓reduceIte, Nat.reduceEqDiff, Nat.reduceAdd, Nat.reduceMul, Nat.reduceLT, Nat.reduceLeDiff, Nat.reduceBEq, reduceCtorEq])
  exact vw_ret (e_ret (ret_b rfl rfl (by simp [RB]) rfl rfl ⟨⟨by simp, _, rfl, rfl, rfl, rfl⟩, ⟨by simp, _, rfl, rfl, rfl, rfl⟩, trivial⟩))

theorem runs_14 (k : Int) (n m : Nat) (a : Int) (b : Bool) (hn : n ≤ 2 ^ 30) (hm : m ≤ 2 ^ 30) (h0 : 0 ≤ k) (h1 : k ≤ 2 ^ 40) :
    Runs Try.prog 14 [.agg [.v (.list false 6 (marksIns k n)), .v (.int .i64 a), .v (.list false 2 (marksTell (k + 6 * n) m)), .v (.bool b)], .one (.v (.int .i64 k))] [.one (.v (.int .i64 (k + 6 * n + 2 * m)))] [] := by
  refine runs_tab (tab := [(0, .agg [.c (.list false 6 (marksIns k n)), .c (.int .i64 a), .c (.list false 2 (marksTell (k + 6 * n) m)), .c (.bool b)]), (1, .c (.int .i64 k))]) (rts := []) (n := 18) (k := 5) Try.func14 rfl rfl (by simp) rfl (fun t => ?_) rfl ?_
  · rcases t with _ | _ | t <;> rfl
  have q1 : (k + 6 * (n : Int) < 0) = False := eq_false (by omega)
  have q2 : (k + 6 * (n : Int) + 2 * (m : Int) < 0) = False := eq_false (by omega)
  (refine vw_go rfl ?_; simp only [go_sem, setCells, setIn, Int.reduceToNat, Int.reduceEq, Int.reduceLT, Int.reduceLE, Int.reduceNeg, Int.reduceSub, Int.reduceAdd, ge_iff_le, gt_iff_lt, ↓reduceIte, Nat.reduceEqDiff, Nat.reduceAdd, Nat.reduceMul, Nat.reduceLT, Nat.reduceLeDiff, Nat.reduceBEq, reduceCtorEq])
  (refine vw_go rfl ?_; simp only [go_sem, setCells, setIn, Int.reduceToNat, Int.reduceEq, Int.reduceLT, Int.reduceLE, Int.reduceNeg, Int.reduceSub, Int.reduceAdd, ge_iff_le, gt_iff_lt, ↓reduceIte, Nat.reduceEqDiff, Nat.reduceAdd, Nat.reduceMul, Nat.reduceLT, Nat.reduceLeDiff, Nat.reduceBEq, reduceCtorEq])
  (refine ⟨_, _, call_rx [0, 0] Try.func40 (runs_40 k n (by omega) h0 (by omega)) rfl rfl rfl rfl rfl rfl rfl (by simp [lendAll, lendC, seek, fresh, nav, rcells, RT.cells, VV.cells, tabE_cons, tabS_cons, ev, take_map_len, marksIns_ro]) rfl (by simp [rcells, RT.cells, CT.clean, T.clean, marksIns_ro]) rfl rfl, ?_⟩)
  simp only [runH, runX, go_sem, setCells, setIn, Int.reduceToNat, Int.reduceEq, Int.reduceLT, Int.reduceLE, Int.reduceNeg, Int.reduceSub, Int.reduceAdd, ge_iff_le, gt_iff_lt, ↓reduceIte, Nat.reduceEqDiff, Nat.reduceAdd, Nat.reduceMul, Nat.reduceLT, Nat.reduceLeDiff, Nat.reduceBEq, reduceCtorEq]
  refine vw_seq ?_
  (refine vw_go rfl ?_; simp only [q1, go_sem, setCells, setIn, Int.reduceToNat, Int.reduceEq, Int.reduceLT, Int.reduceLE, Int.reduceNeg, Int.reduceSub, Int.reduceAdd, ge_iff_le, gt_iff_lt, ↓reduceIte, Nat.reduceEqDiff, Nat.reduceAdd, Nat.reduceMul, Nat.reduceLT, Nat.reduceLeDiff, Nat.reduceBEq, reduceCtorEq])
  refine vw_cond (t := false) rfl (fun h => ?_) (fun h => ?_)
  · cases h
  refine vw_skip (n_then ?_)
  (refine vw_go rfl ?_; simp only [go_sem, setCells, setIn, Int.reduceToNat, Int.reduceEq, Int.reduceLT, Int.reduceLE, Int.reduceNeg, Int.reduceSub, Int.reduceAdd, ge_iff_le, gt_iff_lt, ↓reduceIte, Nat.reduceEqDiff, Nat.reduceAdd, Nat.reduceMul, Nat.reduceLT, Nat.reduceLeDiff, Nat.reduceBEq, reduceCtorEq])
  (refine ⟨_, _, call_rx [0, 0] Try.func41 (runs_41 (k + 6 * n) m (by omega) (by omega) (by omega)) rfl rfl rfl rfl rfl rfl rfl (by simp [lendAll, lendC, seek, fresh, nav, rcells, RT.cells, VV.cells, tabE_cons, tabS_cons, ev, take_map_len, marksTell_ro]) rfl (by simp [rcells, RT.cells, CT.clean, T.clean, marksTell_ro]) rfl rfl, ?_⟩)
  simp only [runH, runX, go_sem, setCells, setIn, Int.reduceToNat, Int.reduceEq, Int.reduceLT, Int.reduceLE, Int.reduceNeg, Int.reduceSub, Int.reduceAdd, ge_iff_le, gt_iff_lt, ↓reduceIte, Nat.reduceEqDiff, Nat.reduceAdd, Nat.reduceMul, Nat.reduceLT, Nat.reduceLeDiff, Nat.reduceBEq, reduceCtorEq]
  refine vw_seq ?_
  (refine vw_go rfl ?_; simp only [q2, go_sem, setCells, setIn, Int.reduceToNat, Int.reduceEq, Int.reduceLT, Int.reduceLE, Int.reduceNeg, Int.reduceSub, Int.reduceAdd, ge_iff_le, gt_iff_lt, ↓reduceIte, Nat.reduceEqDiff, Nat.reduceAdd, Nat.reduceMul, Nat.reduceLT, Nat.reduceLeDiff, Nat.reduceBEq, reduceCtorEq])
  refine vw_cond (t := false) rfl (fun h => ?_) (fun h => ?_)
  · cases h
  refine vw_skip (n_then ?_)
  (refine vw_go rfl ?_; simp only [go_sem, setCells, setIn, Int.reduceToNat, Int.reduceEq, Int.reduceLT, Int.reduceLE, Int.reduceNeg, Int.reduceSub, Int.reduceAdd, ge_iff_le, gt_iff_lt, ↓reduceIte, Nat.reduceEqDiff, Nat.reduceAdd, Nat.reduceMul, Nat.reduceLT, Nat.reduceLeDiff, Nat.reduceBEq, reduceCtorEq])
  exact vw_ret (e_ret (ret_of rfl rfl (by simp [RB]) rfl rfl))
end Go.Proofs.Ytimfbpnnjdpcbaa
