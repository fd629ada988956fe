/- Steps of parts: the program's. -/
import Derived.Test.YtppbonbghmdhhaaPFStep
namespace Go.Proofs.Ytppbonbghmdhhaa
open Go.VM
set_option maxRecDepth 100000
set_option linter.unusedSimpArgs false
set_option linter.unusedVariables false
attribute [local congr] vw_congr runV_congr runH_congr runW_congr runX_congr


theorem sendF_same {q : PortV} {o : OpV} (h : (sendF q o).2 = false) : (sendF q o).1 = q := by
  unfold sendF at h ⊢
  split
  · rename_i h'; rw [if_pos h'] at h; simp at h
  · rfl

theorem runs_113 (x : PartV) (q : PortV) (y : InsV) (hx : x.ok) (ca : x.code.length ≤ 2 ^ 20) (cs : x.seen.length ≤ 2 ^ 20) (ha : q.asks.length ≤ 2 ^ 20) (ht : q.tells.length ≤ 2 ^ 20)
    (hpa : partOk x = true) (hpo : portOk q = true) (hov : x.over = false) (hy : x.code[x.at_.toNat]? = some y) :
    Runs Try.prog 113 [.agg [.v (.list false 6 (x.code.map insRow)), .v (.int .i64 x.at_), .v (.list false 2 (x.seen.map tellRow)), .v (.bool x.over)], .agg [.v (.list false 4 (q.asks.map opRow)), .v (.list false 2 (q.tells.map tellRow))]] [.agg [.v (.list true 6 ((stepG x q y).1.code.map insRow)), .v (.int .i64 (stepG x q y).1.at_), .v (.list true 2 ((stepG x q y).1.seen.map tellRow)), .v (.bool (stepG x q y).1.over)], .agg [.v (.list true 4 ((stepG x q y).2.1.asks.map opRow)), .v (.list true 2 ((stepG x q y).2.1.tells.map tellRow))], .one (.v (.bool (stepG x q y).2.2))] [] := by
  refine runs_tab (tab := [(0, .agg [.c (.list false 6 (x.code.map insRow)), .c (.int .i64 x.at_), .c (.list false 2 (x.seen.map tellRow)), .c (.bool x.over)]), (1, .agg [.c (.list false 4 (q.asks.map opRow)), .c (.list false 2 (q.tells.map tellRow))])]) (rts := []) (n := 117) (k := 6) Try.func113 rfl rfl (by simp) rfl (fun t => ?_) rfl ?_
  · rcases t with _ | _ | t <;> rfl
  (refine vw_go rfl ?_; simp only [go_sem, setCells, setIn, Int.reduceToNat, Int.reduceEq, Int.reduceLT, Int.reduceLE, Int.reduceNeg, Int.reduceSub, Int.reduceAdd, ge_iff_le, gt_iff_lt, ↓reduceIte, Nat.reduceEqDiff, Nat.reduceAdd, Nat.reduceMul, Nat.reduceLT, Nat.reduceLeDiff, Nat.reduceBEq, reduceCtorEq])
  (refine vw_go rfl ?_; simp only [go_sem, setCells, setIn, Int.reduceToNat, Int.reduceEq, Int.reduceLT, Int.reduceLE, Int.reduceNeg, Int.reduceSub, Int.reduceAdd, ge_iff_le, gt_iff_lt, ↓reduceIte, Nat.reduceEqDiff, Nat.reduceAdd, Nat.reduceMul, Nat.reduceLT, Nat.reduceLeDiff, Nat.reduceBEq, reduceCtorEq])
  (refine ⟨_, _, call_rx [0] Try.func112 (runs_112 x ca cs) rfl rfl rfl rfl rfl rfl rfl (by simp [lendAll, lendC, seek, fresh, nav, rcells, RT.cells, VV.cells, tabE_cons, tabS_cons, ev, take_map_len, insRow_r1, insRow_clean, opRow_r1, opRow_clean, tellRow_r1, tellRow_clean]) rfl (by simp [rcells, RT.cells, CT.clean, T.clean, insRow_r1, insRow_clean, opRow_r1, opRow_clean, tellRow_r1, tellRow_clean]) rfl rfl, ?_⟩)
  simp only [runH, runX, go_sem, setCells, setIn, Int.reduceToNat, Int.reduceEq, Int.reduceLT, Int.reduceLE, Int.reduceNeg, Int.reduceSub, Int.reduceAdd, ge_iff_le, gt_iff_lt, ↓reduceIte, Nat.reduceEqDiff, Nat.reduceAdd, Nat.reduceMul, Nat.reduceLT, Nat.reduceLeDiff, Nat.reduceBEq, reduceCtorEq]
  obtain ⟨a1, a2, a3⟩ := partOk_at hpa
  have a4 : x.at_.toNat < x.code.length := by omega
  have w1 : IntKind.wrap .i64 (x.at_ + 1) = x.at_ + 1 := wrap_i64 (by omega) (by omega)
  (refine vw_go rfl ?_; simp only [a1, a2, getD_map_of hy, insRow, go_sem, setCells, setIn, Int.reduceToNat, Int.reduceEq, Int.reduceLT, Int.reduceLE, Int.reduceNeg, Int.reduceSub, Int.reduceAdd, ge_iff_le, gt_iff_lt, ↓reduceIte, Nat.reduceEqDiff, Nat.reduceAdd, Nat.reduceMul, Nat.reduceLT, Nat.reduceLeDiff, Nat.reduceBEq, reduceCtorEq])
  refine vw_seq ?_
  (refine vw_go rfl ?_; simp only [go_sem, setCells, setIn, Int.reduceToNat, Int.reduceEq, Int.reduceLT, Int.reduceLE, Int.reduceNeg, Int.reduceSub, Int.reduceAdd, ge_iff_le, gt_iff_lt, ↓reduceIte, Nat.reduceEqDiff, Nat.reduceAdd, Nat.reduceMul, Nat.reduceLT, Nat.reduceLeDiff, Nat.reduceBEq, reduceCtorEq])
  refine vw_block ?_
  (refine vw_go rfl ?_; simp only [go_sem, setCells, setIn, Int.reduceToNat, Int.reduceEq, Int.reduceLT, Int.reduceLE, Int.reduceNeg, Int.reduceSub, Int.reduceAdd, ge_iff_le, gt_iff_lt, ↓reduceIte, Nat.reduceEqDiff, Nat.reduceAdd, Nat.reduceMul, Nat.reduceLT, Nat.reduceLeDiff, Nat.reduceBEq, reduceCtorEq])
  refine vw_cond (t := decide (y.kind = 1)) rfl (fun k1 => ?_) (fun k1 => ?_)
  · simp only [decide_eq_true_eq] at k1
    have rs := runs_37 q y.op ha ht
    have e : stepG x q y = (if (sendF q y.op).2 = true then (goF x (x.at_ + 1), (sendF q y.op).1, true) else (x, q, false)) := by simp [stepG, k1]
    rw [e]
    have hsm := @sendF_same q y.op
    generalize eH : sendF q y.op = H at rs
    obtain ⟨p', b'⟩ := H
    simp only at rs
    (refine vw_go rfl ?_; simp only [go_sem, setCells, setIn, Int.reduceToNat, Int.reduceEq, Int.reduceLT, Int.reduceLE, Int.reduceNeg, Int.reduceSub, Int.reduceAdd, ge_iff_le, gt_iff_lt, ↓reduceIte, Nat.reduceEqDiff, Nat.reduceAdd, Nat.reduceMul, Nat.reduceLT, Nat.reduceLeDiff, Nat.reduceBEq, reduceCtorEq])
    (refine ⟨_, _, call_rx [0, 0] Try.func37 (rs) rfl rfl rfl rfl rfl rfl rfl (by simp [lendAll, lendC, seek, fresh, nav, rcells, RT.cells, VV.cells, tabE_cons, tabS_cons, ev, take_map_len, insRow_r1, insRow_clean, opRow_r1, opRow_clean, tellRow_r1, tellRow_clean]) rfl (by simp [rcells, RT.cells, CT.clean, T.clean, insRow_r1, insRow_clean, opRow_r1, opRow_clean, tellRow_r1, tellRow_clean]) rfl rfl, ?_⟩)
    simp only [runH, runX, go_sem, setCells, setIn, Int.reduceToNat, Int.reduceEq, Int.reduceLT, Int.reduceLE, Int.reduceNeg, Int.reduceSub, Int.reduceAdd, ge_iff_le, gt_iff_lt, ↓reduceIte, Nat.reduceEqDiff, Nat.reduceAdd, Nat.reduceMul, Nat.reduceLT, Nat.reduceLeDiff, Nat.reduceBEq, reduceCtorEq]
    refine vw_seq ?_
    (refine vw_go rfl ?_; simp only [go_sem, setCells, setIn, Int.reduceToNat, Int.reduceEq, Int.reduceLT, Int.reduceLE, Int.reduceNeg, Int.reduceSub, Int.reduceAdd, ge_iff_le, gt_iff_lt, ↓reduceIte, Nat.reduceEqDiff, Nat.reduceAdd, Nat.reduceMul, Nat.reduceLT, Nat.reduceLeDiff, Nat.reduceBEq, reduceCtorEq])
    refine vw_cond (t := !b') rfl (fun hb => ?_) (fun hb => ?_)
    · have hb' : b' = false := by simpa using hb
      subst hb'
      have hq : p' = q := by rw [eH] at hsm; exact hsm rfl
      subst hq
      (refine vw_draw mixed rfl rfl ?_; simp only [go_sem, setCells, setIn, Int.reduceToNat, Int.reduceEq, Int.reduceLT, Int.reduceLE, Int.reduceNeg, Int.reduceSub, Int.reduceAdd, ge_iff_le, gt_iff_lt, ↓reduceIte, Nat.reduceEqDiff, Nat.reduceAdd, Nat.reduceMul, Nat.reduceLT, Nat.reduceLeDiff, Nat.reduceBEq, reduceCtorEq])
      refine ⟨by unfold allOk; kernel_rfl, ?_⟩
      exact vw_ret (r_then (r_block (r_then (e_ret (ret_by rfl rfl (by simp [RB]) rfl (by simp only [takeCs, takeC, go_sem, setCells, setIn, Int.reduceToNat, Int.reduceEq, Int.reduceLT, Int.reduceLE, Int.reduceNeg, Int.reduceSub, Int.reduceAdd, ge_iff_le, gt_iff_lt, ↓reduceIte, Nat.reduceEqDiff, Nat.reduceAdd, Nat.reduceMul, Nat.reduceLT, Nat.reduceLeDiff, Nat.reduceBEq, reduceCtorEq]))))))
    · have hb' : b' = true := by simpa using hb
      subst hb'
      refine vw_skip (n_then ?_)
      (refine vw_norm (norm_freeze 7 _ rfl rfl (Nat.le_refl _)) ?_; simp only [go_sem, setCells, setIn, Int.reduceToNat, Int.reduceEq, Int.reduceLT, Int.reduceLE, Int.reduceNeg, Int.reduceSub, Int.reduceAdd, ge_iff_le, gt_iff_lt, ↓reduceIte, Nat.reduceEqDiff, Nat.reduceAdd, Nat.reduceMul, Nat.reduceLT, Nat.reduceLeDiff, Nat.reduceBEq, reduceCtorEq])
      (refine vw_draw mixed rfl rfl ?_; simp only [w1, go_sem, setCells, setIn, Int.reduceToNat, Int.reduceEq, Int.reduceLT, Int.reduceLE, Int.reduceNeg, Int.reduceSub, Int.reduceAdd, ge_iff_le, gt_iff_lt, ↓reduceIte, Nat.reduceEqDiff, Nat.reduceAdd, Nat.reduceMul, Nat.reduceLT, Nat.reduceLeDiff, Nat.reduceBEq, reduceCtorEq])
      (refine ⟨_, _, _, call_own_at [0, 0] [(458758, none), (458760, none)] [458758, 458760] Try.func155 (runs_155 x (x.at_ + 1)) rfl rfl rfl rfl rfl rfl rfl (fun st1 hst1 => by (simp only [List.mem_cons, List.not_mem_nil, or_false, false_or, forall_eq_or_imp, forall_eq] at hst1); simp [takeCs, takeC, takeV, seek, fresh, nav, takenUp, rcells, RT.cells, VV.cells, tabE_cons, tabS_cons, ups_cons1, ups_nil, St.put, ev, take_map_len, hst1, insRow_r1, insRow_clean, opRow_r1, opRow_clean, tellRow_r1, tellRow_clean]) rfl (by simp [rcells, RT.cells, CT.clean, T.clean, insRow_r1, insRow_clean, opRow_r1, opRow_clean, tellRow_r1, tellRow_clean]) rfl rfl, ?_⟩)
      simp only [runH, runX, go_sem, setCells, setIn, Int.reduceToNat, Int.reduceEq, Int.reduceLT, Int.reduceLE, Int.reduceNeg, Int.reduceSub, Int.reduceAdd, ge_iff_le, gt_iff_lt, ↓reduceIte, Nat.reduceEqDiff, Nat.reduceAdd, Nat.reduceMul, Nat.reduceLT, Nat.reduceLeDiff, Nat.reduceBEq, reduceCtorEq]
      refine ⟨by unfold allOk; kernel_rfl, ?_⟩
      exact vw_ret (r_block (r_then (e_ret (ret_by rfl rfl (by simp [RB]) rfl (by simp only [takeCs, takeC, go_sem, setCells, setIn, Int.reduceToNat, Int.reduceEq, Int.reduceLT, Int.reduceLE, Int.reduceNeg, Int.reduceSub, Int.reduceAdd, ge_iff_le, gt_iff_lt, ↓reduceIte, Nat.reduceEqDiff, Nat.reduceAdd, Nat.reduceMul, Nat.reduceLT, Nat.reduceLeDiff, Nat.reduceBEq, reduceCtorEq])))))
  · simp only [decide_eq_false_iff_not] at k1
    (refine vw_go rfl ?_; simp only [go_sem, setCells, setIn, Int.reduceToNat, Int.reduceEq, Int.reduceLT, Int.reduceLE, Int.reduceNeg, Int.reduceSub, Int.reduceAdd, ge_iff_le, gt_iff_lt, ↓reduceIte, Nat.reduceEqDiff, Nat.reduceAdd, Nat.reduceMul, Nat.reduceLT, Nat.reduceLeDiff, Nat.reduceBEq, reduceCtorEq])
    refine vw_cond (t := decide (y.kind = 2)) rfl (fun k2 => ?_) (fun k2 => ?_)
    · simp only [decide_eq_true_eq] at k2
      have rs := runs_45 q ha ht
      have e : stepG x q y = (if (hearF q).2.2 = true ∧ ¬ (x.seen.length : Int) = 300 then (goF { x with seen := x.seen ++ [(hearF q).2.1] } (x.at_ + 1), (hearF q).1, true) else (x, q, false)) := by simp [stepG, k2]
      rw [e]
      generalize hearF q = H at rs
      obtain ⟨p', t', b'⟩ := H
      simp only at rs
      (refine vw_go rfl ?_; simp only [go_sem, setCells, setIn, Int.reduceToNat, Int.reduceEq, Int.reduceLT, Int.reduceLE, Int.reduceNeg, Int.reduceSub, Int.reduceAdd, ge_iff_le, gt_iff_lt, ↓reduceIte, Nat.reduceEqDiff, Nat.reduceAdd, Nat.reduceMul, Nat.reduceLT, Nat.reduceLeDiff, Nat.reduceBEq, reduceCtorEq])
      (refine ⟨_, _, call_rx [0] Try.func45 (rs) rfl rfl rfl rfl rfl rfl rfl (by simp [lendAll, lendC, seek, fresh, nav, rcells, RT.cells, VV.cells, tabE_cons, tabS_cons, ev, take_map_len, insRow_r1, insRow_clean, opRow_r1, opRow_clean, tellRow_r1, tellRow_clean]) rfl (by simp [rcells, RT.cells, CT.clean, T.clean, insRow_r1, insRow_clean, opRow_r1, opRow_clean, tellRow_r1, tellRow_clean]) rfl rfl, ?_⟩)
      simp only [runH, runX, go_sem, setCells, setIn, Int.reduceToNat, Int.reduceEq, Int.reduceLT, Int.reduceLE, Int.reduceNeg, Int.reduceSub, Int.reduceAdd, ge_iff_le, gt_iff_lt, ↓reduceIte, Nat.reduceEqDiff, Nat.reduceAdd, Nat.reduceMul, Nat.reduceLT, Nat.reduceLeDiff, Nat.reduceBEq, reduceCtorEq]
      refine vw_seq ?_
      cases b'
      · (refine vw_go rfl ?_; simp only [go_sem, setCells, setIn, Int.reduceToNat, Int.reduceEq, Int.reduceLT, Int.reduceLE, Int.reduceNeg, Int.reduceSub, Int.reduceAdd, ge_iff_le, gt_iff_lt, ↓reduceIte, Nat.reduceEqDiff, Nat.reduceAdd, Nat.reduceMul, Nat.reduceLT, Nat.reduceLeDiff, Nat.reduceBEq, reduceCtorEq])
        refine vw_cond (t := true) rfl (fun h => ?_) (fun h => ?_)
        case refine_2 => cases h
        (refine vw_draw mixed rfl rfl ?_; simp only [go_sem, setCells, setIn, Int.reduceToNat, Int.reduceEq, Int.reduceLT, Int.reduceLE, Int.reduceNeg, Int.reduceSub, Int.reduceAdd, ge_iff_le, gt_iff_lt, ↓reduceIte, Nat.reduceEqDiff, Nat.reduceAdd, Nat.reduceMul, Nat.reduceLT, Nat.reduceLeDiff, Nat.reduceBEq, reduceCtorEq])
        (refine ⟨_, _, _, call_rx_at [0] [] Try.func107 (runs_107 q ha ht) rfl rfl rfl rfl rfl rfl rfl (fun st1 hst1 => by (try simp only [List.mem_cons, List.not_mem_nil, or_false, false_or, forall_eq_or_imp, forall_eq] at hst1); simp [lendAll, lendC, seek, fresh, nav, rcells, RT.cells, VV.cells, tabE_cons, tabS_cons, ev, take_map_len, hst1, insRow_r1, insRow_clean, opRow_r1, opRow_clean, tellRow_r1, tellRow_clean]) rfl (by simp [rcells, RT.cells, CT.clean, T.clean, insRow_r1, insRow_clean, opRow_r1, opRow_clean, tellRow_r1, tellRow_clean]) rfl rfl, ?_⟩)
        simp only [runH, runX, go_sem, setCells, setIn, Int.reduceToNat, Int.reduceEq, Int.reduceLT, Int.reduceLE, Int.reduceNeg, Int.reduceSub, Int.reduceAdd, ge_iff_le, gt_iff_lt, ↓reduceIte, Nat.reduceEqDiff, Nat.reduceAdd, Nat.reduceMul, Nat.reduceLT, Nat.reduceLeDiff, Nat.reduceBEq, reduceCtorEq]
        refine ⟨by unfold allOk; kernel_rfl, ?_⟩
        exact vw_ret (r_then (r_block (r_then (e_ret (ret_by rfl rfl (by simp [RB]) rfl (by simp only [takeCs, takeC, go_sem, setCells, setIn, Int.reduceToNat, Int.reduceEq, Int.reduceLT, Int.reduceLE, Int.reduceNeg, Int.reduceSub, Int.reduceAdd, ge_iff_le, gt_iff_lt, ↓reduceIte, Nat.reduceEqDiff, Nat.reduceAdd, Nat.reduceMul, Nat.reduceLT, Nat.reduceLeDiff, Nat.reduceBEq, reduceCtorEq]))))))
      · (refine vw_go rfl ?_; simp only [go_sem, setCells, setIn, Int.reduceToNat, Int.reduceEq, Int.reduceLT, Int.reduceLE, Int.reduceNeg, Int.reduceSub, Int.reduceAdd, ge_iff_le, gt_iff_lt, ↓reduceIte, Nat.reduceEqDiff, Nat.reduceAdd, Nat.reduceMul, Nat.reduceLT, Nat.reduceLeDiff, Nat.reduceBEq, reduceCtorEq])
        refine vw_cond (t := decide ((300 : Int) ≤ (x.seen.length : Int))) rfl (fun h3 => ?_) (fun h3 => ?_)
        · simp only [decide_eq_true_eq] at h3
          rw [if_neg (by simp; omega)]
          (refine vw_draw mixed rfl rfl ?_; simp only [go_sem, setCells, setIn, Int.reduceToNat, Int.reduceEq, Int.reduceLT, Int.reduceLE, Int.reduceNeg, Int.reduceSub, Int.reduceAdd, ge_iff_le, gt_iff_lt, ↓reduceIte, Nat.reduceEqDiff, Nat.reduceAdd, Nat.reduceMul, Nat.reduceLT, Nat.reduceLeDiff, Nat.reduceBEq, reduceCtorEq])
          (refine ⟨_, _, _, call_rx_at [0] [] Try.func107 (runs_107 q ha ht) rfl rfl rfl rfl rfl rfl rfl (fun st1 hst1 => by (try simp only [List.mem_cons, List.not_mem_nil, or_false, false_or, forall_eq_or_imp, forall_eq] at hst1); simp [lendAll, lendC, seek, fresh, nav, rcells, RT.cells, VV.cells, tabE_cons, tabS_cons, ev, take_map_len, hst1, insRow_r1, insRow_clean, opRow_r1, opRow_clean, tellRow_r1, tellRow_clean]) rfl (by simp [rcells, RT.cells, CT.clean, T.clean, insRow_r1, insRow_clean, opRow_r1, opRow_clean, tellRow_r1, tellRow_clean]) rfl rfl, ?_⟩)
          simp only [runH, runX, go_sem, setCells, setIn, Int.reduceToNat, Int.reduceEq, Int.reduceLT, Int.reduceLE, Int.reduceNeg, Int.reduceSub, Int.reduceAdd, ge_iff_le, gt_iff_lt, ↓reduceIte, Nat.reduceEqDiff, Nat.reduceAdd, Nat.reduceMul, Nat.reduceLT, Nat.reduceLeDiff, Nat.reduceBEq, reduceCtorEq]
          refine ⟨by unfold allOk; kernel_rfl, ?_⟩
          exact vw_ret (r_then (r_block (r_then (e_ret (ret_by rfl rfl (by simp [RB]) rfl (by simp only [takeCs, takeC, go_sem, setCells, setIn, Int.reduceToNat, Int.reduceEq, Int.reduceLT, Int.reduceLE, Int.reduceNeg, Int.reduceSub, Int.reduceAdd, ge_iff_le, gt_iff_lt, ↓reduceIte, Nat.reduceEqDiff, Nat.reduceAdd, Nat.reduceMul, Nat.reduceLT, Nat.reduceLeDiff, Nat.reduceBEq, reduceCtorEq]))))))
        · simp only [decide_eq_false_iff_not] at h3
          rw [if_pos (show ¬ (x.seen.length : Int) = 300 by omega)]
          refine vw_skip (n_then ?_)
          have B1 : ¬ (x.seen.length + 1 + 1) * (24 + 1) > bigRow := by simp only [bigRow]; omega
          have qt : (x.seen.map tellRow ++ [[T.int IntKind.i64 t'.code, T.str t'.text]]).take (x.seen.length + 1) = x.seen.map tellRow ++ [[T.int IntKind.i64 t'.code, T.str t'.text]] := by
            rw [List.take_of_length_le (by simp)]
          (refine vw_go rfl ?_; simp only [range1, List.replicate_succ, List.replicate_zero, List.flatten_cons, List.flatten_nil, List.range_zero, gt_iff_lt, B1, List.length_append, qt, go_sem, setCells, setIn, Int.reduceToNat, Int.reduceEq, Int.reduceLT, Int.reduceLE, Int.reduceNeg, Int.reduceSub, Int.reduceAdd, ge_iff_le, gt_iff_lt, ↓reduceIte, Nat.reduceEqDiff, Nat.reduceAdd, Nat.reduceMul, Nat.reduceLT, Nat.reduceLeDiff, Nat.reduceBEq, reduceCtorEq])
          (refine vw_norm (norm_freeze 7 _ rfl rfl (Nat.le_refl _)) ?_; simp only [go_sem, setCells, setIn, Int.reduceToNat, Int.reduceEq, Int.reduceLT, Int.reduceLE, Int.reduceNeg, Int.reduceSub, Int.reduceAdd, ge_iff_le, gt_iff_lt, ↓reduceIte, Nat.reduceEqDiff, Nat.reduceAdd, Nat.reduceMul, Nat.reduceLT, Nat.reduceLeDiff, Nat.reduceBEq, reduceCtorEq])
          (refine vw_draw mixed rfl rfl ?_; simp only [w1, go_sem, setCells, setIn, Int.reduceToNat, Int.reduceEq, Int.reduceLT, Int.reduceLE, Int.reduceNeg, Int.reduceSub, Int.reduceAdd, ge_iff_le, gt_iff_lt, ↓reduceIte, Nat.reduceEqDiff, Nat.reduceAdd, Nat.reduceMul, Nat.reduceLT, Nat.reduceLeDiff, Nat.reduceBEq, reduceCtorEq])
          (refine ⟨_, _, _, call_own_at [0, 0] [(589830, none), (589832, none)] [589830, 589832] Try.func155 (runs_155 ⟨x.code, x.at_, x.seen ++ [t'], x.over⟩ (x.at_ + 1)) rfl rfl rfl rfl rfl rfl rfl (fun st1 hst1 => by (simp only [List.mem_cons, List.not_mem_nil, or_false, false_or, forall_eq_or_imp, forall_eq] at hst1); simp [takeCs, takeC, takeV, seek, fresh, nav, takenUp, rcells, RT.cells, VV.cells, tabE_cons, tabS_cons, ups_cons1, ups_nil, St.put, ev, take_map_len, hst1, insRow_r1, insRow_clean, opRow_r1, opRow_clean, tellRow_r1, tellRow_clean, tellRow, List.length_append, List.take_length, qt, List.map_append, List.map_cons, List.map_nil]) rfl (by simp [rcells, RT.cells, CT.clean, T.clean, insRow_r1, insRow_clean, opRow_r1, opRow_clean, tellRow_r1, tellRow_clean, tellRow, List.length_append, List.take_length, qt, List.map_append, List.map_cons, List.map_nil]) rfl rfl, ?_⟩)
          simp only [runH, runX, go_sem, setCells, setIn, Int.reduceToNat, Int.reduceEq, Int.reduceLT, Int.reduceLE, Int.reduceNeg, Int.reduceSub, Int.reduceAdd, ge_iff_le, gt_iff_lt, ↓reduceIte, Nat.reduceEqDiff, Nat.reduceAdd, Nat.reduceMul, Nat.reduceLT, Nat.reduceLeDiff, Nat.reduceBEq, reduceCtorEq]
          refine ⟨by unfold allOk; kernel_rfl, ?_⟩
          exact vw_ret (r_block (r_then (e_ret (ret_by rfl rfl (by simp [RB]) rfl (by simp only [takeCs, takeC, go_sem, setCells, setIn, Int.reduceToNat, Int.reduceEq, Int.reduceLT, Int.reduceLE, Int.reduceNeg, Int.reduceSub, Int.reduceAdd, ge_iff_le, gt_iff_lt, ↓reduceIte, Nat.reduceEqDiff, Nat.reduceAdd, Nat.reduceMul, Nat.reduceLT, Nat.reduceLeDiff, Nat.reduceBEq, reduceCtorEq])))))
    · simp only [decide_eq_false_iff_not] at k2
      (refine vw_go rfl ?_; simp only [go_sem, setCells, setIn, Int.reduceToNat, Int.reduceEq, Int.reduceLT, Int.reduceLE, Int.reduceNeg, Int.reduceSub, Int.reduceAdd, ge_iff_le, gt_iff_lt, ↓reduceIte, Nat.reduceEqDiff, Nat.reduceAdd, Nat.reduceMul, Nat.reduceLT, Nat.reduceLeDiff, Nat.reduceBEq, reduceCtorEq])
      refine vw_cond (t := decide (y.kind = 3)) rfl (fun k3 => ?_) (fun k3 => ?_)
      · simp only [decide_eq_true_eq] at k3
        rw [show stepG x q y = (goF x y.n, q, true) from by simp [stepG, k3]]
        (refine vw_norm (norm_freeze 7 _ rfl rfl (Nat.le_refl _)) ?_; simp only [go_sem, setCells, setIn, Int.reduceToNat, Int.reduceEq, Int.reduceLT, Int.reduceLE, Int.reduceNeg, Int.reduceSub, Int.reduceAdd, ge_iff_le, gt_iff_lt, ↓reduceIte, Nat.reduceEqDiff, Nat.reduceAdd, Nat.reduceMul, Nat.reduceLT, Nat.reduceLeDiff, Nat.reduceBEq, reduceCtorEq])
        (refine vw_draw mixed rfl rfl ?_; simp only [go_sem, setCells, setIn, Int.reduceToNat, Int.reduceEq, Int.reduceLT, Int.reduceLE, Int.reduceNeg, Int.reduceSub, Int.reduceAdd, ge_iff_le, gt_iff_lt, ↓reduceIte, Nat.reduceEqDiff, Nat.reduceAdd, Nat.reduceMul, Nat.reduceLT, Nat.reduceLeDiff, Nat.reduceBEq, reduceCtorEq])
        (refine ⟨_, _, _, call_own_at [0, 0] [(458758, none), (458760, none)] [458758, 458760] Try.func155 (runs_155 x y.n) rfl rfl rfl rfl rfl rfl rfl (fun st1 hst1 => by (simp only [List.mem_cons, List.not_mem_nil, or_false, false_or, forall_eq_or_imp, forall_eq] at hst1); simp [takeCs, takeC, takeV, seek, fresh, nav, takenUp, rcells, RT.cells, VV.cells, tabE_cons, tabS_cons, ups_cons1, ups_nil, St.put, ev, take_map_len, hst1, insRow_r1, insRow_clean, opRow_r1, opRow_clean, tellRow_r1, tellRow_clean]) rfl (by simp [rcells, RT.cells, CT.clean, T.clean, insRow_r1, insRow_clean, opRow_r1, opRow_clean, tellRow_r1, tellRow_clean]) rfl rfl, ?_⟩)
        simp only [runH, runX, go_sem, setCells, setIn, Int.reduceToNat, Int.reduceEq, Int.reduceLT, Int.reduceLE, Int.reduceNeg, Int.reduceSub, Int.reduceAdd, ge_iff_le, gt_iff_lt, ↓reduceIte, Nat.reduceEqDiff, Nat.reduceAdd, Nat.reduceMul, Nat.reduceLT, Nat.reduceLeDiff, Nat.reduceBEq, reduceCtorEq]
        (refine ⟨_, _, _, call_rx_at [0] [] Try.func107 (runs_107 q ha ht) rfl rfl rfl rfl rfl rfl rfl (fun st1 hst1 => by (try simp only [List.mem_cons, List.not_mem_nil, or_false, false_or, forall_eq_or_imp, forall_eq] at hst1); simp [lendAll, lendC, seek, fresh, nav, rcells, RT.cells, VV.cells, tabE_cons, tabS_cons, ev, take_map_len, hst1, insRow_r1, insRow_clean, opRow_r1, opRow_clean, tellRow_r1, tellRow_clean]) rfl (by simp [rcells, RT.cells, CT.clean, T.clean, insRow_r1, insRow_clean, opRow_r1, opRow_clean, tellRow_r1, tellRow_clean]) rfl rfl, ?_⟩)
        simp only [runH, runX, go_sem, setCells, setIn, Int.reduceToNat, Int.reduceEq, Int.reduceLT, Int.reduceLE, Int.reduceNeg, Int.reduceSub, Int.reduceAdd, ge_iff_le, gt_iff_lt, ↓reduceIte, Nat.reduceEqDiff, Nat.reduceAdd, Nat.reduceMul, Nat.reduceLT, Nat.reduceLeDiff, Nat.reduceBEq, reduceCtorEq]
        refine ⟨by unfold allOk; kernel_rfl, ?_⟩
        exact vw_ret (r_block (r_then (e_ret (ret_by rfl rfl (by simp [RB]) rfl (by simp only [takeCs, takeC, go_sem, setCells, setIn, Int.reduceToNat, Int.reduceEq, Int.reduceLT, Int.reduceLE, Int.reduceNeg, Int.reduceSub, Int.reduceAdd, ge_iff_le, gt_iff_lt, ↓reduceIte, Nat.reduceEqDiff, Nat.reduceAdd, Nat.reduceMul, Nat.reduceLT, Nat.reduceLeDiff, Nat.reduceBEq, reduceCtorEq])))))
      · simp only [decide_eq_false_iff_not] at k3
        (refine vw_go rfl ?_; simp only [go_sem, setCells, setIn, Int.reduceToNat, Int.reduceEq, Int.reduceLT, Int.reduceLE, Int.reduceNeg, Int.reduceSub, Int.reduceAdd, ge_iff_le, gt_iff_lt, ↓reduceIte, Nat.reduceEqDiff, Nat.reduceAdd, Nat.reduceMul, Nat.reduceLT, Nat.reduceLeDiff, Nat.reduceBEq, reduceCtorEq])
        refine vw_cond (t := decide (y.kind = 4)) rfl (fun k4 => ?_) (fun k4 => ?_)
        · simp only [decide_eq_true_eq] at k4
          have e : stepG x q y = (if lastZ x.seen = true then (goF x y.n, q, true) else (goF x (x.at_ + 1), q, true)) := by simp [stepG, k4]
          rw [e]
          cases hs : x.seen.getLast? with
          | none =>
            have hs0 : x.seen = [] := List.getLast?_eq_none_iff.1 hs
            have f0 : (0 < (x.seen.length : Int)) = False := eq_false (by rw [hs0]; simp)
            rw [show lastZ x.seen = false from by simp [lastZ, hs]]
            refine vw_seq ?_
            (refine vw_go rfl ?_; simp only [go_sem, setCells, setIn, Int.reduceToNat, Int.reduceEq, Int.reduceLT, Int.reduceLE, Int.reduceNeg, Int.reduceSub, Int.reduceAdd, ge_iff_le, gt_iff_lt, ↓reduceIte, Nat.reduceEqDiff, Nat.reduceAdd, Nat.reduceMul, Nat.reduceLT, Nat.reduceLeDiff, Nat.reduceBEq, reduceCtorEq])
            (refine vw_go rfl ?_; simp only [f0, go_sem, setCells, setIn, Int.reduceToNat, Int.reduceEq, Int.reduceLT, Int.reduceLE, Int.reduceNeg, Int.reduceSub, Int.reduceAdd, ge_iff_le, gt_iff_lt, ↓reduceIte, Nat.reduceEqDiff, Nat.reduceAdd, Nat.reduceMul, Nat.reduceLT, Nat.reduceLeDiff, Nat.reduceBEq, reduceCtorEq])
            refine vw_cond (t := false) rfl (fun h => ?_) (fun h => ?_)
            · cases h
            refine vw_skip (n_then ?_)
            (refine vw_norm (norm_freeze 7 _ rfl rfl (Nat.le_refl _)) ?_; simp only [go_sem, setCells, setIn, Int.reduceToNat, Int.reduceEq, Int.reduceLT, Int.reduceLE, Int.reduceNeg, Int.reduceSub, Int.reduceAdd, ge_iff_le, gt_iff_lt, ↓reduceIte, Nat.reduceEqDiff, Nat.reduceAdd, Nat.reduceMul, Nat.reduceLT, Nat.reduceLeDiff, Nat.reduceBEq, reduceCtorEq])
            (refine vw_draw mixed rfl rfl ?_; simp only [w1, go_sem, setCells, setIn, Int.reduceToNat, Int.reduceEq, Int.reduceLT, Int.reduceLE, Int.reduceNeg, Int.reduceSub, Int.reduceAdd, ge_iff_le, gt_iff_lt, ↓reduceIte, Nat.reduceEqDiff, Nat.reduceAdd, Nat.reduceMul, Nat.reduceLT, Nat.reduceLeDiff, Nat.reduceBEq, reduceCtorEq])
            (refine ⟨_, _, _, call_own_at [0, 0] [(655366, none), (655368, none)] [655366, 655368] Try.func155 (runs_155 x (x.at_ + 1)) rfl rfl rfl rfl rfl rfl rfl (fun st1 hst1 => by (simp only [List.mem_cons, List.not_mem_nil, or_false, false_or, forall_eq_or_imp, forall_eq] at hst1); simp [takeCs, takeC, takeV, seek, fresh, nav, takenUp, rcells, RT.cells, VV.cells, tabE_cons, tabS_cons, ups_cons1, ups_nil, St.put, ev, take_map_len, hst1, insRow_r1, insRow_clean, opRow_r1, opRow_clean, tellRow_r1, tellRow_clean]) rfl (by simp [rcells, RT.cells, CT.clean, T.clean, insRow_r1, insRow_clean, opRow_r1, opRow_clean, tellRow_r1, tellRow_clean]) rfl rfl, ?_⟩)
            simp only [runH, runX, go_sem, setCells, setIn, Int.reduceToNat, Int.reduceEq, Int.reduceLT, Int.reduceLE, Int.reduceNeg, Int.reduceSub, Int.reduceAdd, ge_iff_le, gt_iff_lt, ↓reduceIte, Nat.reduceEqDiff, Nat.reduceAdd, Nat.reduceMul, Nat.reduceLT, Nat.reduceLeDiff, Nat.reduceBEq, reduceCtorEq]
            (refine ⟨_, _, _, call_rx_at [0] [] Try.func107 (runs_107 q ha ht) rfl rfl rfl rfl rfl rfl rfl (fun st1 hst1 => by (try simp only [List.mem_cons, List.not_mem_nil, or_false, false_or, forall_eq_or_imp, forall_eq] at hst1); simp [lendAll, lendC, seek, fresh, nav, rcells, RT.cells, VV.cells, tabE_cons, tabS_cons, ev, take_map_len, hst1, insRow_r1, insRow_clean, opRow_r1, opRow_clean, tellRow_r1, tellRow_clean]) rfl (by simp [rcells, RT.cells, CT.clean, T.clean, insRow_r1, insRow_clean, opRow_r1, opRow_clean, tellRow_r1, tellRow_clean]) rfl rfl, ?_⟩)
            simp only [runH, runX, go_sem, setCells, setIn, Int.reduceToNat, Int.reduceEq, Int.reduceLT, Int.reduceLE, Int.reduceNeg, Int.reduceSub, Int.reduceAdd, ge_iff_le, gt_iff_lt, ↓reduceIte, Nat.reduceEqDiff, Nat.reduceAdd, Nat.reduceMul, Nat.reduceLT, Nat.reduceLeDiff, Nat.reduceBEq, reduceCtorEq]
            refine ⟨by unfold allOk; kernel_rfl, ?_⟩
            exact vw_ret (r_block (r_then (e_ret (ret_by rfl rfl (by simp [RB]) rfl (by simp only [takeCs, takeC, go_sem, setCells, setIn, Int.reduceToNat, Int.reduceEq, Int.reduceLT, Int.reduceLE, Int.reduceNeg, Int.reduceSub, Int.reduceAdd, ge_iff_le, gt_iff_lt, ↓reduceIte, Nat.reduceEqDiff, Nat.reduceAdd, Nat.reduceMul, Nat.reduceLT, Nat.reduceLeDiff, Nat.reduceBEq, reduceCtorEq])))))
          | some z =>
            have hlz : x.seen[x.seen.length - 1]? = some z := by rw [← List.getLast?_eq_getElem?]; exact hs
            have hpos := lt_of_getl hlz
            have f1 : (0 < (x.seen.length : Int)) = True := eq_true (by omega)
            have w2 : IntKind.wrap .i64 ((x.seen.length : Int) - 1) = ((x.seen.length - 1 : Nat) : Int) := by rw [wrap_i64 (by omega) (by omega)]; omega
            have i0 : (0:Int) ≤ ((x.seen.length - 1 : Nat) : Int) := by omega
            have i1 : ((x.seen.length - 1 : Nat) : Int) < (x.seen.length : Int) := by omega
            rw [show lastZ x.seen = decide (z.code = 0) from by simp [lastZ, hs]]
            refine vw_seq ?_
            (refine vw_go rfl ?_; simp only [go_sem, setCells, setIn, Int.reduceToNat, Int.reduceEq, Int.reduceLT, Int.reduceLE, Int.reduceNeg, Int.reduceSub, Int.reduceAdd, ge_iff_le, gt_iff_lt, ↓reduceIte, Nat.reduceEqDiff, Nat.reduceAdd, Nat.reduceMul, Nat.reduceLT, Nat.reduceLeDiff, Nat.reduceBEq, reduceCtorEq])
            (refine vw_go rfl ?_; simp only [f1, w2, i0, i1, Int.toNat_natCast, getD_map_of hlz, tellRow, go_sem, setCells, setIn, Int.reduceToNat, Int.reduceEq, Int.reduceLT, Int.reduceLE, Int.reduceNeg, Int.reduceSub, Int.reduceAdd, ge_iff_le, gt_iff_lt, ↓reduceIte, Nat.reduceEqDiff, Nat.reduceAdd, Nat.reduceMul, Nat.reduceLT, Nat.reduceLeDiff, Nat.reduceBEq, reduceCtorEq])
            refine vw_cond (t := decide (z.code = 0)) rfl (fun h => ?_) (fun h => ?_)
            · rw [if_pos h]
              (refine vw_norm (norm_freeze 7 _ rfl rfl (Nat.le_refl _)) ?_; simp only [go_sem, setCells, setIn, Int.reduceToNat, Int.reduceEq, Int.reduceLT, Int.reduceLE, Int.reduceNeg, Int.reduceSub, Int.reduceAdd, ge_iff_le, gt_iff_lt, ↓reduceIte, Nat.reduceEqDiff, Nat.reduceAdd, Nat.reduceMul, Nat.reduceLT, Nat.reduceLeDiff, Nat.reduceBEq, reduceCtorEq])
              (refine vw_draw mixed rfl rfl ?_; simp only [go_sem, setCells, setIn, Int.reduceToNat, Int.reduceEq, Int.reduceLT, Int.reduceLE, Int.reduceNeg, Int.reduceSub, Int.reduceAdd, ge_iff_le, gt_iff_lt, ↓reduceIte, Nat.reduceEqDiff, Nat.reduceAdd, Nat.reduceMul, Nat.reduceLT, Nat.reduceLeDiff, Nat.reduceBEq, reduceCtorEq])
              (refine ⟨_, _, _, call_own_at [0, 0] [(655366, none), (655368, none)] [655366, 655368] Try.func155 (runs_155 x y.n) rfl rfl rfl rfl rfl rfl rfl (fun st1 hst1 => by (simp only [List.mem_cons, List.not_mem_nil, or_false, false_or, forall_eq_or_imp, forall_eq] at hst1); simp [takeCs, takeC, takeV, seek, fresh, nav, takenUp, rcells, RT.cells, VV.cells, tabE_cons, tabS_cons, ups_cons1, ups_nil, St.put, ev, take_map_len, hst1, insRow_r1, insRow_clean, opRow_r1, opRow_clean, tellRow_r1, tellRow_clean]) rfl (by simp [rcells, RT.cells, CT.clean, T.clean, insRow_r1, insRow_clean, opRow_r1, opRow_clean, tellRow_r1, tellRow_clean]) rfl rfl, ?_⟩)
              simp only [runH, runX, go_sem, setCells, setIn, Int.reduceToNat, Int.reduceEq, Int.reduceLT, Int.reduceLE, Int.reduceNeg, Int.reduceSub, Int.reduceAdd, ge_iff_le, gt_iff_lt, ↓reduceIte, Nat.reduceEqDiff, Nat.reduceAdd, Nat.reduceMul, Nat.reduceLT, Nat.reduceLeDiff, Nat.reduceBEq, reduceCtorEq]
              (refine ⟨_, _, _, call_rx_at [0] [] Try.func107 (runs_107 q ha ht) rfl rfl rfl rfl rfl rfl rfl (fun st1 hst1 => by (try simp only [List.mem_cons, List.not_mem_nil, or_false, false_or, forall_eq_or_imp, forall_eq] at hst1); simp [lendAll, lendC, seek, fresh, nav, rcells, RT.cells, VV.cells, tabE_cons, tabS_cons, ev, take_map_len, hst1, insRow_r1, insRow_clean, opRow_r1, opRow_clean, tellRow_r1, tellRow_clean]) rfl (by simp [rcells, RT.cells, CT.clean, T.clean, insRow_r1, insRow_clean, opRow_r1, opRow_clean, tellRow_r1, tellRow_clean]) rfl rfl, ?_⟩)
              simp only [runH, runX, go_sem, setCells, setIn, Int.reduceToNat, Int.reduceEq, Int.reduceLT, Int.reduceLE, Int.reduceNeg, Int.reduceSub, Int.reduceAdd, ge_iff_le, gt_iff_lt, ↓reduceIte, Nat.reduceEqDiff, Nat.reduceAdd, Nat.reduceMul, Nat.reduceLT, Nat.reduceLeDiff, Nat.reduceBEq, reduceCtorEq]
              refine ⟨by unfold allOk; kernel_rfl, ?_⟩
              exact vw_ret (r_then (r_block (r_then (e_ret (ret_by rfl rfl (by simp [RB]) rfl (by simp only [takeCs, takeC, go_sem, setCells, setIn, Int.reduceToNat, Int.reduceEq, Int.reduceLT, Int.reduceLE, Int.reduceNeg, Int.reduceSub, Int.reduceAdd, ge_iff_le, gt_iff_lt, ↓reduceIte, Nat.reduceEqDiff, Nat.reduceAdd, Nat.reduceMul, Nat.reduceLT, Nat.reduceLeDiff, Nat.reduceBEq, reduceCtorEq]))))))
            · rw [if_neg (by rw [h]; decide)]
              refine vw_skip (n_then ?_)
              (refine vw_norm (norm_freeze 7 _ rfl rfl (Nat.le_refl _)) ?_; simp only [go_sem, setCells, setIn, Int.reduceToNat, Int.reduceEq, Int.reduceLT, Int.reduceLE, Int.reduceNeg, Int.reduceSub, Int.reduceAdd, ge_iff_le, gt_iff_lt, ↓reduceIte, Nat.reduceEqDiff, Nat.reduceAdd, Nat.reduceMul, Nat.reduceLT, Nat.reduceLeDiff, Nat.reduceBEq, reduceCtorEq])
              (refine vw_draw mixed rfl rfl ?_; simp only [w1, go_sem, setCells, setIn, Int.reduceToNat, Int.reduceEq, Int.reduceLT, Int.reduceLE, Int.reduceNeg, Int.reduceSub, Int.reduceAdd, ge_iff_le, gt_iff_lt, ↓reduceIte, Nat.reduceEqDiff, Nat.reduceAdd, Nat.reduceMul, Nat.reduceLT, Nat.reduceLeDiff, Nat.reduceBEq, reduceCtorEq])
              (refine ⟨_, _, _, call_own_at [0, 0] [(655366, none), (655368, none)] [655366, 655368] Try.func155 (runs_155 x (x.at_ + 1)) rfl rfl rfl rfl rfl rfl rfl (fun st1 hst1 => by (simp only [List.mem_cons, List.not_mem_nil, or_false, false_or, forall_eq_or_imp, forall_eq] at hst1); simp [takeCs, takeC, takeV, seek, fresh, nav, takenUp, rcells, RT.cells, VV.cells, tabE_cons, tabS_cons, ups_cons1, ups_nil, St.put, ev, take_map_len, hst1, insRow_r1, insRow_clean, opRow_r1, opRow_clean, tellRow_r1, tellRow_clean]) rfl (by simp [rcells, RT.cells, CT.clean, T.clean, insRow_r1, insRow_clean, opRow_r1, opRow_clean, tellRow_r1, tellRow_clean]) rfl rfl, ?_⟩)
              simp only [runH, runX, go_sem, setCells, setIn, Int.reduceToNat, Int.reduceEq, Int.reduceLT, Int.reduceLE, Int.reduceNeg, Int.reduceSub, Int.reduceAdd, ge_iff_le, gt_iff_lt, ↓reduceIte, Nat.reduceEqDiff, Nat.reduceAdd, Nat.reduceMul, Nat.reduceLT, Nat.reduceLeDiff, Nat.reduceBEq, reduceCtorEq]
              (refine ⟨_, _, _, call_rx_at [0] [] Try.func107 (runs_107 q ha ht) rfl rfl rfl rfl rfl rfl rfl (fun st1 hst1 => by (try simp only [List.mem_cons, List.not_mem_nil, or_false, false_or, forall_eq_or_imp, forall_eq] at hst1); simp [lendAll, lendC, seek, fresh, nav, rcells, RT.cells, VV.cells, tabE_cons, tabS_cons, ev, take_map_len, hst1, insRow_r1, insRow_clean, opRow_r1, opRow_clean, tellRow_r1, tellRow_clean]) rfl (by simp [rcells, RT.cells, CT.clean, T.clean, insRow_r1, insRow_clean, opRow_r1, opRow_clean, tellRow_r1, tellRow_clean]) rfl rfl, ?_⟩)
              simp only [runH, runX, go_sem, setCells, setIn, Int.reduceToNat, Int.reduceEq, Int.reduceLT, Int.reduceLE, Int.reduceNeg, Int.reduceSub, Int.reduceAdd, ge_iff_le, gt_iff_lt, ↓reduceIte, Nat.reduceEqDiff, Nat.reduceAdd, Nat.reduceMul, Nat.reduceLT, Nat.reduceLeDiff, Nat.reduceBEq, reduceCtorEq]
              refine ⟨by unfold allOk; kernel_rfl, ?_⟩
              exact vw_ret (r_block (r_then (e_ret (ret_by rfl rfl (by simp [RB]) rfl (by simp only [takeCs, takeC, go_sem, setCells, setIn, Int.reduceToNat, Int.reduceEq, Int.reduceLT, Int.reduceLE, Int.reduceNeg, Int.reduceSub, Int.reduceAdd, ge_iff_le, gt_iff_lt, ↓reduceIte, Nat.reduceEqDiff, Nat.reduceAdd, Nat.reduceMul, Nat.reduceLT, Nat.reduceLeDiff, Nat.reduceBEq, reduceCtorEq])))))
        · simp only [decide_eq_false_iff_not] at k4
          rw [show stepG x q y = ({ x with over := true }, q, true) from by simp [stepG, k1, k2, k3, k4]]
          refine vw_skip (n_block (n_then ?_))
          (refine vw_go rfl ?_; simp only [go_sem, setCells, setIn, Int.reduceToNat, Int.reduceEq, Int.reduceLT, Int.reduceLE, Int.reduceNeg, Int.reduceSub, Int.reduceAdd, ge_iff_le, gt_iff_lt, ↓reduceIte, Nat.reduceEqDiff, Nat.reduceAdd, Nat.reduceMul, Nat.reduceLT, Nat.reduceLeDiff, Nat.reduceBEq, reduceCtorEq])
          (refine vw_draw mixed rfl rfl ?_; simp only [go_sem, setCells, setIn, Int.reduceToNat, Int.reduceEq, Int.reduceLT, Int.reduceLE, Int.reduceNeg, Int.reduceSub, Int.reduceAdd, ge_iff_le, gt_iff_lt, ↓reduceIte, Nat.reduceEqDiff, Nat.reduceAdd, Nat.reduceMul, Nat.reduceLT, Nat.reduceLeDiff, Nat.reduceBEq, reduceCtorEq])
          (refine ⟨_, _, _, call_rx_at [0] [] Try.func107 (runs_107 q ha ht) rfl rfl rfl rfl rfl rfl rfl (fun st1 hst1 => by (try simp only [List.mem_cons, List.not_mem_nil, or_false, false_or, forall_eq_or_imp, forall_eq] at hst1); simp [lendAll, lendC, seek, fresh, nav, rcells, RT.cells, VV.cells, tabE_cons, tabS_cons, ev, take_map_len, hst1, insRow_r1, insRow_clean, opRow_r1, opRow_clean, tellRow_r1, tellRow_clean]) rfl (by simp [rcells, RT.cells, CT.clean, T.clean, insRow_r1, insRow_clean, opRow_r1, opRow_clean, tellRow_r1, tellRow_clean]) rfl rfl, ?_⟩)
          simp only [runH, runX, go_sem, setCells, setIn, Int.reduceToNat, Int.reduceEq, Int.reduceLT, Int.reduceLE, Int.reduceNeg, Int.reduceSub, Int.reduceAdd, ge_iff_le, gt_iff_lt, ↓reduceIte, Nat.reduceEqDiff, Nat.reduceAdd, Nat.reduceMul, Nat.reduceLT, Nat.reduceLeDiff, Nat.reduceBEq, reduceCtorEq]
          refine ⟨by unfold allOk; kernel_rfl, ?_⟩
          exact vw_ret (e_ret (ret_by rfl rfl (by simp [RB]) rfl (by simp only [takeCs, takeC, go_sem, setCells, setIn, Int.reduceToNat, Int.reduceEq, Int.reduceLT, Int.reduceLE, Int.reduceNeg, Int.reduceSub, Int.reduceAdd, ge_iff_le, gt_iff_lt, ↓reduceIte, Nat.reduceEqDiff, Nat.reduceAdd, Nat.reduceMul, Nat.reduceLT, Nat.reduceLeDiff, Nat.reduceBEq, reduceCtorEq])))

end Go.Proofs.Ytppbonbghmdhhaa
