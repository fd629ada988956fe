/- The law FnPorts. -/
import Derived.Test.YtppbonbghmdhhaaFDrawQ
import Derived.Test.YtppbonbghmdhhaaFSend
import Derived.Test.YtppbonbghmdhhaaFTold
import Derived.Test.YtppbonbghmdhhaaFHear
import Derived.Test.YtppbonbghmdhhaaFTake
namespace Go.Proofs.Ytppbonbghmdhhaa
open Go.VM Go
set_option maxRecDepth 100000
set_option linter.unusedSimpArgs false
set_option linter.unusedVariables false
attribute [-go_sem] runW_cons
attribute [local congr] vw_congr runV_congr runH_congr runW_congr runX_congr

theorem askG_len (L : List UInt8) : ∀ (n i : Nat) (c : Cur) (l : List OpV), (askG L n i c l).1.length ≤ l.length + n
  | 0, i, c, l => Nat.le_refl _
  | n + 1, i, c, l => by
    rw [askG]
    split
    · have := askG_len L n (i + 1) (drawOp L (byteC L c)).2 (l ++ [(drawOp L (byteC L c)).1])
      simp only [List.length_append, List.length_cons, List.length_nil] at this
      omega
    · simp only; omega
theorem tellG_len (L : List UInt8) : ∀ (n i : Nat) (c : Cur) (l : List TellV), (tellG L n i c l).1.length ≤ l.length + n
  | 0, i, c, l => Nat.le_refl _
  | n + 1, i, c, l => by
    rw [tellG]
    split
    · have := tellG_len L n (i + 1) (drawTell L (byteC L c)).2 (l ++ [(drawTell L (byteC L c)).1])
      simp only [List.length_append, List.length_cons, List.length_nil] at this
      omega
    · simp only; omega
theorem drawPort_len (L : List UInt8) (c : Cur) : (drawPort L c).1.asks.length ≤ 10 ∧ (drawPort L c).1.tells.length ≤ 10 := by
  have h1 := askG_len L 4 0 c []
  have h2 := tellG_len L 4 0 (askG L 4 0 c []).2 []
  simp only [List.length_nil] at h1 h2
  unfold drawPort
  split
  · simp only [List.length_append, List.length_cons, List.length_nil]; omega
  · split
    · simp only [List.length_append, List.length_cons, List.length_nil]; omega
    · simp only; omega

theorem typed_62 {k : Nat} {ts : List T} (h : typed Try.prog (k + 4) 62 ts) : ∃ l : List UInt8, ts = [.list false 1 (l.map bRow)] ∧ l.length < 2 ^ 63 := by
  simp only [typed, Try.underlying62, Try.underlying5, cellsOf_5] at h
  obtain ⟨rows, rfl, hlen, hrows⟩ := h
  obtain ⟨l, rfl, hl⟩ := map_of (f := bRow) (Q := fun _ => True) (rows := rows) (fun r hr => by
    obtain ⟨i, rfl, hs⟩ := hrows r hr
    simp only [Lit.wf, Bool.and_eq_true, decide_eq_true_eq] at hs
    have h0 : IntKind.min .u8 = 0 := by decide
    have h1 : IntKind.max .u8 = 255 := by decide
    rw [h0, h1] at hs
    refine ⟨UInt8.ofNat i.toNat, ?_, trivial⟩
    have e : ((UInt8.ofNat i.toNat).toNat : Int) = i := by
      rw [UInt8.toNat_ofNat']; omega
    simp only [bRow, e])
  exact ⟨l, rfl, by simpa using hlen⟩

theorem runs_35 (L : List UInt8) (hL : L.length < 2 ^ 63) : Runs Try.prog 35 [.one (.v (.list false 1 (L.map bRow)))] [.one (.v (.bool (decide (1048576 < (L.length : Int)))))] [] := by
  refine runs_tab (tab := [(0, .c (.list false 1 (L.map bRow)))]) (rts := []) (n := 6) (k := 1) Try.func35 rfl rfl (by simp) rfl (fun t => ?_) rfl ?_
  · rcases t with _ | t <;> rfl
  (refine vw_go rfl ?_; simp only [go_sem, setCells, setIn, Int.reduceToNat, Int.reduceEq, Int.reduceLT, Int.reduceLE, Int.reduceNeg, Int.reduceSub, Int.reduceAdd, ge_iff_le, gt_iff_lt, ↓reduceIte, Nat.reduceEqDiff, Nat.reduceAdd, Nat.reduceMul, Nat.reduceLT, Nat.reduceLeDiff, Nat.reduceBEq, reduceCtorEq])
  (refine vw_go rfl ?_; simp only [go_sem, setCells, setIn, Int.reduceToNat, Int.reduceEq, Int.reduceLT, Int.reduceLE, Int.reduceNeg, Int.reduceSub, Int.reduceAdd, ge_iff_le, gt_iff_lt, ↓reduceIte, Nat.reduceEqDiff, Nat.reduceAdd, Nat.reduceMul, Nat.reduceLT, Nat.reduceLeDiff, Nat.reduceBEq, reduceCtorEq])
  exact vw_ret (e_ret (ret_of rfl rfl (by simp [RB]) rfl rfl))

/-- What the law's loops meet. -/
structure PortsFit (p : PortV) (o : OpV) (u : TellV) (q s : PortV) (ok fine : Bool) : Prop where
  send : sendF p o = (q, ok)
  told : toldF p u = (s, fine)

theorem runs_7 (L : List UInt8) (hL63 : L.length < 2 ^ 63) : Runs Try.prog 7 [.one (.v (.list false 1 (L.map bRow)))] [.one (.v (.bool true))] [] := by
  refine runs_tab (tab := [(0, .c (.list false 1 (L.map bRow)))]) (rts := []) (n := 228) (k := 1) Try.func7 rfl rfl (by simp) rfl (fun t => ?_) rfl ?_
  · rcases t with _ | t <;> rfl
  have rB := runs_35 L hL63
  by_cases hbig : 1048576 < (L.length : Int)
  · rw [decide_eq_true hbig] at rB
    (refine vw_go rfl ?_; simp only [go_sem, setCells, setIn, Int.reduceToNat, Int.reduceEq, Int.reduceLT, Int.reduceLE, Int.reduceNeg, Int.reduceSub, Int.reduceAdd, ge_iff_le, gt_iff_lt, ↓reduceIte, Nat.reduceEqDiff, Nat.reduceAdd, Nat.reduceMul, Nat.reduceLT, Nat.reduceLeDiff, Nat.reduceBEq, reduceCtorEq])
    refine vw_seq ?_
    (refine vw_go rfl ?_; simp only [go_sem, setCells, setIn, Int.reduceToNat, Int.reduceEq, Int.reduceLT, Int.reduceLE, Int.reduceNeg, Int.reduceSub, Int.reduceAdd, ge_iff_le, gt_iff_lt, ↓reduceIte, Nat.reduceEqDiff, Nat.reduceAdd, Nat.reduceMul, Nat.reduceLT, Nat.reduceLeDiff, Nat.reduceBEq, reduceCtorEq])
    (refine ⟨_, _, call_rx [0] Try.func35 (rB) rfl rfl rfl rfl rfl rfl rfl (by simp [lendAll, lendC, seek, fresh, nav, rcells, RT.cells, VV.cells, tabE_cons, tabS_cons, ev, take_map_len, opRow_r1, opRow_clean, tellRow_r1, tellRow_clean, bRow_r1, bRow_clean]) rfl (by simp [rcells, RT.cells, CT.clean, T.clean, opRow_r1, opRow_clean, tellRow_r1, tellRow_clean, bRow_r1, bRow_clean]) rfl rfl, ?_⟩)
    simp only [runH, runX, go_sem, setCells, setIn, Int.reduceToNat, Int.reduceEq, Int.reduceLT, Int.reduceLE, Int.reduceNeg, Int.reduceSub, Int.reduceAdd, ge_iff_le, gt_iff_lt, ↓reduceIte, Nat.reduceEqDiff, Nat.reduceAdd, Nat.reduceMul, Nat.reduceLT, Nat.reduceLeDiff, Nat.reduceBEq, reduceCtorEq]
    (refine vw_cond (t := true) rfl (fun _ => ?_) (fun h => nomatch h))
    (refine vw_go rfl ?_; simp only [go_sem, setCells, setIn, Int.reduceToNat, Int.reduceEq, Int.reduceLT, Int.reduceLE, Int.reduceNeg, Int.reduceSub, Int.reduceAdd, ge_iff_le, gt_iff_lt, ↓reduceIte, Nat.reduceEqDiff, Nat.reduceAdd, Nat.reduceMul, Nat.reduceLT, Nat.reduceLeDiff, Nat.reduceBEq, reduceCtorEq])
    exact vw_ret (r_then (e_ret (ret_of rfl rfl (by simp [RB]) rfl rfl)))
  have hL : L.length < 2 ^ 60 := by omega
  rw [decide_eq_false hbig] at rB
  have hlen := drawPort_len L (newC L)
  have rS := runs_36 L hL _ rfl _ rfl
  have rT := runs_39 L hL _ rfl _ rfl
  have rA := runs_46 L hL _ rfl
  have rH := runs_47 L hL _ rfl
  generalize (drawOpBad L (drawPort L (newC L)).2).1 = o at rS
  generalize (⟨belV L (drawPort L (newC L)).2 9 - 1, (drawText L (byteC L (drawPort L (newC L)).2)).1⟩ : TellV) = u at rT
  generalize (drawPort L (newC L)).1 = p at rS rT rA rH hlen
  obtain ⟨ha, ht⟩ := hlen
  have ha2 : p.asks.length ≤ 2 ^ 20 := Nat.le_trans ha (by decide)
  have ht2 : p.tells.length ≤ 2 ^ 20 := Nat.le_trans ht (by decide)
  have rSi := runs_37 p o ha2 ht2
  have rSs := runs_38 p o ha2 ht2
  have rTi := runs_40 p u ha2 ht2
  have rTs := runs_41 p u ha2 ht2
  generalize hq : sendF p o = q at rSi rSs
  generalize hs : toldF p u = s at rTi rTs
  obtain ⟨q, ok⟩ := q
  obtain ⟨s, fine⟩ := s
  simp only at rSi rSs rTi rTs
  have bt : List.take p.asks.length (p.asks.map opRow) = p.asks.map opRow := List.take_of_length_le (by simp)
  have bt2 : List.take p.tells.length (p.tells.map tellRow) = p.tells.map tellRow := List.take_of_length_le (by simp)
  have bq : List.take q.asks.length (q.asks.map opRow) = q.asks.map opRow := List.take_of_length_le (by simp)
  have bq2 : List.take q.tells.length (q.tells.map tellRow) = q.tells.map tellRow := List.take_of_length_le (by simp)
  have bs : List.take s.asks.length (s.asks.map opRow) = s.asks.map opRow := List.take_of_length_le (by simp)
  have bs2 : List.take s.tells.length (s.tells.map tellRow) = s.tells.map tellRow := List.take_of_length_le (by simp)
  (refine vw_go rfl ?_; simp only [go_sem, setCells, setIn, Int.reduceToNat, Int.reduceEq, Int.reduceLT, Int.reduceLE, Int.reduceNeg, Int.reduceSub, Int.reduceAdd, ge_iff_le, gt_iff_lt, ↓reduceIte, Nat.reduceEqDiff, Nat.reduceAdd, Nat.reduceMul, Nat.reduceLT, Nat.reduceLeDiff, Nat.reduceBEq, reduceCtorEq])
  refine vw_seq ?_
  (refine vw_go rfl ?_; simp only [go_sem, setCells, setIn, Int.reduceToNat, Int.reduceEq, Int.reduceLT, Int.reduceLE, Int.reduceNeg, Int.reduceSub, Int.reduceAdd, ge_iff_le, gt_iff_lt, ↓reduceIte, Nat.reduceEqDiff, Nat.reduceAdd, Nat.reduceMul, Nat.reduceLT, Nat.reduceLeDiff, Nat.reduceBEq, reduceCtorEq])
  (refine ⟨_, _, call_rx [0] Try.func35 (rB) rfl rfl rfl rfl rfl rfl rfl (by simp [lendAll, lendC, seek, fresh, nav, rcells, RT.cells, VV.cells, tabE_cons, tabS_cons, ev, take_map_len, opRow_r1, opRow_clean, tellRow_r1, tellRow_clean, bRow_r1, bRow_clean]) rfl (by simp [rcells, RT.cells, CT.clean, T.clean, opRow_r1, opRow_clean, tellRow_r1, tellRow_clean, bRow_r1, bRow_clean]) rfl rfl, ?_⟩)
  simp only [runH, runX, go_sem, setCells, setIn, Int.reduceToNat, Int.reduceEq, Int.reduceLT, Int.reduceLE, Int.reduceNeg, Int.reduceSub, Int.reduceAdd, ge_iff_le, gt_iff_lt, ↓reduceIte, Nat.reduceEqDiff, Nat.reduceAdd, Nat.reduceMul, Nat.reduceLT, Nat.reduceLeDiff, Nat.reduceBEq, reduceCtorEq]
  (refine vw_cond (t := false) rfl (fun h => nomatch h) (fun _ => ?_))
  refine vw_skip (n_then ?_)
  (refine vw_go rfl ?_; simp only [go_sem, setCells, setIn, Int.reduceToNat, Int.reduceEq, Int.reduceLT, Int.reduceLE, Int.reduceNeg, Int.reduceSub, Int.reduceAdd, ge_iff_le, gt_iff_lt, ↓reduceIte, Nat.reduceEqDiff, Nat.reduceAdd, Nat.reduceMul, Nat.reduceLT, Nat.reduceLeDiff, Nat.reduceBEq, reduceCtorEq])
  (refine ⟨_, _, call_rx [0] Try.func36 (rS) rfl rfl rfl rfl rfl rfl rfl (by simp [lendAll, lendC, seek, fresh, nav, rcells, RT.cells, VV.cells, tabE_cons, tabS_cons, ev, take_map_len, opRow_r1, opRow_clean, tellRow_r1, tellRow_clean, bRow_r1, bRow_clean]) rfl (by simp [rcells, RT.cells, CT.clean, T.clean, opRow_r1, opRow_clean, tellRow_r1, tellRow_clean, bRow_r1, bRow_clean]) rfl rfl, ?_⟩)
  simp only [runH, runX, bt, bt2, go_sem, setCells, setIn, Int.reduceToNat, Int.reduceEq, Int.reduceLT, Int.reduceLE, Int.reduceNeg, Int.reduceSub, Int.reduceAdd, ge_iff_le, gt_iff_lt, ↓reduceIte, Nat.reduceEqDiff, Nat.reduceAdd, Nat.reduceMul, Nat.reduceLT, Nat.reduceLeDiff, Nat.reduceBEq, reduceCtorEq]
  (refine vw_go rfl ?_; simp only [bt, bt2, go_sem, setCells, setIn, Int.reduceToNat, Int.reduceEq, Int.reduceLT, Int.reduceLE, Int.reduceNeg, Int.reduceSub, Int.reduceAdd, ge_iff_le, gt_iff_lt, ↓reduceIte, Nat.reduceEqDiff, Nat.reduceAdd, Nat.reduceMul, Nat.reduceLT, Nat.reduceLeDiff, Nat.reduceBEq, reduceCtorEq])
  (refine ⟨_, _, call_rx [0, 0] Try.func37 (rSi) rfl rfl rfl rfl rfl rfl rfl (by simp [lendAll, lendC, seek, fresh, nav, rcells, RT.cells, VV.cells, tabE_cons, tabS_cons, ev, take_map_len, opRow_r1, opRow_clean, tellRow_r1, tellRow_clean, bRow_r1, bRow_clean]) rfl (by simp [rcells, RT.cells, CT.clean, T.clean, opRow_r1, opRow_clean, tellRow_r1, tellRow_clean, bRow_r1, bRow_clean]) rfl rfl, ?_⟩)
  simp only [runH, runX, bq, bq2, go_sem, setCells, setIn, Int.reduceToNat, Int.reduceEq, Int.reduceLT, Int.reduceLE, Int.reduceNeg, Int.reduceSub, Int.reduceAdd, ge_iff_le, gt_iff_lt, ↓reduceIte, Nat.reduceEqDiff, Nat.reduceAdd, Nat.reduceMul, Nat.reduceLT, Nat.reduceLeDiff, Nat.reduceBEq, reduceCtorEq]
  (refine vw_go rfl ?_; simp only [bt, bt2, go_sem, setCells, setIn, Int.reduceToNat, Int.reduceEq, Int.reduceLT, Int.reduceLE, Int.reduceNeg, Int.reduceSub, Int.reduceAdd, ge_iff_le, gt_iff_lt, ↓reduceIte, Nat.reduceEqDiff, Nat.reduceAdd, Nat.reduceMul, Nat.reduceLT, Nat.reduceLeDiff, Nat.reduceBEq, reduceCtorEq])
  (refine ⟨_, _, call_rx [0, 0] Try.func38 (rSs) rfl rfl rfl rfl rfl rfl rfl (by simp [lendAll, lendC, seek, fresh, nav, rcells, RT.cells, VV.cells, tabE_cons, tabS_cons, ev, take_map_len, opRow_r1, opRow_clean, tellRow_r1, tellRow_clean, bRow_r1, bRow_clean]) rfl (by simp [rcells, RT.cells, CT.clean, T.clean, opRow_r1, opRow_clean, tellRow_r1, tellRow_clean, bRow_r1, bRow_clean]) rfl rfl, ?_⟩)
  simp only [runH, runX, bq, bq2, go_sem, setCells, setIn, Int.reduceToNat, Int.reduceEq, Int.reduceLT, Int.reduceLE, Int.reduceNeg, Int.reduceSub, Int.reduceAdd, ge_iff_le, gt_iff_lt, ↓reduceIte, Nat.reduceEqDiff, Nat.reduceAdd, Nat.reduceMul, Nat.reduceLT, Nat.reduceLeDiff, Nat.reduceBEq, reduceCtorEq]
  (refine vw_go rfl ?_; simp only [bt, bt2, go_sem, setCells, setIn, Int.reduceToNat, Int.reduceEq, Int.reduceLT, Int.reduceLE, Int.reduceNeg, Int.reduceSub, Int.reduceAdd, ge_iff_le, gt_iff_lt, ↓reduceIte, Nat.reduceEqDiff, Nat.reduceAdd, Nat.reduceMul, Nat.reduceLT, Nat.reduceLeDiff, Nat.reduceBEq, reduceCtorEq])
  (refine ⟨_, _, call_rx [0] Try.func39 (rT) rfl rfl rfl rfl rfl rfl rfl (by simp [lendAll, lendC, seek, fresh, nav, rcells, RT.cells, VV.cells, tabE_cons, tabS_cons, ev, take_map_len, opRow_r1, opRow_clean, tellRow_r1, tellRow_clean, bRow_r1, bRow_clean]) rfl (by simp [rcells, RT.cells, CT.clean, T.clean, opRow_r1, opRow_clean, tellRow_r1, tellRow_clean, bRow_r1, bRow_clean]) rfl rfl, ?_⟩)
  simp only [runH, runX, bt, bt2, go_sem, setCells, setIn, Int.reduceToNat, Int.reduceEq, Int.reduceLT, Int.reduceLE, Int.reduceNeg, Int.reduceSub, Int.reduceAdd, ge_iff_le, gt_iff_lt, ↓reduceIte, Nat.reduceEqDiff, Nat.reduceAdd, Nat.reduceMul, Nat.reduceLT, Nat.reduceLeDiff, Nat.reduceBEq, reduceCtorEq]
  (refine vw_go rfl ?_; simp only [bt, bt2, go_sem, setCells, setIn, Int.reduceToNat, Int.reduceEq, Int.reduceLT, Int.reduceLE, Int.reduceNeg, Int.reduceSub, Int.reduceAdd, ge_iff_le, gt_iff_lt, ↓reduceIte, Nat.reduceEqDiff, Nat.reduceAdd, Nat.reduceMul, Nat.reduceLT, Nat.reduceLeDiff, Nat.reduceBEq, reduceCtorEq])
  (refine ⟨_, _, call_rx [0, 0] Try.func40 (rTi) rfl rfl rfl rfl rfl rfl rfl (by simp [lendAll, lendC, seek, fresh, nav, rcells, RT.cells, VV.cells, tabE_cons, tabS_cons, ev, take_map_len, opRow_r1, opRow_clean, tellRow_r1, tellRow_clean, bRow_r1, bRow_clean]) rfl (by simp [rcells, RT.cells, CT.clean, T.clean, opRow_r1, opRow_clean, tellRow_r1, tellRow_clean, bRow_r1, bRow_clean]) rfl rfl, ?_⟩)
  simp only [runH, runX, bs, bs2, go_sem, setCells, setIn, Int.reduceToNat, Int.reduceEq, Int.reduceLT, Int.reduceLE, Int.reduceNeg, Int.reduceSub, Int.reduceAdd, ge_iff_le, gt_iff_lt, ↓reduceIte, Nat.reduceEqDiff, Nat.reduceAdd, Nat.reduceMul, Nat.reduceLT, Nat.reduceLeDiff, Nat.reduceBEq, reduceCtorEq]
  (refine vw_go rfl ?_; simp only [bt, bt2, go_sem, setCells, setIn, Int.reduceToNat, Int.reduceEq, Int.reduceLT, Int.reduceLE, Int.reduceNeg, Int.reduceSub, Int.reduceAdd, ge_iff_le, gt_iff_lt, ↓reduceIte, Nat.reduceEqDiff, Nat.reduceAdd, Nat.reduceMul, Nat.reduceLT, Nat.reduceLeDiff, Nat.reduceBEq, reduceCtorEq])
  (refine ⟨_, _, call_rx [0, 0] Try.func41 (rTs) rfl rfl rfl rfl rfl rfl rfl (by simp [lendAll, lendC, seek, fresh, nav, rcells, RT.cells, VV.cells, tabE_cons, tabS_cons, ev, take_map_len, opRow_r1, opRow_clean, tellRow_r1, tellRow_clean, bRow_r1, bRow_clean]) rfl (by simp [rcells, RT.cells, CT.clean, T.clean, opRow_r1, opRow_clean, tellRow_r1, tellRow_clean, bRow_r1, bRow_clean]) rfl rfl, ?_⟩)
  simp only [runH, runX, bs, bs2, go_sem, setCells, setIn, Int.reduceToNat, Int.reduceEq, Int.reduceLT, Int.reduceLE, Int.reduceNeg, Int.reduceSub, Int.reduceAdd, ge_iff_le, gt_iff_lt, ↓reduceIte, Nat.reduceEqDiff, Nat.reduceAdd, Nat.reduceMul, Nat.reduceLT, Nat.reduceLeDiff, Nat.reduceBEq, reduceCtorEq]
  refine vw_seq ?_
  (refine vw_drawA mixed rfl rfl ?_; intro A hAA)
  have k3 : (A[3]?).bind (·.dst) = some 82 := by subst hAA; rfl
  have k8 : (A[8]?).bind (·.dst) = some 87 := by subst hAA; rfl
  have k10 : (A[10]?).bind (·.dst) = some 89 := by subst hAA; rfl
  have k12 : (A[12]?).bind (·.dst) = some 91 := by subst hAA; rfl
  simp (maxSteps := 1000000) only [k3, k8, k10, k12, bt, bt2, go_sem, setCells, setIn, Int.reduceToNat, Int.reduceEq, Int.reduceLT, Int.reduceLE, Int.reduceNeg, Int.reduceSub, Int.reduceAdd, ge_iff_le, gt_iff_lt, ↓reduceIte, Nat.reduceEqDiff, Nat.reduceAdd, Nat.reduceMul, Nat.reduceLT, Nat.reduceLeDiff, Nat.reduceBEq, reduceCtorEq, runW_step]
  (refine ⟨_, _, _, call_rx_at [0] [136193] Try.func42 (runs_42 p) rfl rfl rfl rfl rfl rfl rfl (fun st1 hst1 => by (try simp only [List.mem_cons, List.not_mem_nil, or_false, false_or, forall_eq_or_imp, forall_eq] at hst1); simp [lendAll, lendC, seek, fresh, nav, rcells, RT.cells, VV.cells, tabE_cons, tabS_cons, ev, take_map_len, hst1, opRow_r1, opRow_clean, tellRow_r1, tellRow_clean, bRow_r1, bRow_clean, bt, bt2]) rfl (by simp [rcells, RT.cells, CT.clean, T.clean, opRow_r1, opRow_clean, tellRow_r1, tellRow_clean, bRow_r1, bRow_clean, bt, bt2]) rfl rfl, ?_⟩)
  (unfold runX; simp (maxSteps := 1000000) only [k3, k8, k10, k12, bt, bt2, go_sem, setCells, setIn, Int.reduceToNat, Int.reduceEq, Int.reduceLT, Int.reduceLE, Int.reduceNeg, Int.reduceSub, Int.reduceAdd, ge_iff_le, gt_iff_lt, ↓reduceIte, Nat.reduceEqDiff, Nat.reduceAdd, Nat.reduceMul, Nat.reduceLT, Nat.reduceLeDiff, Nat.reduceBEq, reduceCtorEq, runW_step])
  (refine ⟨_, _, _, call_rx_at [0] [136193] Try.func43 (runs_43 p) rfl rfl rfl rfl rfl rfl rfl (fun st1 hst1 => by (try simp only [List.mem_cons, List.not_mem_nil, or_false, false_or, forall_eq_or_imp, forall_eq] at hst1); simp [lendAll, lendC, seek, fresh, nav, rcells, RT.cells, VV.cells, tabE_cons, tabS_cons, ev, take_map_len, hst1, opRow_r1, opRow_clean, tellRow_r1, tellRow_clean, bRow_r1, bRow_clean, bt, bt2]) rfl (by simp [rcells, RT.cells, CT.clean, T.clean, opRow_r1, opRow_clean, tellRow_r1, tellRow_clean, bRow_r1, bRow_clean, bt, bt2]) rfl rfl, ?_⟩)
  (unfold runX; simp (maxSteps := 1000000) only [k3, k8, k10, k12, bt, bt2, go_sem, setCells, setIn, Int.reduceToNat, Int.reduceEq, Int.reduceLT, Int.reduceLE, Int.reduceNeg, Int.reduceSub, Int.reduceAdd, ge_iff_le, gt_iff_lt, ↓reduceIte, Nat.reduceEqDiff, Nat.reduceAdd, Nat.reduceMul, Nat.reduceLT, Nat.reduceLeDiff, Nat.reduceBEq, reduceCtorEq, runW_step])
  (refine ⟨by subst hAA; exact allOk_pre [[], [], [0, 1], [0, 1, 2], [0, 1, 2, 3], [0, 1, 2, 3], [0, 1, 2, 3, 4, 5], [0, 1, 2, 3, 4, 5, 6], [0, 1, 2, 3, 4, 5, 6, 7], [0, 1, 2, 3, 4, 5, 6, 7, 8], [0, 1, 2, 3, 4, 5, 6, 7, 8, 9], [0, 1, 2, 3, 4, 5, 6, 7, 8], [0, 1, 2, 3, 4, 5, 6, 7, 8, 9, 10, 11], [0, 1, 2, 3, 4, 5, 6, 7, 8, 9, 10, 11, 12], [0, 1, 2, 3, 4, 5, 6, 7, 8, 9, 10, 11, 12, 13]] (by kernel_rfl) (Nat.le_of_ble_eq_true (by kernel_rfl)) (by kernel_rfl), ?_⟩)
  (refine vw_cond (t := false) rfl (fun h => nomatch h) (fun _ => ?_))
  refine vw_skip (n_then ?_)
  have hq1 : ok = true → q.asks = p.asks ++ [o] ∧ q.tells = p.tells ∧ q.asks.length ≤ 3 ∧ q.tells.length ≤ 3 := by
    intro hok
    unfold sendF at hq
    split at hq
    · rename_i h
      simp only [portOk, Bool.and_eq_true, decide_eq_true_eq] at h
      simp only [Prod.mk.injEq] at hq
      obtain ⟨rfl, _⟩ := hq
      refine ⟨rfl, rfl, ?_, by simp only; omega⟩
      simp only [List.length_append, List.length_cons, List.length_nil]; omega
    · simp only [Prod.mk.injEq] at hq
      rw [hok] at hq; exact absurd hq.2 (by decide)
  have hs1 : fine = true → s.tells = p.tells ++ [u] ∧ s.asks = p.asks ∧ s.asks.length ≤ 3 ∧ s.tells.length ≤ 3 := by
    intro hok
    unfold toldF at hs
    split at hs
    · rename_i h
      simp only [portOk, Bool.and_eq_true, decide_eq_true_eq] at h
      simp only [Prod.mk.injEq] at hs
      obtain ⟨rfl, _⟩ := hs
      refine ⟨rfl, rfl, by simp only; omega, ?_⟩
      simp only [List.length_append, List.length_cons, List.length_nil]; omega
    · simp only [Prod.mk.injEq] at hs
      rw [hok] at hs; exact absurd hs.2 (by decide)
  have hE : (ok || (decide (3 ≤ (p.asks.length : Int)) || !portOk p)) = true := by
    unfold sendF at hq
    split at hq
    · simp only [Prod.mk.injEq] at hq
      rw [← hq.2]; rfl
    · rename_i h
      by_cases h1 : portOk p = true
      · have h2 : (p.asks.length : Int) = 3 := Classical.not_not.1 (fun e => h ⟨h1, e⟩)
        rw [h2]; simp
      · have h1' : portOk p = false := by simpa using h1
        rw [h1']; simp
  refine vw_join (α := List OpV × List Path) (fun z => ⟨tabE [(0, .c (.list false 1 (L.map bRow))), (3, .ptr 1 [] 0 0 0), (4, .ptr 2 [] 0 0 0), (5, .ptr 3 [] 0 0 0), (6, .c (.bool ok)), (9, .ptr 4 [] 0 0 0), (10, .ptr 5 [] 0 0 0), (11, .ptr 6 [] 0 0 0), (12, .c (.bool fine))], tabS [(1, some ⟨true, 2, [[.list true 4 (p.asks.map opRow), .list true 2 (p.tells.map tellRow)]], [[(0, 0)], [(0, 1)]]⟩), (2, some ⟨true, 4, [[.int .i64 o.kind, .str o.path, .str o.to, .str o.data]], []⟩), (3, some ⟨true, 2, [[.list true 4 (z.1.map opRow), .list true 2 (q.tells.map tellRow)]], z.2⟩), (4, some ⟨true, 2, [[.list true 4 (p.asks.map opRow), .list true 2 (p.tells.map tellRow)]], [[(0, 0)], [(0, 1)]]⟩), (5, some ⟨true, 2, [[.int .i64 u.code, .str u.text]], []⟩), (6, some ⟨true, 2, [[.list true 4 (s.asks.map opRow), .list true 2 (s.tells.map tellRow)]], [[(0, 0)], [(0, 1)]]⟩)], 7⟩)
    (fun z => ok = true → z.1 = [o]) ?_ ?_
  · (refine vw_go rfl ?_; simp only [go_sem, setCells, setIn, Int.reduceToNat, Int.reduceEq, Int.reduceLT, Int.reduceLE, Int.reduceNeg, Int.reduceSub, Int.reduceAdd, ge_iff_le, gt_iff_lt, ↓reduceIte, Nat.reduceEqDiff, Nat.reduceAdd, Nat.reduceMul, Nat.reduceLT, Nat.reduceLeDiff, Nat.reduceBEq, reduceCtorEq])
    refine vw_block ?_
    refine vw_loop_tab (α := Nat × List OpV × List Path) (fun x => p.asks.length - x.1) (fun x => ⟨tabE [(0, .c (.list false 1 (L.map bRow))), (3, .ptr 1 [] 0 0 0), (4, .ptr 2 [] 0 0 0), (5, .ptr 3 [] 0 0 0), (6, .c (.bool ok)), (9, .ptr 4 [] 0 0 0), (10, .ptr 5 [] 0 0 0), (11, .ptr 6 [] 0 0 0), (12, .c (.bool fine)), (15, .c (.int .i64 x.1))],
        tabS [(1, some ⟨true, 2, [[.list true 4 (p.asks.map opRow), .list true 2 (p.tells.map tellRow)]], [[(0, 0)], [(0, 1)]]⟩), (2, some ⟨true, 4, [[.int .i64 o.kind, .str o.path, .str o.to, .str o.data]], []⟩), (3, some ⟨true, 2, [[.list true 4 (x.2.1.map opRow), .list true 2 (q.tells.map tellRow)]], x.2.2⟩), (4, some ⟨true, 2, [[.list true 4 (p.asks.map opRow), .list true 2 (p.tells.map tellRow)]], [[(0, 0)], [(0, 1)]]⟩), (5, some ⟨true, 2, [[.int .i64 u.code, .str u.text]], []⟩), (6, some ⟨true, 2, [[.list true 4 (s.asks.map opRow), .list true 2 (s.tells.map tellRow)]], [[(0, 0)], [(0, 1)]]⟩)], 7⟩)
      (fun x => x.1 ≤ p.asks.length ∧ (ok = true → x.2.1 = (p.asks ++ [o]).drop x.1)) (x := (0, q.asks, [[(0, 0)], [(0, 1)]])) ?round ?h0 ?hn
    case h0 => exact ⟨Nat.zero_le _, fun h => (hq1 h).1⟩
    case hn => (refine norm_to [(136193, 1), (137217, 2), (202753, 3), (332801, 4), (333825, 5), (399361, 6)] rfl ?_ ?_ <;> simp only [go_sem, Int.reduceToNat, Int.reduceEq, Int.reduceLT, Int.reduceLE, Int.reduceNeg, Int.reduceSub, Int.reduceAdd, ge_iff_le, gt_iff_lt, ↓reduceIte, Nat.reduceEqDiff, Nat.reduceAdd, Nat.reduceMul, Nat.reduceLT, Nat.reduceLeDiff, Nat.reduceBEq, reduceCtorEq])
    rintro ⟨i, qa, lg⟩ ⟨hi, hd⟩
    simp only at hi hd
    refine vw_seq ?_
    by_cases hc : (i : Int) < p.asks.length
    case neg =>
      (refine vw_go rfl ?_; simp only [hc, go_sem, setCells, setIn, Int.reduceToNat, Int.reduceEq, Int.reduceLT, Int.reduceLE, Int.reduceNeg, Int.reduceSub, Int.reduceAdd, ge_iff_le, gt_iff_lt, ↓reduceIte, Nat.reduceEqDiff, Nat.reduceAdd, Nat.reduceMul, Nat.reduceLT, Nat.reduceLeDiff, Nat.reduceBEq, reduceCtorEq])
      (refine vw_cond (t := false) rfl (fun h => nomatch h) (fun _ => ?_))
      refine vw_exit (x_then (x_then (x_block (n_then ⟨(qa, lg), ?_, ?_⟩))))
      · intro h
        simp only
        rw [hd h, List.drop_append_of_le_length (by omega), List.drop_eq_nil_of_le (by omega)]; rfl
      (refine norm_to [(1, 1), (2, 2), (3, 3), (4, 4), (5, 5), (6, 6)] rfl ?_ ?_ <;> simp only [go_sem, Int.reduceToNat, Int.reduceEq, Int.reduceLT, Int.reduceLE, Int.reduceNeg, Int.reduceSub, Int.reduceAdd, ge_iff_le, gt_iff_lt, ↓reduceIte, Nat.reduceEqDiff, Nat.reduceAdd, Nat.reduceMul, Nat.reduceLT, Nat.reduceLeDiff, Nat.reduceBEq, reduceCtorEq])
    cases ok
    case false =>
      (refine vw_go rfl ?_; simp only [hc, go_sem, setCells, setIn, Int.reduceToNat, Int.reduceEq, Int.reduceLT, Int.reduceLE, Int.reduceNeg, Int.reduceSub, Int.reduceAdd, ge_iff_le, gt_iff_lt, ↓reduceIte, Nat.reduceEqDiff, Nat.reduceAdd, Nat.reduceMul, Nat.reduceLT, Nat.reduceLeDiff, Nat.reduceBEq, reduceCtorEq])
      (refine vw_cond (t := false) rfl (fun h => nomatch h) (fun _ => ?_))
      refine vw_exit (x_then (x_then (x_block (n_then ⟨(qa, lg), ?_⟩))))
      (refine norm_to [(1, 1), (2, 2), (3, 3), (4, 4), (5, 5), (6, 6)] rfl ?_ ?_ <;> simp only [go_sem, Int.reduceToNat, Int.reduceEq, Int.reduceLT, Int.reduceLE, Int.reduceNeg, Int.reduceSub, Int.reduceAdd, ge_iff_le, gt_iff_lt, ↓reduceIte, Nat.reduceEqDiff, Nat.reduceAdd, Nat.reduceMul, Nat.reduceLT, Nat.reduceLeDiff, Nat.reduceBEq, reduceCtorEq])
    obtain ⟨e1, e2, l1, l2⟩ := hq1 rfl
    have hd' := hd rfl
    have hin : i < p.asks.length := by omega
    obtain ⟨y, hy⟩ : ∃ y, p.asks[i]? = some y := ⟨_, List.getElem?_eq_getElem (by omega)⟩
    have hdr : (p.asks ++ [o]).drop i = y :: (p.asks ++ [o]).drop (i + 1) := by
      rw [List.drop_eq_getElem_cons (by simp; omega), List.getElem_append_left (by omega)]
      congr 1
      rw [List.getElem?_eq_getElem (by omega)] at hy
      exact Option.some.inj hy
    have hlen2 : qa.length ≤ 3 := by rw [hd', List.length_drop, ← e1]; omega
    rw [hdr] at hd'
    have hpo : portOk ⟨qa, q.tells⟩ = true := by simp only [portOk, Bool.and_eq_true, decide_eq_true_eq]; omega
    have rK := runs_44 ⟨qa, q.tells⟩ (Nat.le_trans hlen2 (by decide)) (Nat.le_trans l2 (by decide))
    rw [takeF_yes hpo hd'] at rK
    generalize hnx : (p.asks ++ [o]).drop (i + 1) = qn at rK hdr hd'
    have ba : List.take qa.length (qa.map opRow) = qa.map opRow := List.take_of_length_le (by simp)
    have bq : List.take q.tells.length (q.tells.map tellRow) = q.tells.map tellRow := List.take_of_length_le (by simp)
    have bn : List.take qn.length (qn.map opRow) = qn.map opRow := List.take_of_length_le (by simp)
    have c0 : (0:Int) ≤ (i : Int) := by omega
    have w3 : IntKind.wrap .i64 ((i:Int) + 1) = ((i + 1 : Nat) : Int) := by rw [wrap_i64 (by omega) (by omega)]; rfl
    (refine vw_go rfl ?_; simp only [hc, go_sem, setCells, setIn, Int.reduceToNat, Int.reduceEq, Int.reduceLT, Int.reduceLE, Int.reduceNeg, Int.reduceSub, Int.reduceAdd, ge_iff_le, gt_iff_lt, ↓reduceIte, Nat.reduceEqDiff, Nat.reduceAdd, Nat.reduceMul, Nat.reduceLT, Nat.reduceLeDiff, Nat.reduceBEq, reduceCtorEq])
    (refine vw_cond (t := true) rfl (fun _ => ?_) (fun h => nomatch h))
    refine vw_skip (n_then ?_)
    refine vw_seq ?_
    refine vw_block ?_
    (refine vw_go rfl ?_; simp only [List.drop_length, ba, bq, go_sem, setCells, setIn, Int.reduceToNat, Int.reduceEq, Int.reduceLT, Int.reduceLE, Int.reduceNeg, Int.reduceSub, Int.reduceAdd, ge_iff_le, gt_iff_lt, ↓reduceIte, Nat.reduceEqDiff, Nat.reduceAdd, Nat.reduceMul, Nat.reduceLT, Nat.reduceLeDiff, Nat.reduceBEq, reduceCtorEq])
    (refine ⟨_, _, call_rx [0] Try.func44 (rK) rfl rfl rfl rfl rfl rfl rfl (by simp [lendAll, lendC, seek, fresh, nav, rcells, RT.cells, VV.cells, tabE_cons, tabS_cons, ev, take_map_len, opRow_r1, opRow_clean, tellRow_r1, tellRow_clean, bRow_r1, bRow_clean, ba, bq, List.drop_length]) rfl (by simp [rcells, RT.cells, CT.clean, T.clean, opRow_r1, opRow_clean, tellRow_r1, tellRow_clean, bRow_r1, bRow_clean, ba, bq, List.drop_length]) rfl rfl, ?_⟩)
    simp only [runH, runX, bn, bq, List.drop_length, go_sem, setCells, setIn, Int.reduceToNat, Int.reduceEq, Int.reduceLT, Int.reduceLE, Int.reduceNeg, Int.reduceSub, Int.reduceAdd, ge_iff_le, gt_iff_lt, ↓reduceIte, Nat.reduceEqDiff, Nat.reduceAdd, Nat.reduceMul, Nat.reduceLT, Nat.reduceLeDiff, Nat.reduceBEq, reduceCtorEq]
    refine vw_seq ?_
    (refine vw_drawA mixed rfl rfl ?_; intro A hAA)
    have k2 : (A[2]?).bind (·.dst) = some 112 := by subst hAA; rfl
    simp (maxSteps := 1000000) only [k2, c0, hc, hin, bt, bt2, Int.toNat_natCast, getD_map_of hy, opRow, go_sem, setCells, setIn, Int.reduceToNat, Int.reduceEq, Int.reduceLT, Int.reduceLE, Int.reduceNeg, Int.reduceSub, Int.reduceAdd, ge_iff_le, gt_iff_lt, ↓reduceIte, Nat.reduceEqDiff, Nat.reduceAdd, Nat.reduceMul, Nat.reduceLT, Nat.reduceLeDiff, Nat.reduceBEq, reduceCtorEq, runW_step]
    (refine ⟨by subst hAA; exact allOk_pre [[], [0], [0, 1], [0, 1, 2], [0, 1, 2], [0, 1, 2, 4], [0, 1, 2], [0, 1, 2, 4, 5, 6], [0, 1, 2, 4, 5, 6, 7], [0, 1, 2, 3, 4, 5, 6, 7, 8], [0, 1, 2, 3, 4, 5, 6, 7, 8, 9]] (by kernel_rfl) (Nat.le_of_ble_eq_true (by kernel_rfl)) (by kernel_rfl), ?_⟩)
    (refine vw_cond (t := false) rfl (fun h => nomatch h) (fun _ => ?_))
    refine vw_skip (n_then ?_)
    (refine vw_last rfl ?_; simp only [bn, bq, List.drop_length, go_sem, setCells, setIn, Int.reduceToNat, Int.reduceEq, Int.reduceLT, Int.reduceLE, Int.reduceNeg, Int.reduceSub, Int.reduceAdd, ge_iff_le, gt_iff_lt, ↓reduceIte, Nat.reduceEqDiff, Nat.reduceAdd, Nat.reduceMul, Nat.reduceLT, Nat.reduceLeDiff, Nat.reduceBEq, reduceCtorEq])
    refine (n_block (n_then ?_))
    (refine vw_last rfl ?_; simp only [w3, go_sem, setCells, setIn, Int.reduceToNat, Int.reduceEq, Int.reduceLT, Int.reduceLE, Int.reduceNeg, Int.reduceSub, Int.reduceAdd, ge_iff_le, gt_iff_lt, ↓reduceIte, Nat.reduceEqDiff, Nat.reduceAdd, Nat.reduceMul, Nat.reduceLT, Nat.reduceLeDiff, Nat.reduceBEq, reduceCtorEq])
    refine (n_then ?_)
    refine ⟨(i + 1, qn, lg ++ [[(0, 0)], [(0, 1)]]), by simp only; omega, ⟨by simp only; omega, hnx.symm⟩, ?_⟩
    (refine norm_to [(1, 1), (2, 2), (3, 3), (4, 4), (5, 5), (6, 6)] rfl ?_ ?_ <;> simp only [go_sem, Int.reduceToNat, Int.reduceEq, Int.reduceLT, Int.reduceLE, Int.reduceNeg, Int.reduceSub, Int.reduceAdd, ge_iff_le, gt_iff_lt, ↓reduceIte, Nat.reduceEqDiff, Nat.reduceAdd, Nat.reduceMul, Nat.reduceLT, Nat.reduceLeDiff, Nat.reduceBEq, reduceCtorEq])
  rintro ⟨qa, lg⟩ hqa
  simp only at hqa
  have hqt : ok = true → q.tells.length ≤ 3 := fun h => (hq1 h).2.2.2
  clear hq1 hq rSi rSs rS rT rTi rTs
  refine vw_join (α := List TellV × List Path) (fun z => ⟨tabE [(0, .c (.list false 1 (L.map bRow))), (3, .ptr 1 [] 0 0 0), (4, .ptr 2 [] 0 0 0), (5, .ptr 3 [] 0 0 0), (6, .c (.bool ok)), (9, .ptr 4 [] 0 0 0), (10, .ptr 5 [] 0 0 0), (11, .ptr 6 [] 0 0 0), (12, .c (.bool fine))], tabS [(1, some ⟨true, 2, [[.list true 4 (p.asks.map opRow), .list true 2 (p.tells.map tellRow)]], [[(0, 0)], [(0, 1)]]⟩), (2, some ⟨true, 4, [[.int .i64 o.kind, .str o.path, .str o.to, .str o.data]], []⟩), (3, some ⟨true, 2, [[.list true 4 (qa.map opRow), .list true 2 (q.tells.map tellRow)]], lg⟩), (4, some ⟨true, 2, [[.list true 4 (p.asks.map opRow), .list true 2 (p.tells.map tellRow)]], [[(0, 0)], [(0, 1)]]⟩), (5, some ⟨true, 2, [[.int .i64 u.code, .str u.text]], []⟩), (6, some ⟨true, 2, [[.list true 4 (s.asks.map opRow), .list true 2 (z.1.map tellRow)]], z.2⟩)], 7⟩)
    (fun z => fine = true → z.1 = [u]) ?_ ?_
  · (refine vw_go rfl ?_; simp only [go_sem, setCells, setIn, Int.reduceToNat, Int.reduceEq, Int.reduceLT, Int.reduceLE, Int.reduceNeg, Int.reduceSub, Int.reduceAdd, ge_iff_le, gt_iff_lt, ↓reduceIte, Nat.reduceEqDiff, Nat.reduceAdd, Nat.reduceMul, Nat.reduceLT, Nat.reduceLeDiff, Nat.reduceBEq, reduceCtorEq])
    refine vw_block ?_
    refine vw_loop_tab (α := Nat × List TellV × List Path) (fun x => p.tells.length - x.1) (fun x => ⟨tabE [(0, .c (.list false 1 (L.map bRow))), (3, .ptr 1 [] 0 0 0), (4, .ptr 2 [] 0 0 0), (5, .ptr 3 [] 0 0 0), (6, .c (.bool ok)), (9, .ptr 4 [] 0 0 0), (10, .ptr 5 [] 0 0 0), (11, .ptr 6 [] 0 0 0), (12, .c (.bool fine)), (19, .c (.int .i64 x.1))],
        tabS [(1, some ⟨true, 2, [[.list true 4 (p.asks.map opRow), .list true 2 (p.tells.map tellRow)]], [[(0, 0)], [(0, 1)]]⟩), (2, some ⟨true, 4, [[.int .i64 o.kind, .str o.path, .str o.to, .str o.data]], []⟩), (3, some ⟨true, 2, [[.list true 4 (qa.map opRow), .list true 2 (q.tells.map tellRow)]], lg⟩), (4, some ⟨true, 2, [[.list true 4 (p.asks.map opRow), .list true 2 (p.tells.map tellRow)]], [[(0, 0)], [(0, 1)]]⟩), (5, some ⟨true, 2, [[.int .i64 u.code, .str u.text]], []⟩), (6, some ⟨true, 2, [[.list true 4 (s.asks.map opRow), .list true 2 (x.2.1.map tellRow)]], x.2.2⟩)], 7⟩)
      (fun x => x.1 ≤ p.tells.length ∧ (fine = true → x.2.1 = (p.tells ++ [u]).drop x.1)) (x := (0, s.tells, [[(0, 0)], [(0, 1)]])) ?round2 ?h02 ?hn2
    case h02 => exact ⟨Nat.zero_le _, fun h => (hs1 h).1⟩
    case hn2 => (refine norm_to [(1, 1), (2, 2), (3, 3), (4, 4), (5, 5), (6, 6)] rfl ?_ ?_ <;> simp only [go_sem, Int.reduceToNat, Int.reduceEq, Int.reduceLT, Int.reduceLE, Int.reduceNeg, Int.reduceSub, Int.reduceAdd, ge_iff_le, gt_iff_lt, ↓reduceIte, Nat.reduceEqDiff, Nat.reduceAdd, Nat.reduceMul, Nat.reduceLT, Nat.reduceLeDiff, Nat.reduceBEq, reduceCtorEq])
    rintro ⟨i, sa, lh⟩ ⟨hi, hd⟩
    simp only at hi hd
    refine vw_seq ?_
    by_cases hc : (i : Int) < p.tells.length
    case neg =>
      (refine vw_go rfl ?_; simp only [hc, go_sem, setCells, setIn, Int.reduceToNat, Int.reduceEq, Int.reduceLT, Int.reduceLE, Int.reduceNeg, Int.reduceSub, Int.reduceAdd, ge_iff_le, gt_iff_lt, ↓reduceIte, Nat.reduceEqDiff, Nat.reduceAdd, Nat.reduceMul, Nat.reduceLT, Nat.reduceLeDiff, Nat.reduceBEq, reduceCtorEq])
      (refine vw_cond (t := false) rfl (fun h => nomatch h) (fun _ => ?_))
      refine vw_exit (x_then (x_then (x_block (n_then ⟨(sa, lh), ?_, ?_⟩))))
      · intro h
        simp only
        rw [hd h, List.drop_append_of_le_length (by omega), List.drop_eq_nil_of_le (by omega)]; rfl
      (refine norm_to [(1, 1), (2, 2), (3, 3), (4, 4), (5, 5), (6, 6)] rfl ?_ ?_ <;> simp only [go_sem, Int.reduceToNat, Int.reduceEq, Int.reduceLT, Int.reduceLE, Int.reduceNeg, Int.reduceSub, Int.reduceAdd, ge_iff_le, gt_iff_lt, ↓reduceIte, Nat.reduceEqDiff, Nat.reduceAdd, Nat.reduceMul, Nat.reduceLT, Nat.reduceLeDiff, Nat.reduceBEq, reduceCtorEq])
    cases fine
    case false =>
      (refine vw_go rfl ?_; simp only [hc, go_sem, setCells, setIn, Int.reduceToNat, Int.reduceEq, Int.reduceLT, Int.reduceLE, Int.reduceNeg, Int.reduceSub, Int.reduceAdd, ge_iff_le, gt_iff_lt, ↓reduceIte, Nat.reduceEqDiff, Nat.reduceAdd, Nat.reduceMul, Nat.reduceLT, Nat.reduceLeDiff, Nat.reduceBEq, reduceCtorEq])
      (refine vw_cond (t := false) rfl (fun h => nomatch h) (fun _ => ?_))
      refine vw_exit (x_then (x_then (x_block (n_then ⟨(sa, lh), ?_⟩))))
      (refine norm_to [(1, 1), (2, 2), (3, 3), (4, 4), (5, 5), (6, 6)] rfl ?_ ?_ <;> simp only [go_sem, Int.reduceToNat, Int.reduceEq, Int.reduceLT, Int.reduceLE, Int.reduceNeg, Int.reduceSub, Int.reduceAdd, ge_iff_le, gt_iff_lt, ↓reduceIte, Nat.reduceEqDiff, Nat.reduceAdd, Nat.reduceMul, Nat.reduceLT, Nat.reduceLeDiff, Nat.reduceBEq, reduceCtorEq])
    obtain ⟨e1, e2, l1, l2⟩ := hs1 rfl
    have hd' := hd rfl
    have hin : i < p.tells.length := by omega
    obtain ⟨y, hy⟩ : ∃ y, p.tells[i]? = some y := ⟨_, List.getElem?_eq_getElem (by omega)⟩
    have hdr : (p.tells ++ [u]).drop i = y :: (p.tells ++ [u]).drop (i + 1) := by
      rw [List.drop_eq_getElem_cons (by simp; omega), List.getElem_append_left (by omega)]
      congr 1
      rw [List.getElem?_eq_getElem (by omega)] at hy
      exact Option.some.inj hy
    have hlen2 : sa.length ≤ 3 := by rw [hd', List.length_drop, ← e1]; omega
    rw [hdr] at hd'
    have hpo : portOk ⟨s.asks, sa⟩ = true := by simp only [portOk, Bool.and_eq_true, decide_eq_true_eq]; omega
    have rK := runs_45 ⟨s.asks, sa⟩ (Nat.le_trans l1 (by decide)) (Nat.le_trans hlen2 (by decide))
    rw [hearF_yes hpo hd'] at rK
    generalize hnx : (p.tells ++ [u]).drop (i + 1) = sn at rK hdr hd'
    have ba : List.take sa.length (sa.map tellRow) = sa.map tellRow := List.take_of_length_le (by simp)
    have bq : List.take s.asks.length (s.asks.map opRow) = s.asks.map opRow := List.take_of_length_le (by simp)
    have bn : List.take sn.length (sn.map tellRow) = sn.map tellRow := List.take_of_length_le (by simp)
    have c0 : (0:Int) ≤ (i : Int) := by omega
    have w3 : IntKind.wrap .i64 ((i:Int) + 1) = ((i + 1 : Nat) : Int) := by rw [wrap_i64 (by omega) (by omega)]; rfl
    (refine vw_go rfl ?_; simp only [hc, go_sem, setCells, setIn, Int.reduceToNat, Int.reduceEq, Int.reduceLT, Int.reduceLE, Int.reduceNeg, Int.reduceSub, Int.reduceAdd, ge_iff_le, gt_iff_lt, ↓reduceIte, Nat.reduceEqDiff, Nat.reduceAdd, Nat.reduceMul, Nat.reduceLT, Nat.reduceLeDiff, Nat.reduceBEq, reduceCtorEq])
    (refine vw_cond (t := true) rfl (fun _ => ?_) (fun h => nomatch h))
    refine vw_skip (n_then ?_)
    refine vw_seq ?_
    refine vw_block ?_
    (refine vw_go rfl ?_; simp only [List.drop_length, ba, bq, go_sem, setCells, setIn, Int.reduceToNat, Int.reduceEq, Int.reduceLT, Int.reduceLE, Int.reduceNeg, Int.reduceSub, Int.reduceAdd, ge_iff_le, gt_iff_lt, ↓reduceIte, Nat.reduceEqDiff, Nat.reduceAdd, Nat.reduceMul, Nat.reduceLT, Nat.reduceLeDiff, Nat.reduceBEq, reduceCtorEq])
    (refine ⟨_, _, call_rx [0] Try.func45 (rK) rfl rfl rfl rfl rfl rfl rfl (by simp [lendAll, lendC, seek, fresh, nav, rcells, RT.cells, VV.cells, tabE_cons, tabS_cons, ev, take_map_len, opRow_r1, opRow_clean, tellRow_r1, tellRow_clean, bRow_r1, bRow_clean, ba, bq, List.drop_length]) rfl (by simp [rcells, RT.cells, CT.clean, T.clean, opRow_r1, opRow_clean, tellRow_r1, tellRow_clean, bRow_r1, bRow_clean, ba, bq, List.drop_length]) rfl rfl, ?_⟩)
    simp only [runH, runX, bn, bq, List.drop_length, go_sem, setCells, setIn, Int.reduceToNat, Int.reduceEq, Int.reduceLT, Int.reduceLE, Int.reduceNeg, Int.reduceSub, Int.reduceAdd, ge_iff_le, gt_iff_lt, ↓reduceIte, Nat.reduceEqDiff, Nat.reduceAdd, Nat.reduceMul, Nat.reduceLT, Nat.reduceLeDiff, Nat.reduceBEq, reduceCtorEq]
    refine vw_seq ?_
    (refine vw_drawA mixed rfl rfl ?_; intro A hAA)
    have k2 : (A[2]?).bind (·.dst) = some 140 := by subst hAA; rfl
    simp (maxSteps := 1000000) only [k2, c0, hc, hin, bt, bt2, Int.toNat_natCast, getD_map_of hy, tellRow, go_sem, setCells, setIn, Int.reduceToNat, Int.reduceEq, Int.reduceLT, Int.reduceLE, Int.reduceNeg, Int.reduceSub, Int.reduceAdd, ge_iff_le, gt_iff_lt, ↓reduceIte, Nat.reduceEqDiff, Nat.reduceAdd, Nat.reduceMul, Nat.reduceLT, Nat.reduceLeDiff, Nat.reduceBEq, reduceCtorEq, runW_step]
    (refine ⟨by subst hAA; exact allOk_pre [[], [0], [0, 1], [0, 1, 2], [0, 1, 2], [0, 1, 2, 4], [0, 1, 2], [0, 1, 2, 4, 5, 6], [0, 1, 2, 4, 5, 6, 7], [0, 1, 2, 3, 4, 5, 6, 7, 8], [0, 1, 2, 3, 4, 5, 6, 7, 8, 9]] (by kernel_rfl) (Nat.le_of_ble_eq_true (by kernel_rfl)) (by kernel_rfl), ?_⟩)
    (refine vw_cond (t := false) rfl (fun h => nomatch h) (fun _ => ?_))
    refine vw_skip (n_then ?_)
    (refine vw_last rfl ?_; simp only [bn, bq, List.drop_length, go_sem, setCells, setIn, Int.reduceToNat, Int.reduceEq, Int.reduceLT, Int.reduceLE, Int.reduceNeg, Int.reduceSub, Int.reduceAdd, ge_iff_le, gt_iff_lt, ↓reduceIte, Nat.reduceEqDiff, Nat.reduceAdd, Nat.reduceMul, Nat.reduceLT, Nat.reduceLeDiff, Nat.reduceBEq, reduceCtorEq])
    refine (n_block (n_then ?_))
    (refine vw_last rfl ?_; simp only [w3, go_sem, setCells, setIn, Int.reduceToNat, Int.reduceEq, Int.reduceLT, Int.reduceLE, Int.reduceNeg, Int.reduceSub, Int.reduceAdd, ge_iff_le, gt_iff_lt, ↓reduceIte, Nat.reduceEqDiff, Nat.reduceAdd, Nat.reduceMul, Nat.reduceLT, Nat.reduceLeDiff, Nat.reduceBEq, reduceCtorEq])
    refine (n_then ?_)
    refine ⟨(i + 1, sn, lh ++ [[(0, 0)], [(0, 1)]]), by simp only; omega, ⟨by simp only; omega, hnx.symm⟩, ?_⟩
    (refine norm_to [(1, 1), (2, 2), (3, 3), (4, 4), (5, 5), (6, 6)] rfl ?_ ?_ <;> simp only [go_sem, Int.reduceToNat, Int.reduceEq, Int.reduceLT, Int.reduceLE, Int.reduceNeg, Int.reduceSub, Int.reduceAdd, ge_iff_le, gt_iff_lt, ↓reduceIte, Nat.reduceEqDiff, Nat.reduceAdd, Nat.reduceMul, Nat.reduceLT, Nat.reduceLeDiff, Nat.reduceBEq, reduceCtorEq])
  rintro ⟨sa, lh⟩ hsa
  simp only at hsa
  have hst : fine = true → s.asks.length ≤ 3 := fun h => (hs1 h).2.2.1
  clear hs1 hs
  refine vw_join (α := Unit) (fun _ => ⟨tabE [(0, .c (.list false 1 (L.map bRow))), (3, .ptr 1 [] 0 0 0), (6, .c (.bool ok)), (10, .ptr 5 [] 0 0 0), (11, .ptr 6 [] 0 0 0), (12, .c (.bool fine))],
      tabS [(1, some ⟨true, 2, [[.list true 4 (p.asks.map opRow), .list true 2 (p.tells.map tellRow)]], [[(0, 0)], [(0, 1)]]⟩), (5, some ⟨true, 2, [[.int .i64 u.code, .str u.text]], []⟩), (6, some ⟨true, 2, [[.list true 4 (s.asks.map opRow), .list true 2 (sa.map tellRow)]], lh⟩)], 7⟩) (fun _ => True) ?_ ?_
  · (refine vw_go rfl ?_; simp only [go_sem, setCells, setIn, Int.reduceToNat, Int.reduceEq, Int.reduceLT, Int.reduceLE, Int.reduceNeg, Int.reduceSub, Int.reduceAdd, ge_iff_le, gt_iff_lt, ↓reduceIte, Nat.reduceEqDiff, Nat.reduceAdd, Nat.reduceMul, Nat.reduceLT, Nat.reduceLeDiff, Nat.reduceBEq, reduceCtorEq])
    cases ok
    case false =>
      (refine vw_cond (t := false) rfl (fun h => nomatch h) (fun _ => ?_))
      refine vw_skip (n_then ⟨(), ?_⟩)
      (refine norm_to [(1, 1), (5, 5), (6, 6)] rfl ?_ ?_ <;> simp only [go_sem, Int.reduceToNat, Int.reduceEq, Int.reduceLT, Int.reduceLE, Int.reduceNeg, Int.reduceSub, Int.reduceAdd, ge_iff_le, gt_iff_lt, ↓reduceIte, Nat.reduceEqDiff, Nat.reduceAdd, Nat.reduceMul, Nat.reduceLT, Nat.reduceLeDiff, Nat.reduceBEq, reduceCtorEq])
    obtain rfl := hqa rfl
    have hqt := hqt rfl
    have rK := runs_44 ⟨[o], q.tells⟩ (Nat.le_of_ble_eq_true rfl) (Nat.le_trans hqt (by decide))
    rw [takeF_yes (x := ⟨[o], q.tells⟩) (by simp only [portOk, Bool.and_eq_true, decide_eq_true_eq, List.length_cons, List.length_nil]; omega) rfl] at rK
    have bq : List.take q.tells.length (q.tells.map tellRow) = q.tells.map tellRow := List.take_of_length_le (by simp)
    (refine vw_cond (t := true) rfl (fun _ => ?_) (fun h => nomatch h))
    (refine vw_go rfl ?_; simp only [List.drop_length, bq, go_sem, setCells, setIn, Int.reduceToNat, Int.reduceEq, Int.reduceLT, Int.reduceLE, Int.reduceNeg, Int.reduceSub, Int.reduceAdd, ge_iff_le, gt_iff_lt, ↓reduceIte, Nat.reduceEqDiff, Nat.reduceAdd, Nat.reduceMul, Nat.reduceLT, Nat.reduceLeDiff, Nat.reduceBEq, reduceCtorEq])
    (refine ⟨_, _, call_rx [0] Try.func44 (rK) rfl rfl rfl rfl rfl rfl rfl (by simp [lendAll, lendC, seek, fresh, nav, rcells, RT.cells, VV.cells, tabE_cons, tabS_cons, ev, take_map_len, opRow_r1, opRow_clean, tellRow_r1, tellRow_clean, bRow_r1, bRow_clean, opRow, bq, List.drop_length, cleanRs]) rfl (by simp [rcells, RT.cells, CT.clean, T.clean, opRow_r1, opRow_clean, tellRow_r1, tellRow_clean, bRow_r1, bRow_clean, opRow, bq, List.drop_length, cleanRs]) rfl rfl, ?_⟩)
    simp only [runH, runX, bq, List.drop_length, go_sem, setCells, setIn, Int.reduceToNat, Int.reduceEq, Int.reduceLT, Int.reduceLE, Int.reduceNeg, Int.reduceSub, Int.reduceAdd, ge_iff_le, gt_iff_lt, ↓reduceIte, Nat.reduceEqDiff, Nat.reduceAdd, Nat.reduceMul, Nat.reduceLT, Nat.reduceLeDiff, Nat.reduceBEq, reduceCtorEq]
    (refine vw_go rfl ?_; simp only [go_sem, setCells, setIn, Int.reduceToNat, Int.reduceEq, Int.reduceLT, Int.reduceLE, Int.reduceNeg, Int.reduceSub, Int.reduceAdd, ge_iff_le, gt_iff_lt, ↓reduceIte, Nat.reduceEqDiff, Nat.reduceAdd, Nat.reduceMul, Nat.reduceLT, Nat.reduceLeDiff, Nat.reduceBEq, reduceCtorEq])
    (refine vw_cond (t := false) rfl (fun h => nomatch h) (fun _ => ?_))
    refine vw_skip (n_then ⟨(), ?_⟩)
    (refine norm_to [(1, 1), (5, 5), (6, 6)] rfl ?_ ?_ <;> simp only [go_sem, Int.reduceToNat, Int.reduceEq, Int.reduceLT, Int.reduceLE, Int.reduceNeg, Int.reduceSub, Int.reduceAdd, ge_iff_le, gt_iff_lt, ↓reduceIte, Nat.reduceEqDiff, Nat.reduceAdd, Nat.reduceMul, Nat.reduceLT, Nat.reduceLeDiff, Nat.reduceBEq, reduceCtorEq])
  rintro _ _
  clear hqa hqt
  refine vw_join (α := Unit) (fun _ => ⟨tabE [(0, .c (.list false 1 (L.map bRow))), (3, .ptr 1 [] 0 0 0), (6, .c (.bool ok))],
      tabS [(1, some ⟨true, 2, [[.list true 4 (p.asks.map opRow), .list true 2 (p.tells.map tellRow)]], [[(0, 0)], [(0, 1)]]⟩)], 7⟩) (fun _ => True) ?_ ?_
  · (refine vw_go rfl ?_; simp only [go_sem, setCells, setIn, Int.reduceToNat, Int.reduceEq, Int.reduceLT, Int.reduceLE, Int.reduceNeg, Int.reduceSub, Int.reduceAdd, ge_iff_le, gt_iff_lt, ↓reduceIte, Nat.reduceEqDiff, Nat.reduceAdd, Nat.reduceMul, Nat.reduceLT, Nat.reduceLeDiff, Nat.reduceBEq, reduceCtorEq])
    cases fine
    case false =>
      (refine vw_cond (t := false) rfl (fun h => nomatch h) (fun _ => ?_))
      refine vw_skip (n_then ⟨(), ?_⟩)
      (refine norm_to [(1, 1)] rfl ?_ ?_ <;> simp only [go_sem, Int.reduceToNat, Int.reduceEq, Int.reduceLT, Int.reduceLE, Int.reduceNeg, Int.reduceSub, Int.reduceAdd, ge_iff_le, gt_iff_lt, ↓reduceIte, Nat.reduceEqDiff, Nat.reduceAdd, Nat.reduceMul, Nat.reduceLT, Nat.reduceLeDiff, Nat.reduceBEq, reduceCtorEq])
    obtain rfl := hsa rfl
    have hst := hst rfl
    have rK := runs_45 ⟨s.asks, [u]⟩ (Nat.le_trans hst (by decide)) (Nat.le_of_ble_eq_true rfl)
    rw [hearF_yes (x := ⟨s.asks, [u]⟩) (by simp only [portOk, Bool.and_eq_true, decide_eq_true_eq, List.length_cons, List.length_nil]; omega) rfl] at rK
    have bq : List.take s.asks.length (s.asks.map opRow) = s.asks.map opRow := List.take_of_length_le (by simp)
    (refine vw_cond (t := true) rfl (fun _ => ?_) (fun h => nomatch h))
    (refine vw_go rfl ?_; simp only [List.drop_length, bq, go_sem, setCells, setIn, Int.reduceToNat, Int.reduceEq, Int.reduceLT, Int.reduceLE, Int.reduceNeg, Int.reduceSub, Int.reduceAdd, ge_iff_le, gt_iff_lt, ↓reduceIte, Nat.reduceEqDiff, Nat.reduceAdd, Nat.reduceMul, Nat.reduceLT, Nat.reduceLeDiff, Nat.reduceBEq, reduceCtorEq])
    (refine ⟨_, _, call_rx [0] Try.func45 (rK) rfl rfl rfl rfl rfl rfl rfl (by simp [lendAll, lendC, seek, fresh, nav, rcells, RT.cells, VV.cells, tabE_cons, tabS_cons, ev, take_map_len, opRow_r1, opRow_clean, tellRow_r1, tellRow_clean, bRow_r1, bRow_clean, tellRow, bq, List.drop_length, cleanRs]) rfl (by simp [rcells, RT.cells, CT.clean, T.clean, opRow_r1, opRow_clean, tellRow_r1, tellRow_clean, bRow_r1, bRow_clean, tellRow, bq, List.drop_length, cleanRs]) rfl rfl, ?_⟩)
    simp only [runH, runX, bq, List.drop_length, go_sem, setCells, setIn, Int.reduceToNat, Int.reduceEq, Int.reduceLT, Int.reduceLE, Int.reduceNeg, Int.reduceSub, Int.reduceAdd, ge_iff_le, gt_iff_lt, ↓reduceIte, Nat.reduceEqDiff, Nat.reduceAdd, Nat.reduceMul, Nat.reduceLT, Nat.reduceLeDiff, Nat.reduceBEq, reduceCtorEq]
    (refine vw_go rfl ?_; simp only [go_sem, setCells, setIn, Int.reduceToNat, Int.reduceEq, Int.reduceLT, Int.reduceLE, Int.reduceNeg, Int.reduceSub, Int.reduceAdd, ge_iff_le, gt_iff_lt, ↓reduceIte, Nat.reduceEqDiff, Nat.reduceAdd, Nat.reduceMul, Nat.reduceLT, Nat.reduceLeDiff, Nat.reduceBEq, reduceCtorEq])
    (refine vw_cond (t := false) rfl (fun h => nomatch h) (fun _ => ?_))
    refine vw_skip (n_then ⟨(), ?_⟩)
    (refine norm_to [(1, 1)] rfl ?_ ?_ <;> simp only [go_sem, Int.reduceToNat, Int.reduceEq, Int.reduceLT, Int.reduceLE, Int.reduceNeg, Int.reduceSub, Int.reduceAdd, ge_iff_le, gt_iff_lt, ↓reduceIte, Nat.reduceEqDiff, Nat.reduceAdd, Nat.reduceMul, Nat.reduceLT, Nat.reduceLeDiff, Nat.reduceBEq, reduceCtorEq])
  rintro _ _
  clear hst hsa
  have rTi := runs_44 p ha2 ht2
  have rTs := runs_48 p ha2 ht2
  have rHi := runs_45 p ha2 ht2
  have rHs := runs_49 p ha2 ht2
  generalize takeF p = g at rTi rTs
  generalize hearF p = h at rHi rHs
  obtain ⟨g1, g2, g3⟩ := g
  obtain ⟨h1, h2, h3⟩ := h
  simp only at rTi rTs rHi rHs
  have bg : List.take g1.asks.length (g1.asks.map opRow) = g1.asks.map opRow := List.take_of_length_le (by simp)
  have bg2 : List.take g1.tells.length (g1.tells.map tellRow) = g1.tells.map tellRow := List.take_of_length_le (by simp)
  have bh : List.take h1.asks.length (h1.asks.map opRow) = h1.asks.map opRow := List.take_of_length_le (by simp)
  have bh2 : List.take h1.tells.length (h1.tells.map tellRow) = h1.tells.map tellRow := List.take_of_length_le (by simp)
  (refine vw_go rfl ?_; simp only [go_sem, setCells, setIn, Int.reduceToNat, Int.reduceEq, Int.reduceLT, Int.reduceLE, Int.reduceNeg, Int.reduceSub, Int.reduceAdd, ge_iff_le, gt_iff_lt, ↓reduceIte, Nat.reduceEqDiff, Nat.reduceAdd, Nat.reduceMul, Nat.reduceLT, Nat.reduceLeDiff, Nat.reduceBEq, reduceCtorEq])
  (refine ⟨_, _, call_rx [0] Try.func46 (rA) rfl rfl rfl rfl rfl rfl rfl (by simp [lendAll, lendC, seek, fresh, nav, rcells, RT.cells, VV.cells, tabE_cons, tabS_cons, ev, take_map_len, opRow_r1, opRow_clean, tellRow_r1, tellRow_clean, bRow_r1, bRow_clean]) rfl (by simp [rcells, RT.cells, CT.clean, T.clean, opRow_r1, opRow_clean, tellRow_r1, tellRow_clean, bRow_r1, bRow_clean]) rfl rfl, ?_⟩)
  simp only [runH, runX, bt, bt2, go_sem, setCells, setIn, Int.reduceToNat, Int.reduceEq, Int.reduceLT, Int.reduceLE, Int.reduceNeg, Int.reduceSub, Int.reduceAdd, ge_iff_le, gt_iff_lt, ↓reduceIte, Nat.reduceEqDiff, Nat.reduceAdd, Nat.reduceMul, Nat.reduceLT, Nat.reduceLeDiff, Nat.reduceBEq, reduceCtorEq]
  (refine vw_go rfl ?_; simp only [go_sem, setCells, setIn, Int.reduceToNat, Int.reduceEq, Int.reduceLT, Int.reduceLE, Int.reduceNeg, Int.reduceSub, Int.reduceAdd, ge_iff_le, gt_iff_lt, ↓reduceIte, Nat.reduceEqDiff, Nat.reduceAdd, Nat.reduceMul, Nat.reduceLT, Nat.reduceLeDiff, Nat.reduceBEq, reduceCtorEq])
  (refine ⟨_, _, call_rx [0] Try.func47 (rH) rfl rfl rfl rfl rfl rfl rfl (by simp [lendAll, lendC, seek, fresh, nav, rcells, RT.cells, VV.cells, tabE_cons, tabS_cons, ev, take_map_len, opRow_r1, opRow_clean, tellRow_r1, tellRow_clean, bRow_r1, bRow_clean]) rfl (by simp [rcells, RT.cells, CT.clean, T.clean, opRow_r1, opRow_clean, tellRow_r1, tellRow_clean, bRow_r1, bRow_clean]) rfl rfl, ?_⟩)
  simp only [runH, runX, bt, bt2, go_sem, setCells, setIn, Int.reduceToNat, Int.reduceEq, Int.reduceLT, Int.reduceLE, Int.reduceNeg, Int.reduceSub, Int.reduceAdd, ge_iff_le, gt_iff_lt, ↓reduceIte, Nat.reduceEqDiff, Nat.reduceAdd, Nat.reduceMul, Nat.reduceLT, Nat.reduceLeDiff, Nat.reduceBEq, reduceCtorEq]
  (refine vw_go rfl ?_; simp only [bt, bt2, go_sem, setCells, setIn, Int.reduceToNat, Int.reduceEq, Int.reduceLT, Int.reduceLE, Int.reduceNeg, Int.reduceSub, Int.reduceAdd, ge_iff_le, gt_iff_lt, ↓reduceIte, Nat.reduceEqDiff, Nat.reduceAdd, Nat.reduceMul, Nat.reduceLT, Nat.reduceLeDiff, Nat.reduceBEq, reduceCtorEq])
  (refine ⟨_, _, call_rx [0] Try.func44 (rTi) rfl rfl rfl rfl rfl rfl rfl (by simp [lendAll, lendC, seek, fresh, nav, rcells, RT.cells, VV.cells, tabE_cons, tabS_cons, ev, take_map_len, opRow_r1, opRow_clean, tellRow_r1, tellRow_clean, bRow_r1, bRow_clean, bt, bt2]) rfl (by simp [rcells, RT.cells, CT.clean, T.clean, opRow_r1, opRow_clean, tellRow_r1, tellRow_clean, bRow_r1, bRow_clean, bt, bt2]) rfl rfl, ?_⟩)
  simp only [runH, runX, bg, bg2, go_sem, setCells, setIn, Int.reduceToNat, Int.reduceEq, Int.reduceLT, Int.reduceLE, Int.reduceNeg, Int.reduceSub, Int.reduceAdd, ge_iff_le, gt_iff_lt, ↓reduceIte, Nat.reduceEqDiff, Nat.reduceAdd, Nat.reduceMul, Nat.reduceLT, Nat.reduceLeDiff, Nat.reduceBEq, reduceCtorEq]
  (refine vw_go rfl ?_; simp only [bt, bt2, go_sem, setCells, setIn, Int.reduceToNat, Int.reduceEq, Int.reduceLT, Int.reduceLE, Int.reduceNeg, Int.reduceSub, Int.reduceAdd, ge_iff_le, gt_iff_lt, ↓reduceIte, Nat.reduceEqDiff, Nat.reduceAdd, Nat.reduceMul, Nat.reduceLT, Nat.reduceLeDiff, Nat.reduceBEq, reduceCtorEq])
  (refine ⟨_, _, call_rx [0] Try.func48 (rTs) rfl rfl rfl rfl rfl rfl rfl (by simp [lendAll, lendC, seek, fresh, nav, rcells, RT.cells, VV.cells, tabE_cons, tabS_cons, ev, take_map_len, opRow_r1, opRow_clean, tellRow_r1, tellRow_clean, bRow_r1, bRow_clean, bt, bt2]) rfl (by simp [rcells, RT.cells, CT.clean, T.clean, opRow_r1, opRow_clean, tellRow_r1, tellRow_clean, bRow_r1, bRow_clean, bt, bt2]) rfl rfl, ?_⟩)
  simp only [runH, runX, bg, bg2, go_sem, setCells, setIn, Int.reduceToNat, Int.reduceEq, Int.reduceLT, Int.reduceLE, Int.reduceNeg, Int.reduceSub, Int.reduceAdd, ge_iff_le, gt_iff_lt, ↓reduceIte, Nat.reduceEqDiff, Nat.reduceAdd, Nat.reduceMul, Nat.reduceLT, Nat.reduceLeDiff, Nat.reduceBEq, reduceCtorEq]
  (refine vw_go rfl ?_; simp only [bt, bt2, go_sem, setCells, setIn, Int.reduceToNat, Int.reduceEq, Int.reduceLT, Int.reduceLE, Int.reduceNeg, Int.reduceSub, Int.reduceAdd, ge_iff_le, gt_iff_lt, ↓reduceIte, Nat.reduceEqDiff, Nat.reduceAdd, Nat.reduceMul, Nat.reduceLT, Nat.reduceLeDiff, Nat.reduceBEq, reduceCtorEq])
  (refine ⟨_, _, call_rx [0] Try.func45 (rHi) rfl rfl rfl rfl rfl rfl rfl (by simp [lendAll, lendC, seek, fresh, nav, rcells, RT.cells, VV.cells, tabE_cons, tabS_cons, ev, take_map_len, opRow_r1, opRow_clean, tellRow_r1, tellRow_clean, bRow_r1, bRow_clean, bt, bt2]) rfl (by simp [rcells, RT.cells, CT.clean, T.clean, opRow_r1, opRow_clean, tellRow_r1, tellRow_clean, bRow_r1, bRow_clean, bt, bt2]) rfl rfl, ?_⟩)
  simp only [runH, runX, bh, bh2, go_sem, setCells, setIn, Int.reduceToNat, Int.reduceEq, Int.reduceLT, Int.reduceLE, Int.reduceNeg, Int.reduceSub, Int.reduceAdd, ge_iff_le, gt_iff_lt, ↓reduceIte, Nat.reduceEqDiff, Nat.reduceAdd, Nat.reduceMul, Nat.reduceLT, Nat.reduceLeDiff, Nat.reduceBEq, reduceCtorEq]
  (refine vw_go rfl ?_; simp only [bt, bt2, go_sem, setCells, setIn, Int.reduceToNat, Int.reduceEq, Int.reduceLT, Int.reduceLE, Int.reduceNeg, Int.reduceSub, Int.reduceAdd, ge_iff_le, gt_iff_lt, ↓reduceIte, Nat.reduceEqDiff, Nat.reduceAdd, Nat.reduceMul, Nat.reduceLT, Nat.reduceLeDiff, Nat.reduceBEq, reduceCtorEq])
  (refine ⟨_, _, call_rx [0] Try.func49 (rHs) rfl rfl rfl rfl rfl rfl rfl (by simp [lendAll, lendC, seek, fresh, nav, rcells, RT.cells, VV.cells, tabE_cons, tabS_cons, ev, take_map_len, opRow_r1, opRow_clean, tellRow_r1, tellRow_clean, bRow_r1, bRow_clean, bt, bt2]) rfl (by simp [rcells, RT.cells, CT.clean, T.clean, opRow_r1, opRow_clean, tellRow_r1, tellRow_clean, bRow_r1, bRow_clean, bt, bt2]) rfl rfl, ?_⟩)
  simp only [runH, runX, bh, bh2, go_sem, setCells, setIn, Int.reduceToNat, Int.reduceEq, Int.reduceLT, Int.reduceLE, Int.reduceNeg, Int.reduceSub, Int.reduceAdd, ge_iff_le, gt_iff_lt, ↓reduceIte, Nat.reduceEqDiff, Nat.reduceAdd, Nat.reduceMul, Nat.reduceLT, Nat.reduceLeDiff, Nat.reduceBEq, reduceCtorEq]
  cases ok
  case true =>
    (refine vw_go rfl ?_; simp only [BEq.rfl, go_sem, setCells, setIn, Int.reduceToNat, Int.reduceEq, Int.reduceLT, Int.reduceLE, Int.reduceNeg, Int.reduceSub, Int.reduceAdd, ge_iff_le, gt_iff_lt, ↓reduceIte, Nat.reduceEqDiff, Nat.reduceAdd, Nat.reduceMul, Nat.reduceLT, Nat.reduceLeDiff, Nat.reduceBEq, reduceCtorEq])
    exact vw_ret (e_ret (ret_of rfl rfl (by simp [RB]) rfl rfl))
  by_cases h3 : 3 ≤ (p.asks.length : Int)
  · (refine vw_go rfl ?_; simp only [BEq.rfl, h3, bt, bt2, go_sem, setCells, setIn, Int.reduceToNat, Int.reduceEq, Int.reduceLT, Int.reduceLE, Int.reduceNeg, Int.reduceSub, Int.reduceAdd, ge_iff_le, gt_iff_lt, ↓reduceIte, Nat.reduceEqDiff, Nat.reduceAdd, Nat.reduceMul, Nat.reduceLT, Nat.reduceLeDiff, Nat.reduceBEq, reduceCtorEq])
    exact vw_ret (e_ret (ret_of rfl rfl (by simp [RB]) rfl rfl))
  have hpo : portOk p = false := by
    rw [decide_eq_false h3] at hE
    simpa using hE
  (refine vw_go rfl ?_; simp only [BEq.rfl, h3, bt, bt2, go_sem, setCells, setIn, Int.reduceToNat, Int.reduceEq, Int.reduceLT, Int.reduceLE, Int.reduceNeg, Int.reduceSub, Int.reduceAdd, ge_iff_le, gt_iff_lt, ↓reduceIte, Nat.reduceEqDiff, Nat.reduceAdd, Nat.reduceMul, Nat.reduceLT, Nat.reduceLeDiff, Nat.reduceBEq, reduceCtorEq])
  (refine ⟨_, _, call_rx [0] Try.func42 (runs_42 p) rfl rfl rfl rfl rfl rfl rfl (by simp [lendAll, lendC, seek, fresh, nav, rcells, RT.cells, VV.cells, tabE_cons, tabS_cons, ev, take_map_len, opRow_r1, opRow_clean, tellRow_r1, tellRow_clean, bRow_r1, bRow_clean, bt, bt2]) rfl (by simp [rcells, RT.cells, CT.clean, T.clean, opRow_r1, opRow_clean, tellRow_r1, tellRow_clean, bRow_r1, bRow_clean, bt, bt2]) rfl rfl, ?_⟩)
  rw [hpo]
  simp only [runH, runX, go_sem, setCells, setIn, Int.reduceToNat, Int.reduceEq, Int.reduceLT, Int.reduceLE, Int.reduceNeg, Int.reduceSub, Int.reduceAdd, ge_iff_le, gt_iff_lt, ↓reduceIte, Nat.reduceEqDiff, Nat.reduceAdd, Nat.reduceMul, Nat.reduceLT, Nat.reduceLeDiff, Nat.reduceBEq, reduceCtorEq]
  exact vw_ret (e_ret (ret_of rfl rfl (by simp [RB]) rfl rfl))
end Go.Proofs.Ytppbonbghmdhhaa
