/- Marks of Ins values: a slice marked, marks read again, a slice cloned. Printed by a program (mfun.py). -/
import Derived.Test.YtppbonbghmdhhaaPFMark
import Derived.Test.YtppbonbghmdhhaaPFIns
namespace Go.Proofs.Ytppbonbghmdhhaa
open Go.VM
set_option maxRecDepth 100000
set_option linter.unusedSimpArgs false
set_option linter.unusedVariables false
attribute [local congr] vw_congr runV_congr runH_congr runW_congr runX_congr

theorem insRow_noOwn (l : List InsV) : ((l.map insRow).all fun r => r.all plainT) = true := by
  simp [insRow, plainT]

theorem runs_154 (l : List InsV) (hl : l.length ≤ 2 ^ 20) :
    Runs Try.prog 154 [.one (.v (.list false 6 (l.map insRow)))] [.one (.v (.list true 6 (l.map insRow)))] [] := by
  refine runs_tab (tab := [(0, .c (.list false 6 (l.map insRow)))]) (rts := []) (n := 8) (k := 1) Try.func154 rfl rfl (by simp) rfl (fun t => ?_) rfl ?_
  · rcases t with _ | t <;> rfl
  (refine vw_go rfl ?_; simp only [go_sem, setCells, setIn, Int.reduceToNat, Int.reduceEq, Int.reduceLT, Int.reduceLE, Int.reduceNeg, Int.reduceSub, Int.reduceAdd, ge_iff_le, gt_iff_lt, ↓reduceIte, Nat.reduceEqDiff, Nat.reduceAdd, Nat.reduceMul, Nat.reduceLT, Nat.reduceLeDiff, Nat.reduceBEq, reduceCtorEq])
  refine vw_seq ?_
  refine vw_nil rfl Try.underlying84 rfl rfl rfl ⟨_, rfl⟩ rfl rfl rfl (fun b hb => ?_)
  simp only [dstE_tab]
  refine vw_cond (t := b) rfl (fun h => ?_) (fun h => ?_)
  · (refine vw_go rfl ?_; simp only [go_sem, setCells, setIn, Int.reduceToNat, Int.reduceEq, Int.reduceLT, Int.reduceLE, Int.reduceNeg, Int.reduceSub, Int.reduceAdd, ge_iff_le, gt_iff_lt, ↓reduceIte, Nat.reduceEqDiff, Nat.reduceAdd, Nat.reduceMul, Nat.reduceLT, Nat.reduceLeDiff, Nat.reduceBEq, reduceCtorEq])
    have : l = [] := by
      cases l with
      | nil => rfl
      | cons x l => exact absurd (hb (by simp)) (by rw [h]; decide)
    subst this
    exact vw_ret (r_then (e_ret (ret_by rfl rfl (by simp [RB]) rfl (by simp only [takeCs, takeC, go_sem, setCells, setIn, Int.reduceToNat, Int.reduceEq, Int.reduceLT, Int.reduceLE, Int.reduceNeg, Int.reduceSub, Int.reduceAdd, ge_iff_le, gt_iff_lt, ↓reduceIte, Nat.reduceEqDiff, Nat.reduceAdd, Nat.reduceMul, Nat.reduceLT, Nat.reduceLeDiff, Nat.reduceBEq, reduceCtorEq]))))
  refine vw_skip (n_then ?_)
  have B : ¬ (l.length + 1) * (72 + 1) > bigRow := by simp only [bigRow]; omega
  (refine vw_go rfl ?_; simp only [List.replicate_zero, List.flatten_nil, List.range_zero, insRow_noOwn, B, gt_iff_lt, go_sem, setCells, setIn, Int.reduceToNat, Int.reduceEq, Int.reduceLT, Int.reduceLE, Int.reduceNeg, Int.reduceSub, Int.reduceAdd, ge_iff_le, gt_iff_lt, ↓reduceIte, Nat.reduceEqDiff, Nat.reduceAdd, Nat.reduceMul, Nat.reduceLT, Nat.reduceLeDiff, Nat.reduceBEq, reduceCtorEq])
  exact vw_ret (e_ret (ret_by rfl rfl (by simp [RB]) rfl (by simp only [takeCs, takeC, go_sem, setCells, setIn, Int.reduceToNat, Int.reduceEq, Int.reduceLT, Int.reduceLE, Int.reduceNeg, Int.reduceSub, Int.reduceAdd, ge_iff_le, gt_iff_lt, ↓reduceIte, Nat.reduceEqDiff, Nat.reduceAdd, Nat.reduceMul, Nat.reduceLT, Nat.reduceLeDiff, Nat.reduceBEq, reduceCtorEq])))
end Go.Proofs.Ytppbonbghmdhhaa
