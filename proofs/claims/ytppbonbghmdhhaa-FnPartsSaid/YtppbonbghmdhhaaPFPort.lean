/- Ports: size, copy, comparing, PortOk. -/
import Derived.Test.YtppbonbghmdhhaaPFOp
import Derived.Test.YtppbonbghmdhhaaPFTell
namespace Go.Proofs.Ytppbonbghmdhhaa
open Go.VM
set_option maxRecDepth 100000
set_option linter.unusedSimpArgs false
set_option linter.unusedVariables false
attribute [local congr] vw_congr runV_congr runH_congr runW_congr runX_congr

structure PortV where
  asks : List OpV
  tells : List TellV
  deriving DecidableEq
def PortV.ok (x : PortV) : Prop := (x.asks.length < 2 ^ 63 ∧ ∀ y ∈ x.asks, y.ok) ∧ (x.tells.length < 2 ^ 63 ∧ ∀ y ∈ x.tells, y.ok)

def portOk (x : PortV) : Bool := decide ((x.asks.length : Int) ≤ 3) && decide ((x.tells.length : Int) ≤ 3)

theorem runs_43 (x : PortV) :
    Runs Try.prog 43 [.agg [.v (.list false 4 (x.asks.map opRow)), .v (.list false 2 (x.tells.map tellRow))]] [.one (.v (.bool (portOk x)))] [] := by
  refine runs_tab (tab := [(0, .agg [.c (.list false 4 (x.asks.map opRow)), .c (.list false 2 (x.tells.map tellRow))])]) (rts := []) (n := 13) (k := 2) Try.func43 rfl rfl (by simp) rfl (fun t => ?_) rfl ?_
  · cases t <;> rfl
  (refine vw_go rfl ?_; simp only [go_sem, setCells, setIn, Int.reduceToNat, Int.reduceEq, Int.reduceLT, Int.reduceLE, Int.reduceNeg, Int.reduceSub, Int.reduceAdd, ge_iff_le, gt_iff_lt, ↓reduceIte, Nat.reduceEqDiff, Nat.reduceAdd, Nat.reduceMul, Nat.reduceLT, Nat.reduceLeDiff, Nat.reduceBEq, reduceCtorEq])
  by_cases h : (x.asks.length : Int) ≤ 3
  · (refine vw_go rfl ?_; simp only [h, go_sem, setCells, setIn, Int.reduceToNat, Int.reduceEq, Int.reduceLT, Int.reduceLE, Int.reduceNeg, Int.reduceSub, Int.reduceAdd, ge_iff_le, gt_iff_lt, ↓reduceIte, Nat.reduceEqDiff, Nat.reduceAdd, Nat.reduceMul, Nat.reduceLT, Nat.reduceLeDiff, Nat.reduceBEq, reduceCtorEq])
    rw [show portOk x = decide ((x.tells.length : Int) ≤ 3) from by simp [portOk, h]]
    exact vw_ret (e_ret (ret_of rfl rfl (by simp [RB]) rfl rfl))
  · (refine vw_go rfl ?_; simp only [h, go_sem, setCells, setIn, Int.reduceToNat, Int.reduceEq, Int.reduceLT, Int.reduceLE, Int.reduceNeg, Int.reduceSub, Int.reduceAdd, ge_iff_le, gt_iff_lt, ↓reduceIte, Nat.reduceEqDiff, Nat.reduceAdd, Nat.reduceMul, Nat.reduceLT, Nat.reduceLeDiff, Nat.reduceBEq, reduceCtorEq])
    rw [show portOk x = false from by simp [portOk, h]]
    exact vw_ret (e_ret (ret_of rfl rfl (by simp [RB]) rfl rfl))

theorem runs_42 (x : PortV) :
    Runs Try.prog 42 [.agg [.v (.list false 4 (x.asks.map opRow)), .v (.list false 2 (x.tells.map tellRow))]] [.one (.v (.bool (portOk x)))] [] := by
  refine runs_tab (tab := [(0, .agg [.c (.list false 4 (x.asks.map opRow)), .c (.list false 2 (x.tells.map tellRow))])]) (rts := []) (n := 13) (k := 2) Try.func42 rfl rfl (by simp) rfl (fun t => ?_) rfl ?_
  · cases t <;> rfl
  (refine vw_go rfl ?_; simp only [go_sem, setCells, setIn, Int.reduceToNat, Int.reduceEq, Int.reduceLT, Int.reduceLE, Int.reduceNeg, Int.reduceSub, Int.reduceAdd, ge_iff_le, gt_iff_lt, ↓reduceIte, Nat.reduceEqDiff, Nat.reduceAdd, Nat.reduceMul, Nat.reduceLT, Nat.reduceLeDiff, Nat.reduceBEq, reduceCtorEq])
  by_cases h : (x.asks.length : Int) ≤ 3
  · (refine vw_go rfl ?_; simp only [h, go_sem, setCells, setIn, Int.reduceToNat, Int.reduceEq, Int.reduceLT, Int.reduceLE, Int.reduceNeg, Int.reduceSub, Int.reduceAdd, ge_iff_le, gt_iff_lt, ↓reduceIte, Nat.reduceEqDiff, Nat.reduceAdd, Nat.reduceMul, Nat.reduceLT, Nat.reduceLeDiff, Nat.reduceBEq, reduceCtorEq])
    rw [show portOk x = decide ((x.tells.length : Int) ≤ 3) from by simp [portOk, h]]
    exact vw_ret (e_ret (ret_of rfl rfl (by simp [RB]) rfl rfl))
  · (refine vw_go rfl ?_; simp only [h, go_sem, setCells, setIn, Int.reduceToNat, Int.reduceEq, Int.reduceLT, Int.reduceLE, Int.reduceNeg, Int.reduceSub, Int.reduceAdd, ge_iff_le, gt_iff_lt, ↓reduceIte, Nat.reduceEqDiff, Nat.reduceAdd, Nat.reduceMul, Nat.reduceLT, Nat.reduceLeDiff, Nat.reduceBEq, reduceCtorEq])
    rw [show portOk x = false from by simp [portOk, h]]
    exact vw_ret (e_ret (ret_of rfl rfl (by simp [RB]) rfl rfl))

end Go.Proofs.Ytppbonbghmdhhaa
