/- Parts: size, copy, comparing, PartOk, and its law. -/
import Derived.Test.YtppbonbghmdhhaaPFCode2
import Derived.Test.YtppbonbghmdhhaaPFTell
namespace Go.Proofs.Ytppbonbghmdhhaa
open Go.VM
set_option maxRecDepth 100000
set_option linter.unusedSimpArgs false
set_option linter.unusedVariables false
attribute [local congr] vw_congr runV_congr runH_congr runW_congr runX_congr

structure PartV where
  code : List InsV
  at_ : Int
  seen : List TellV
  over : Bool
  deriving DecidableEq
def PartV.ok (x : PartV) : Prop := (x.code.length < 2 ^ 63 ∧ ∀ y ∈ x.code, y.ok) ∧ (x.seen.length < 2 ^ 63 ∧ ∀ y ∈ x.seen, y.ok)

def codeOk (l : List InsV) : Bool := inB l.length 1 20 && !l.any (fun x => !insOk x l.length)
def partOk (x : PartV) : Bool := codeOk x.code && (inB x.at_ 0 ((x.code.length : Int) - 1) && decide ((x.seen.length : Int) ≤ 300))

theorem runs_59 (x : PartV) (hx : x.ok) : Runs Try.prog 59 [.agg [.v (.list false 6 (x.code.map insRow)), .v (.int .i64 x.at_), .v (.list false 2 (x.seen.map tellRow)), .v (.bool x.over)]] [.one (.v (.bool (partOk x)))] [] := by
  refine runs_tab (tab := [(0, .agg [.c (.list false 6 (x.code.map insRow)), .c (.int .i64 x.at_), .c (.list false 2 (x.seen.map tellRow)), .c (.bool x.over)])]) (rts := []) (n := 21) (k := 4) Try.func59 rfl rfl (by simp) rfl (fun t => ?_) rfl ?_
  · cases t <;> rfl
  have w3 : IntKind.wrap .i64 ((x.code.length:Int) - 1) = (x.code.length:Int) - 1 := wrap_i64 (by have := hx.1.1; omega) (by have := hx.1.1; omega)
  (refine vw_go rfl ?_; simp only [go_sem, setCells, setIn, Int.reduceToNat, Int.reduceEq, Int.reduceLT, Int.reduceLE, Int.reduceNeg, Int.reduceSub, Int.reduceAdd, ge_iff_le, gt_iff_lt, ↓reduceIte, Nat.reduceEqDiff, Nat.reduceAdd, Nat.reduceMul, Nat.reduceLT, Nat.reduceLeDiff, Nat.reduceBEq, reduceCtorEq])
  (refine vw_go rfl ?_; simp only [go_sem, setCells, setIn, Int.reduceToNat, Int.reduceEq, Int.reduceLT, Int.reduceLE, Int.reduceNeg, Int.reduceSub, Int.reduceAdd, ge_iff_le, gt_iff_lt, ↓reduceIte, Nat.reduceEqDiff, Nat.reduceAdd, Nat.reduceMul, Nat.reduceLT, Nat.reduceLeDiff, Nat.reduceBEq, reduceCtorEq])
  (refine ⟨_, _, call_rx [0] Try.func57 (runs_57' x.code hx.1.1) rfl rfl rfl rfl rfl rfl rfl (by simp [lendAll, lendC, seek, fresh, nav, rcells, RT.cells, VV.cells, tabE_cons, tabS_cons, ev, take_map_len, insRow_r1, insRow_clean, tellRow_r1, tellRow_clean]) rfl (by simp [rcells, RT.cells, CT.clean, T.clean, insRow_r1, insRow_clean, tellRow_r1, tellRow_clean]) rfl rfl, ?_⟩)
  cases hc : (inB x.code.length 1 20 && !x.code.any (fun y => !insOk y x.code.length))
  · simp only [runH, runX, hc, go_sem, setCells, setIn, Int.reduceToNat, Int.reduceEq, Int.reduceLT, Int.reduceLE, Int.reduceNeg, Int.reduceSub, Int.reduceAdd, ge_iff_le, gt_iff_lt, ↓reduceIte, Nat.reduceEqDiff, Nat.reduceAdd, Nat.reduceMul, Nat.reduceLT, Nat.reduceLeDiff, Nat.reduceBEq, reduceCtorEq]
    rw [show partOk x = false from by simp only [partOk, codeOk, hc, Bool.false_and]]
    exact vw_ret (e_ret (ret_of rfl rfl (by simp [RB]) rfl rfl))
  · simp only [runH, runX, hc, w3, go_sem, setCells, setIn, Int.reduceToNat, Int.reduceEq, Int.reduceLT, Int.reduceLE, Int.reduceNeg, Int.reduceSub, Int.reduceAdd, ge_iff_le, gt_iff_lt, ↓reduceIte, Nat.reduceEqDiff, Nat.reduceAdd, Nat.reduceMul, Nat.reduceLT, Nat.reduceLeDiff, Nat.reduceBEq, reduceCtorEq]
    (refine ⟨_, _, call_rd [0, 0, 0] Try.func89 (runs_89 x.at_ 0 ((x.code.length:Int) - 1)) rfl rfl rfl rfl rfl rfl rfl rfl rfl rfl rfl rfl rfl, ?_⟩)
    cases hp : inB x.at_ 0 ((x.code.length:Int) - 1)
    · simp only [runH, runX, hp, go_sem, setCells, setIn, Int.reduceToNat, Int.reduceEq, Int.reduceLT, Int.reduceLE, Int.reduceNeg, Int.reduceSub, Int.reduceAdd, ge_iff_le, gt_iff_lt, ↓reduceIte, Nat.reduceEqDiff, Nat.reduceAdd, Nat.reduceMul, Nat.reduceLT, Nat.reduceLeDiff, Nat.reduceBEq, reduceCtorEq]
      rw [show partOk x = false from by simp only [partOk, codeOk, hc, hp, Bool.false_and, Bool.and_false]]
      exact vw_ret (e_ret (ret_of rfl rfl (by simp [RB]) rfl rfl))
    · simp only [runH, runX, hp, go_sem, setCells, setIn, Int.reduceToNat, Int.reduceEq, Int.reduceLT, Int.reduceLE, Int.reduceNeg, Int.reduceSub, Int.reduceAdd, ge_iff_le, gt_iff_lt, ↓reduceIte, Nat.reduceEqDiff, Nat.reduceAdd, Nat.reduceMul, Nat.reduceLT, Nat.reduceLeDiff, Nat.reduceBEq, reduceCtorEq]
      rw [show partOk x = decide ((x.seen.length : Int) ≤ 300) from by simp only [partOk, codeOk, hc, hp, Bool.true_and]]
      exact vw_ret (e_ret (ret_of rfl rfl (by simp [RB]) rfl rfl))

theorem runs_58 (x : PartV) (hx : x.ok) : Runs Try.prog 58 [.agg [.v (.list false 6 (x.code.map insRow)), .v (.int .i64 x.at_), .v (.list false 2 (x.seen.map tellRow)), .v (.bool x.over)]] [.one (.v (.bool (partOk x)))] [] := by
  refine runs_tab (tab := [(0, .agg [.c (.list false 6 (x.code.map insRow)), .c (.int .i64 x.at_), .c (.list false 2 (x.seen.map tellRow)), .c (.bool x.over)])]) (rts := []) (n := 21) (k := 4) Try.func58 rfl rfl (by simp) rfl (fun t => ?_) rfl ?_
  · cases t <;> rfl
  have w3 : IntKind.wrap .i64 ((x.code.length:Int) - 1) = (x.code.length:Int) - 1 := wrap_i64 (by have := hx.1.1; omega) (by have := hx.1.1; omega)
  (refine vw_go rfl ?_; simp only [go_sem, setCells, setIn, Int.reduceToNat, Int.reduceEq, Int.reduceLT, Int.reduceLE, Int.reduceNeg, Int.reduceSub, Int.reduceAdd, ge_iff_le, gt_iff_lt, ↓reduceIte, Nat.reduceEqDiff, Nat.reduceAdd, Nat.reduceMul, Nat.reduceLT, Nat.reduceLeDiff, Nat.reduceBEq, reduceCtorEq])
  (refine vw_go rfl ?_; simp only [go_sem, setCells, setIn, Int.reduceToNat, Int.reduceEq, Int.reduceLT, Int.reduceLE, Int.reduceNeg, Int.reduceSub, Int.reduceAdd, ge_iff_le, gt_iff_lt, ↓reduceIte, Nat.reduceEqDiff, Nat.reduceAdd, Nat.reduceMul, Nat.reduceLT, Nat.reduceLeDiff, Nat.reduceBEq, reduceCtorEq])
  (refine ⟨_, _, call_rx [0] Try.func56 (runs_56 x.code hx.1.1) rfl rfl rfl rfl rfl rfl rfl (by simp [lendAll, lendC, seek, fresh, nav, rcells, RT.cells, VV.cells, tabE_cons, tabS_cons, ev, take_map_len, insRow_r1, insRow_clean, tellRow_r1, tellRow_clean]) rfl (by simp [rcells, RT.cells, CT.clean, T.clean, insRow_r1, insRow_clean, tellRow_r1, tellRow_clean]) rfl rfl, ?_⟩)
  cases hc : (inB x.code.length 1 20 && !x.code.any (fun y => !insOk y x.code.length))
  · simp only [runH, runX, hc, go_sem, setCells, setIn, Int.reduceToNat, Int.reduceEq, Int.reduceLT, Int.reduceLE, Int.reduceNeg, Int.reduceSub, Int.reduceAdd, ge_iff_le, gt_iff_lt, ↓reduceIte, Nat.reduceEqDiff, Nat.reduceAdd, Nat.reduceMul, Nat.reduceLT, Nat.reduceLeDiff, Nat.reduceBEq, reduceCtorEq]
    rw [show partOk x = false from by simp only [partOk, codeOk, hc, Bool.false_and]]
    exact vw_ret (e_ret (ret_of rfl rfl (by simp [RB]) rfl rfl))
  · simp only [runH, runX, hc, w3, go_sem, setCells, setIn, Int.reduceToNat, Int.reduceEq, Int.reduceLT, Int.reduceLE, Int.reduceNeg, Int.reduceSub, Int.reduceAdd, ge_iff_le, gt_iff_lt, ↓reduceIte, Nat.reduceEqDiff, Nat.reduceAdd, Nat.reduceMul, Nat.reduceLT, Nat.reduceLeDiff, Nat.reduceBEq, reduceCtorEq]
    (refine ⟨_, _, call_rd [0, 0, 0] Try.func92 (runs_92 x.at_ 0 ((x.code.length:Int) - 1)) rfl rfl rfl rfl rfl rfl rfl rfl rfl rfl rfl rfl rfl, ?_⟩)
    cases hp : inB x.at_ 0 ((x.code.length:Int) - 1)
    · simp only [runH, runX, hp, go_sem, setCells, setIn, Int.reduceToNat, Int.reduceEq, Int.reduceLT, Int.reduceLE, Int.reduceNeg, Int.reduceSub, Int.reduceAdd, ge_iff_le, gt_iff_lt, ↓reduceIte, Nat.reduceEqDiff, Nat.reduceAdd, Nat.reduceMul, Nat.reduceLT, Nat.reduceLeDiff, Nat.reduceBEq, reduceCtorEq]
      rw [show partOk x = false from by simp only [partOk, codeOk, hc, hp, Bool.false_and, Bool.and_false]]
      exact vw_ret (e_ret (ret_of rfl rfl (by simp [RB]) rfl rfl))
    · simp only [runH, runX, hp, go_sem, setCells, setIn, Int.reduceToNat, Int.reduceEq, Int.reduceLT, Int.reduceLE, Int.reduceNeg, Int.reduceSub, Int.reduceAdd, ge_iff_le, gt_iff_lt, ↓reduceIte, Nat.reduceEqDiff, Nat.reduceAdd, Nat.reduceMul, Nat.reduceLT, Nat.reduceLeDiff, Nat.reduceBEq, reduceCtorEq]
      rw [show partOk x = decide ((x.seen.length : Int) ≤ 300) from by simp only [partOk, codeOk, hc, hp, Bool.true_and]]
      exact vw_ret (e_ret (ret_of rfl rfl (by simp [RB]) rfl rfl))

end Go.Proofs.Ytppbonbghmdhhaa
