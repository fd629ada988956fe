/- A number between two numbers. -/
import Derived.Test.YtppbonbghmdhhaaPFBase
namespace Go.Proofs.Ytppbonbghmdhhaa
open Go.VM
set_option maxRecDepth 100000
set_option linter.unusedSimpArgs false
set_option linter.unusedVariables false
attribute [local congr] vw_congr runV_congr runH_congr runW_congr runX_congr

theorem runs_89 (x lo hi : Int) : Runs Try.prog 89 [.one (.v (.int .i64 x)), .one (.v (.int .i64 lo)), .one (.v (.int .i64 hi))] [.one (.v (.bool (inB x lo hi)))] [] := by
  refine runs_tab (tab := [(0, .c (.int .i64 x)), (1, .c (.int .i64 lo)), (2, .c (.int .i64 hi))]) (rts := []) (n := 15) (k := 3) Try.func89 rfl rfl (by simp) rfl (fun t => ?_) rfl ?_
  · rcases t with _ | _ | _ | t <;> rfl
  (refine vw_go rfl ?_; simp only [go_sem, setCells, setIn])
  by_cases h : lo ≤ x
  · (refine vw_go rfl ?_; simp only [h, go_sem, setCells, setIn])
    rw [show inB x lo hi = decide (x ≤ hi) from by simp [inB, h]]
    exact vw_ret (e_ret (ret_of rfl rfl (by simp [RB]) rfl rfl))
  · (refine vw_go rfl ?_; simp only [h, go_sem, setCells, setIn])
    rw [show inB x lo hi = false from by simp [inB, h]]
    exact vw_ret (e_ret (ret_of rfl rfl (by simp [RB]) rfl rfl))
theorem runs_92 (x lo hi : Int) : Runs Try.prog 92 [.one (.v (.int .i64 x)), .one (.v (.int .i64 lo)), .one (.v (.int .i64 hi))] [.one (.v (.bool (inB x lo hi)))] [] := by
  refine runs_tab (tab := [(0, .c (.int .i64 x)), (1, .c (.int .i64 lo)), (2, .c (.int .i64 hi))]) (rts := []) (n := 15) (k := 3) Try.func92 rfl rfl (by simp) rfl (fun t => ?_) rfl ?_
  · rcases t with _ | _ | _ | t <;> rfl
  (refine vw_go rfl ?_; simp only [go_sem, setCells, setIn])
  by_cases h : lo ≤ x
  · (refine vw_go rfl ?_; simp only [h, go_sem, setCells, setIn])
    rw [show inB x lo hi = decide (x ≤ hi) from by simp [inB, h]]
    exact vw_ret (e_ret (ret_of rfl rfl (by simp [RB]) rfl rfl))
  · (refine vw_go rfl ?_; simp only [h, go_sem, setCells, setIn])
    rw [show inB x lo hi = false from by simp [inB, h]]
    exact vw_ret (e_ret (ret_of rfl rfl (by simp [RB]) rfl rfl))
end Go.Proofs.Ytppbonbghmdhhaa
