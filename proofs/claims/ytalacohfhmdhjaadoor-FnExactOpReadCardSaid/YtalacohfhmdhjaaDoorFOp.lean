/- Op values: trees, and the walks of their size, their copy, their comparing (one; a slice). Printed by a program (tfun.py). -/
import Derived.Test.YtalacohfhmdhjaaDoorFBase
namespace Go.Proofs.YtalacohfhmdhjaaDoor
open Go.VM
set_option maxRecDepth 100000
set_option linter.unusedSimpArgs false
set_option linter.unusedVariables false
attribute [local congr] vw_congr runV_congr runH_congr runW_congr runX_congr

structure OpV where
  kind : Int
  path : ByteArray
  to : ByteArray
  data : ByteArray
  deriving DecidableEq
def opRow (x : OpV) : List T := [.int .i64 x.kind, .str x.path, .str x.to, .str x.data]
def zOp : List T := [.int .i64 0, .str ⟨#[]⟩, .str ⟨#[]⟩, .str ⟨#[]⟩]
def OpV.ok (x : OpV) : Prop := x.path.size < 2 ^ 63 ∧ x.to.size < 2 ^ 63 ∧ x.data.size < 2 ^ 63
theorem opRow_r1 (x : OpV) : (opRow x).map T.toRO = opRow x := by simp [opRow]
theorem opRow_ro (l : List OpV) : (l.map opRow).map (List.map T.toRO) = l.map opRow := ro_map opRow_r1 l
theorem opRow_clean (l : List OpV) : cleanRs (l.map opRow) = true := clean_map (fun x => rfl) l
def szOp (x : OpV) (left : Int) : Int := if left - x.path.size < 0 then -1 else if left - x.path.size - x.to.size < 0 then -1 else if left - x.path.size - x.to.size - x.data.size < 0 then -1 else left - x.path.size - x.to.size - x.data.size
theorem szOp_le (x : OpV) (left : Int) (h : 0 ≤ left) : szOp x left ≤ left := by
  unfold szOp; (repeat' split) <;> omega
def szLOp : List OpV → Int → Int
  | [], left => left
  | x :: l, left => if szOp x left < 0 then -1 else szLOp l (szOp x left)
def szSOp (l : List OpV) (left : Int) : Int := if left - l.length < 0 then -1 else szLOp l (left - l.length)
theorem szLOp_le : ∀ (l : List OpV) (left : Int), 0 ≤ left → szLOp l left ≤ left
  | [], left, h => Int.le_refl _
  | x :: l, left, h => by
    have h1 := szOp_le x left h
    simp only [szLOp]
    split
    · omega
    · have := szLOp_le l (szOp x left) (by omega)
      omega
theorem szSOp_le (l : List OpV) (left : Int) (h : 0 ≤ left) : szSOp l left ≤ left := by
  unfold szSOp
  split
  · omega
  · have := szLOp_le l (left - l.length) (by omega)
    omega
theorem szSOp_len {l : List OpV} {left : Int} (h : ¬ szSOp l left < 0) : (l.length : Int) ≤ left := by
  unfold szSOp at h
  split at h
  · exact absurd (by decide) h
  · omega
theorem runs_22 (x y : OpV) : Runs Tryd.prog 22 [.agg [.v (.int .i64 x.kind), .v (.str x.path), .v (.str x.to), .v (.str x.data)], .agg [.v (.int .i64 y.kind), .v (.str y.path), .v (.str y.to), .v (.str y.data)]] [.one (.v (.bool (decide (x = y))))] [] := by
  refine runs_tab (tab := [(0, .agg [.c (.int .i64 x.kind), .c (.str x.path), .c (.str x.to), .c (.str x.data)]), (1, .agg [.c (.int .i64 y.kind), .c (.str y.path), .c (.str y.to), .c (.str y.data)])]) (rts := []) (n := 25) (k := 8) Tryd.func22 rfl rfl (by simp) rfl (fun t => ?_) rfl ?_
  · rcases t with _ | _ | t <;> rfl
  (refine vw_go rfl ?_; simp only [go_sem, setCells, setIn, Int.reduceToNat, Int.reduceEq, Int.reduceLT, Int.reduceLE, Int.reduceNeg, Int.reduceSub, Int.reduceAdd, ge_iff_le, gt_iff_lt, ↓reduceIte, Nat.reduceEqDiff, Nat.reduceAdd, Nat.reduceMul, Nat.reduceLT, Nat.reduceLeDiff, Nat.reduceBEq, reduceCtorEq])
  refine vw_seq ?_
  (refine vw_go rfl ?_; simp only [go_sem, setCells, setIn, Int.reduceToNat, Int.reduceEq, Int.reduceLT, Int.reduceLE, Int.reduceNeg, Int.reduceSub, Int.reduceAdd, ge_iff_le, gt_iff_lt, ↓reduceIte, Nat.reduceEqDiff, Nat.reduceAdd, Nat.reduceMul, Nat.reduceLT, Nat.reduceLeDiff, Nat.reduceBEq, reduceCtorEq])
  refine vw_cond (t := !decide (x.kind = y.kind)) rfl (fun g0 => ?_) (fun g0 => ?_)
  · (refine vw_go rfl ?_; simp only [go_sem, setCells, setIn, Int.reduceToNat, Int.reduceEq, Int.reduceLT, Int.reduceLE, Int.reduceNeg, Int.reduceSub, Int.reduceAdd, ge_iff_le, gt_iff_lt, ↓reduceIte, Nat.reduceEqDiff, Nat.reduceAdd, Nat.reduceMul, Nat.reduceLT, Nat.reduceLeDiff, Nat.reduceBEq, reduceCtorEq])
    rw [show decide (x = y) = false from decide_eq_false (fun e => by subst e; simp at g0)]
    exact vw_ret (r_then (e_ret (ret_of rfl rfl (by simp [RB]) rfl rfl)))
  refine vw_skip (n_then ?_)
  refine vw_seq ?_
  (refine vw_go rfl ?_; simp only [go_sem, setCells, setIn, Int.reduceToNat, Int.reduceEq, Int.reduceLT, Int.reduceLE, Int.reduceNeg, Int.reduceSub, Int.reduceAdd, ge_iff_le, gt_iff_lt, ↓reduceIte, Nat.reduceEqDiff, Nat.reduceAdd, Nat.reduceMul, Nat.reduceLT, Nat.reduceLeDiff, Nat.reduceBEq, reduceCtorEq])
  refine vw_cond (t := !decide (x.path = y.path)) rfl (fun g1 => ?_) (fun g1 => ?_)
  · (refine vw_go rfl ?_; simp only [go_sem, setCells, setIn, Int.reduceToNat, Int.reduceEq, Int.reduceLT, Int.reduceLE, Int.reduceNeg, Int.reduceSub, Int.reduceAdd, ge_iff_le, gt_iff_lt, ↓reduceIte, Nat.reduceEqDiff, Nat.reduceAdd, Nat.reduceMul, Nat.reduceLT, Nat.reduceLeDiff, Nat.reduceBEq, reduceCtorEq])
    rw [show decide (x = y) = false from decide_eq_false (fun e => by subst e; simp at g1)]
    exact vw_ret (r_then (e_ret (ret_of rfl rfl (by simp [RB]) rfl rfl)))
  refine vw_skip (n_then ?_)
  refine vw_seq ?_
  (refine vw_go rfl ?_; simp only [go_sem, setCells, setIn, Int.reduceToNat, Int.reduceEq, Int.reduceLT, Int.reduceLE, Int.reduceNeg, Int.reduceSub, Int.reduceAdd, ge_iff_le, gt_iff_lt, ↓reduceIte, Nat.reduceEqDiff, Nat.reduceAdd, Nat.reduceMul, Nat.reduceLT, Nat.reduceLeDiff, Nat.reduceBEq, reduceCtorEq])
  refine vw_cond (t := !decide (x.to = y.to)) rfl (fun g2 => ?_) (fun g2 => ?_)
  · (refine vw_go rfl ?_; simp only [go_sem, setCells, setIn, Int.reduceToNat, Int.reduceEq, Int.reduceLT, Int.reduceLE, Int.reduceNeg, Int.reduceSub, Int.reduceAdd, ge_iff_le, gt_iff_lt, ↓reduceIte, Nat.reduceEqDiff, Nat.reduceAdd, Nat.reduceMul, Nat.reduceLT, Nat.reduceLeDiff, Nat.reduceBEq, reduceCtorEq])
    rw [show decide (x = y) = false from decide_eq_false (fun e => by subst e; simp at g2)]
    exact vw_ret (r_then (e_ret (ret_of rfl rfl (by simp [RB]) rfl rfl)))
  refine vw_skip (n_then ?_)
  refine vw_seq ?_
  (refine vw_go rfl ?_; simp only [go_sem, setCells, setIn, Int.reduceToNat, Int.reduceEq, Int.reduceLT, Int.reduceLE, Int.reduceNeg, Int.reduceSub, Int.reduceAdd, ge_iff_le, gt_iff_lt, ↓reduceIte, Nat.reduceEqDiff, Nat.reduceAdd, Nat.reduceMul, Nat.reduceLT, Nat.reduceLeDiff, Nat.reduceBEq, reduceCtorEq])
  refine vw_cond (t := !decide (x.data = y.data)) rfl (fun g3 => ?_) (fun g3 => ?_)
  · (refine vw_go rfl ?_; simp only [go_sem, setCells, setIn, Int.reduceToNat, Int.reduceEq, Int.reduceLT, Int.reduceLE, Int.reduceNeg, Int.reduceSub, Int.reduceAdd, ge_iff_le, gt_iff_lt, ↓reduceIte, Nat.reduceEqDiff, Nat.reduceAdd, Nat.reduceMul, Nat.reduceLT, Nat.reduceLeDiff, Nat.reduceBEq, reduceCtorEq])
    rw [show decide (x = y) = false from decide_eq_false (fun e => by subst e; simp at g3)]
    exact vw_ret (r_then (e_ret (ret_of rfl rfl (by simp [RB]) rfl rfl)))
  refine vw_skip (n_then ?_)
  (refine vw_go rfl ?_; simp only [go_sem, setCells, setIn, Int.reduceToNat, Int.reduceEq, Int.reduceLT, Int.reduceLE, Int.reduceNeg, Int.reduceSub, Int.reduceAdd, ge_iff_le, gt_iff_lt, ↓reduceIte, Nat.reduceEqDiff, Nat.reduceAdd, Nat.reduceMul, Nat.reduceLT, Nat.reduceLeDiff, Nat.reduceBEq, reduceCtorEq])
  rw [show decide (x = y) = true from decide_eq_true (by cases x; cases y; simp_all)]
  exact vw_ret (e_ret (ret_of rfl rfl (by simp [RB]) rfl rfl))

end Go.Proofs.YtalacohfhmdhjaaDoor
