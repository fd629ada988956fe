/- SameItems of both, and its law. -/
import Derived.Test.YtcdgdiheoejjgaaFFind
namespace Go.Proofs.Ytcdgdiheoejjgaa
open Go.VM
set_option maxRecDepth 100000
set_option linter.unusedSimpArgs false
set_option linter.unusedVariables false
attribute [local congr] vw_congr runV_congr runH_congr runW_congr runX_congr

def eqV (v x : It3) : Bool := decide (v.1 = x.1) && ((v.2.1 == x.2.1) && decide (v.2.2 = x.2.2))

theorem runs_101 (l : List It3) (v : It3) (hl : l.length < 2 ^ 63) :
    Runs Try.prog 101 [.one (.v (.list false 3 (l.map iRow))), .agg [.v (.str v.1), .v (.bool v.2.1), .v (.str v.2.2)]] [.one (.v (.int .i64 (idxOf (eqV v) l 0)))] [] := by
  refine runs_tab (tab := [(0, .c (.list false 3 (l.map iRow))), (1, .agg [.c (.str v.1), .c (.bool v.2.1), .c (.str v.2.2)])]) (rts := []) (n := 19) (k := 4) Try.func101 rfl rfl (by simp) rfl (fun t => ?_) rfl ?_
  · rcases t with _ | _ | t <;> rfl
  (refine vw_go rfl ?_; simp only [go_sem, setCells, setIn, Int.reduceEq, Int.reduceLT, Int.reduceLE, Int.reduceNeg, Int.reduceSub, Int.reduceAdd, ge_iff_le, gt_iff_lt, ↓reduceIte, Nat.reduceEqDiff, Nat.reduceAdd, Nat.reduceMul, Nat.reduceLT, Nat.reduceLeDiff, Nat.reduceBEq, reduceCtorEq])
  refine vw_seq ?_
  (refine vw_go rfl ?_; simp only [go_sem, setCells, setIn, Int.reduceEq, Int.reduceLT, Int.reduceLE, Int.reduceNeg, Int.reduceSub, Int.reduceAdd, ge_iff_le, gt_iff_lt, ↓reduceIte, Nat.reduceEqDiff, Nat.reduceAdd, Nat.reduceMul, Nat.reduceLT, Nat.reduceLeDiff, Nat.reduceBEq, reduceCtorEq])
  refine vw_block ?_
  refine vw_loop_tab (α := Nat) (fun x => l.length - x) (fun x => ⟨tabE [(0, .c (.list false 3 (l.map iRow))), (3, .ptr 4 [] 0 0 0), (7, .c (.int .i64 l.length)), (8, .c (.int .i64 x))], tabS [(4, some ⟨true, 3, [[.str v.1, .bool v.2.1, .str v.2.2]], []⟩)], 5⟩)
    (fun x => x ≤ l.length ∧ idxOf (eqV v) (l.drop x) x = idxOf (eqV v) l 0) (x := 0) ?round ?h0 ?hn
  case h0 => exact ⟨Nat.zero_le _, rfl⟩
  case hn => (refine norm_to [(4, 4)] rfl ?_ ?_ <;> simp only [go_sem, Int.reduceEq, Int.reduceLT, Int.reduceLE, Int.reduceNeg, Int.reduceSub, Int.reduceAdd, ge_iff_le, gt_iff_lt, ↓reduceIte, Nat.reduceEqDiff, Nat.reduceAdd, Nat.reduceMul, Nat.reduceLT, Nat.reduceLeDiff, Nat.reduceBEq, reduceCtorEq])
  rintro i ⟨hi, hm⟩
  (refine vw_go rfl ?_; simp only [go_sem, setCells, setIn, Int.reduceEq, Int.reduceLT, Int.reduceLE, Int.reduceNeg, Int.reduceSub, Int.reduceAdd, ge_iff_le, gt_iff_lt, ↓reduceIte, Nat.reduceEqDiff, Nat.reduceAdd, Nat.reduceMul, Nat.reduceLT, Nat.reduceLeDiff, Nat.reduceBEq, reduceCtorEq])
  refine vw_seq ?_
  refine vw_cond (t := decide ((i : Int) < l.length)) rfl (fun h => ?_) (fun h => ?_)
  · refine vw_skip (n_then ?_)
    rcases get_or l i with ⟨x, hx, hlt⟩ | ⟨_, hge⟩
    case inr => simp only [decide_eq_true_eq] at h; omega
    have c1 : (0:Int) ≤ (i:Int) := by omega
    have c2 : (i:Int) < (l.length : Int) := by omega
    rw [drop_of hx] at hm
    refine vw_seq ?_
    refine vw_block ?_
    (refine vw_go rfl ?_; simp only [go_sem, setCells, setIn, Int.reduceEq, Int.reduceLT, Int.reduceLE, Int.reduceNeg, Int.reduceSub, Int.reduceAdd, ge_iff_le, gt_iff_lt, ↓reduceIte, Nat.reduceEqDiff, Nat.reduceAdd, Nat.reduceMul, Nat.reduceLT, Nat.reduceLeDiff, Nat.reduceBEq, reduceCtorEq])
    (refine vw_draw mixed rfl rfl ?_; simp only [c1, c2, Int.toNat_natCast, getD_map_of hx, iRow, go_sem, setCells, setIn, Int.reduceEq, Int.reduceLT, Int.reduceLE, Int.reduceNeg, Int.reduceSub, Int.reduceAdd, ge_iff_le, gt_iff_lt, ↓reduceIte, Nat.reduceEqDiff, Nat.reduceAdd, Nat.reduceMul, Nat.reduceLT, Nat.reduceLeDiff, Nat.reduceBEq, reduceCtorEq])
    refine ⟨by unfold allOk; kernel_rfl, ?_⟩
    refine vw_cond (t := eqV v x) rfl (fun h => ?_) (fun h => ?_)
    · (refine vw_go rfl ?_; simp only [go_sem, setCells, setIn, Int.reduceEq, Int.reduceLT, Int.reduceLE, Int.reduceNeg, Int.reduceSub, Int.reduceAdd, ge_iff_le, gt_iff_lt, ↓reduceIte, Nat.reduceEqDiff, Nat.reduceAdd, Nat.reduceMul, Nat.reduceLT, Nat.reduceLeDiff, Nat.reduceBEq, reduceCtorEq])
      simp only [idxOf, h, if_true] at hm
      rw [← hm]
      exact vw_ret (r_block (r_then (r_then (r_block (r_then (e_ret (ret_of rfl rfl (by simp [RB]) rfl rfl)))))))
    · refine vw_skip (n_block (n_then ?_))
      have w2 : IntKind.wrap .i64 ((i:Int) + 1) = ((i + 1 : Nat) : Int) := by rw [wrap_i64 (by omega) (by omega)]; rfl
      (refine vw_last rfl ?_; simp only [w2, go_sem, setCells, setIn, Int.reduceEq, Int.reduceLT, Int.reduceLE, Int.reduceNeg, Int.reduceSub, Int.reduceAdd, ge_iff_le, gt_iff_lt, ↓reduceIte, Nat.reduceEqDiff, Nat.reduceAdd, Nat.reduceMul, Nat.reduceLT, Nat.reduceLeDiff, Nat.reduceBEq, reduceCtorEq])
      refine (n_then ?_)
      simp only [idxOf, h, Bool.false_eq_true, if_false] at hm
      refine ⟨i + 1, by omega, ⟨hlt, hm⟩, ?_⟩
      (refine norm_to [(4, 4)] rfl ?_ ?_ <;> simp only [go_sem, Int.reduceEq, Int.reduceLT, Int.reduceLE, Int.reduceNeg, Int.reduceSub, Int.reduceAdd, ge_iff_le, gt_iff_lt, ↓reduceIte, Nat.reduceEqDiff, Nat.reduceAdd, Nat.reduceMul, Nat.reduceLT, Nat.reduceLeDiff, Nat.reduceBEq, reduceCtorEq])
  · refine vw_exit (x_then (x_then (x_block (n_then ?_))))
    (refine vw_go rfl ?_; simp only [go_sem, setCells, setIn, Int.reduceEq, Int.reduceLT, Int.reduceLE, Int.reduceNeg, Int.reduceSub, Int.reduceAdd, ge_iff_le, gt_iff_lt, ↓reduceIte, Nat.reduceEqDiff, Nat.reduceAdd, Nat.reduceMul, Nat.reduceLT, Nat.reduceLeDiff, Nat.reduceBEq, reduceCtorEq])
    simp only [decide_eq_false_iff_not] at h
    have : i = l.length := by omega
    subst this
    simp only [List.drop_length, idxOf] at hm
    rw [← hm]
    exact vw_ret (e_ret (ret_of rfl rfl (by simp [RB]) rfl rfl))

theorem runs_77 (l : List It3) (v : It3) (hl : l.length < 2 ^ 63) :
    Runs Try.prog 77 [.one (.v (.list false 3 (l.map iRow))), .agg [.v (.str v.1), .v (.bool v.2.1), .v (.str v.2.2)]] [.one (.v (.bool (l.any (eqV v))))] [] := by
  refine runs_tab (tab := [(0, .c (.list false 3 (l.map iRow))), (1, .agg [.c (.str v.1), .c (.bool v.2.1), .c (.str v.2.2)])]) (rts := []) (n := 9) (k := 4) Try.func77 rfl rfl (by simp) rfl (fun t => ?_) rfl ?_
  · rcases t with _ | _ | t <;> rfl
  (refine vw_go rfl ?_; simp only [go_sem, setCells, setIn, Int.reduceEq, Int.reduceLT, Int.reduceLE, Int.reduceNeg, Int.reduceSub, Int.reduceAdd, ge_iff_le, gt_iff_lt, ↓reduceIte, Nat.reduceEqDiff, Nat.reduceAdd, Nat.reduceMul, Nat.reduceLT, Nat.reduceLeDiff, Nat.reduceBEq, reduceCtorEq])
  (refine vw_go rfl ?_; simp only [go_sem, setCells, setIn, Int.reduceEq, Int.reduceLT, Int.reduceLE, Int.reduceNeg, Int.reduceSub, Int.reduceAdd, ge_iff_le, gt_iff_lt, ↓reduceIte, Nat.reduceEqDiff, Nat.reduceAdd, Nat.reduceMul, Nat.reduceLT, Nat.reduceLeDiff, Nat.reduceBEq, reduceCtorEq])
  (refine ⟨_, _, call_rx [0, 0] Try.func101 (runs_101 l v hl) rfl rfl rfl rfl rfl rfl rfl (by simp [lendAll, lendC, seek, fresh, nav, rcells, RT.cells, VV.cells, tabE_cons, tabS_cons, ev, take_map_len, iRow_r1, iRow_clean]) rfl (by simp [rcells, RT.cells, CT.clean, T.clean, iRow_r1, iRow_clean]) rfl rfl, ?_⟩)
  simp only [runH, runX, go_sem, setCells, setIn, Int.reduceEq, Int.reduceLT, Int.reduceLE, Int.reduceNeg, Int.reduceSub, Int.reduceAdd, ge_iff_le, gt_iff_lt, ↓reduceIte, Nat.reduceEqDiff, Nat.reduceAdd, Nat.reduceMul, Nat.reduceLT, Nat.reduceLeDiff, Nat.reduceBEq, reduceCtorEq]
  rw [← idxOf_any (eqV v) l 0]
  exact vw_ret (e_ret (ret_of rfl rfl (by simp [RB]) rfl rfl))

theorem runs_76 (x : It3) (l : List It3) (hl : l.length < 2 ^ 63) : Runs Try.prog 76 [.agg [.v (.str x.1), .v (.bool x.2.1), .v (.str x.2.2)], .one (.ref [.list false 3 (l.map iRow)])] [.one (.v (.bool (!l.any (eqV x))))] [] := by
  refine runs_tab (tab := [(0, .agg [.c (.str x.1), .c (.bool x.2.1), .c (.str x.2.2)]), (1, .rop [.list false 3 (l.map iRow)])]) (rts := []) (n := 8) (k := 4) Try.func76 rfl rfl (by simp) rfl (fun t => ?_) rfl ?_
  · rcases t with _ | _ | t <;> rfl
  (refine vw_go rfl ?_; simp only [go_sem, setCells, setIn, Int.reduceEq, Int.reduceLT, Int.reduceLE, Int.reduceNeg, Int.reduceSub, Int.reduceAdd, ge_iff_le, gt_iff_lt, ↓reduceIte, Nat.reduceEqDiff, Nat.reduceAdd, Nat.reduceMul, Nat.reduceLT, Nat.reduceLeDiff, Nat.reduceBEq, reduceCtorEq])
  (refine vw_go rfl ?_; simp only [go_sem, setCells, setIn, Int.reduceEq, Int.reduceLT, Int.reduceLE, Int.reduceNeg, Int.reduceSub, Int.reduceAdd, ge_iff_le, gt_iff_lt, ↓reduceIte, Nat.reduceEqDiff, Nat.reduceAdd, Nat.reduceMul, Nat.reduceLT, Nat.reduceLeDiff, Nat.reduceBEq, reduceCtorEq])
  (refine ⟨_, _, call_rx [0, 0] Try.func77 (runs_77 l x hl) rfl rfl rfl rfl rfl rfl rfl (by simp [lendAll, lendC, seek, fresh, nav, rcells, RT.cells, VV.cells, tabE_cons, tabS_cons, ev, take_map_len, iRow_r1, iRow_clean]) rfl (by simp [rcells, RT.cells, CT.clean, T.clean, iRow_r1, iRow_clean]) rfl rfl, ?_⟩)
  simp only [runH, runX, go_sem, setCells, setIn, Int.reduceEq, Int.reduceLT, Int.reduceLE, Int.reduceNeg, Int.reduceSub, Int.reduceAdd, ge_iff_le, gt_iff_lt, ↓reduceIte, Nat.reduceEqDiff, Nat.reduceAdd, Nat.reduceMul, Nat.reduceLT, Nat.reduceLeDiff, Nat.reduceBEq, reduceCtorEq]
  exact vw_ret (e_ret (ret_of rfl rfl (by simp [RB]) rfl rfl))

theorem runs_75 (l : List It3) (hl : l.length < 2 ^ 63) (f : Nat) (fn : Func) (caps : List T) (p : It3 → Bool) (hf : Try.prog.funcs[f]? = some fn) (hbody : fn.body.isNone = false) (hname : (fn.name == "runtime.NumGoroutine") = false)
    (hp : ∀ x : It3, Runs Try.prog f [.agg [.v (.str x.1), .v (.bool x.2.1), .v (.str x.2.2)], .one (.ref caps)] [.one (.v (.bool (p x)))] []) :
    Runs Try.prog 75 [.one (.v (.list false 3 (l.map iRow))), .one (.fn f [caps])] [.one (.v (.bool (l.any p)))] [] := by
  refine runs_tab (tab := [(0, .c (.list false 3 (l.map iRow))), (1, .fn f [caps])]) (rts := []) (n := 9) (k := 2) Try.func75 rfl rfl (by simp) rfl (fun t => ?_) rfl ?_
  · rcases t with _ | _ | t <;> rfl
  (refine vw_go rfl ?_; simp only [go_sem, setCells, setIn, Int.reduceEq, Int.reduceLT, Int.reduceLE, Int.reduceNeg, Int.reduceSub, Int.reduceAdd, ge_iff_le, gt_iff_lt, ↓reduceIte, Nat.reduceEqDiff, Nat.reduceAdd, Nat.reduceMul, Nat.reduceLT, Nat.reduceLeDiff, Nat.reduceBEq, reduceCtorEq])
  (refine vw_go rfl ?_; simp only [go_sem, setCells, setIn, Int.reduceEq, Int.reduceLT, Int.reduceLE, Int.reduceNeg, Int.reduceSub, Int.reduceAdd, ge_iff_le, gt_iff_lt, ↓reduceIte, Nat.reduceEqDiff, Nat.reduceAdd, Nat.reduceMul, Nat.reduceLT, Nat.reduceLeDiff, Nat.reduceBEq, reduceCtorEq])
  (refine ⟨_, _, call_rx [0, 0] Try.func72 (runs_72 l hl f fn caps p hf hbody hname hp) rfl rfl rfl rfl rfl rfl rfl (by simp [lendAll, lendC, seek, fresh, nav, rcells, RT.cells, VV.cells, tabE_cons, tabS_cons, ev, take_map_len, iRow_r1, iRow_clean]) rfl (by simp [rcells, RT.cells, CT.clean, T.clean, iRow_r1, iRow_clean]) rfl rfl, ?_⟩)
  simp only [runH, runX, go_sem, setCells, setIn, Int.reduceEq, Int.reduceLT, Int.reduceLE, Int.reduceNeg, Int.reduceSub, Int.reduceAdd, ge_iff_le, gt_iff_lt, ↓reduceIte, Nat.reduceEqDiff, Nat.reduceAdd, Nat.reduceMul, Nat.reduceLT, Nat.reduceLeDiff, Nat.reduceBEq, reduceCtorEq]
  rw [← idxOf_any p l 0]
  exact vw_ret (e_ret (ret_of rfl rfl (by simp [RB]) rfl rfl))

def sameB (a b : List It3) : Bool := decide ((a.length : Int) = b.length) && !a.any (fun x => !b.any (eqV x))

theorem runs_25 (a b : List It3) (ha : a.length < 2 ^ 63) (hb : b.length < 2 ^ 63) :
    Runs Try.prog 25 [.one (.v (.list false 3 (a.map iRow))), .one (.v (.list false 3 (b.map iRow)))] [.one (.v (.bool (sameB a b)))] [] := by
  refine runs_tab (tab := [(0, .c (.list false 3 (a.map iRow))), (1, .c (.list false 3 (b.map iRow)))]) (rts := []) (n := 16) (k := 2) Try.func25 rfl rfl (by simp) rfl (fun t => ?_) rfl ?_
  · rcases t with _ | _ | t <;> rfl
  (refine vw_go rfl ?_; simp only [go_sem, setCells, setIn, Int.reduceEq, Int.reduceLT, Int.reduceLE, Int.reduceNeg, Int.reduceSub, Int.reduceAdd, ge_iff_le, gt_iff_lt, ↓reduceIte, Nat.reduceEqDiff, Nat.reduceAdd, Nat.reduceMul, Nat.reduceLT, Nat.reduceLeDiff, Nat.reduceBEq, reduceCtorEq])
  unfold sameB
  cases hab : decide ((a.length : Int) = b.length)
  · (refine vw_go rfl ?_; simp only [hab, go_sem, setCells, setIn, Int.reduceEq, Int.reduceLT, Int.reduceLE, Int.reduceNeg, Int.reduceSub, Int.reduceAdd, ge_iff_le, gt_iff_lt, ↓reduceIte, Nat.reduceEqDiff, Nat.reduceAdd, Nat.reduceMul, Nat.reduceLT, Nat.reduceLeDiff, Nat.reduceBEq, reduceCtorEq])
    exact vw_ret (e_ret (ret_of rfl rfl (by simp [RB]) rfl rfl))
  · (refine vw_go rfl ?_; simp only [hab, go_sem, setCells, setIn, Int.reduceEq, Int.reduceLT, Int.reduceLE, Int.reduceNeg, Int.reduceSub, Int.reduceAdd, ge_iff_le, gt_iff_lt, ↓reduceIte, Nat.reduceEqDiff, Nat.reduceAdd, Nat.reduceMul, Nat.reduceLT, Nat.reduceLeDiff, Nat.reduceBEq, reduceCtorEq])
    (refine ⟨_, _, mk_ok (rows := [[.list false 3 (b.map iRow)]]) (cs := [.ref [.list false 3 (b.map iRow)]]) [2] rfl (by simp [lendAll, lendC, seek, fresh, nav, tabE_cons, tabS_cons, ev, iRow_r1]) rfl rfl, ?_⟩)
    simp only [runH, runX, go_sem, setCells, setIn, Int.reduceEq, Int.reduceLT, Int.reduceLE, Int.reduceNeg, Int.reduceSub, Int.reduceAdd, ge_iff_le, gt_iff_lt, ↓reduceIte, Nat.reduceEqDiff, Nat.reduceAdd, Nat.reduceMul, Nat.reduceLT, Nat.reduceLeDiff, Nat.reduceBEq, reduceCtorEq]
    (refine ⟨_, _, call_rx [0, 0] Try.func75 (runs_75 a ha 76 Try.f76 [.list false 3 (b.map iRow)] (fun x => !b.any (eqV x)) Try.func76 rfl rfl (fun x => runs_76 x b hb)) rfl rfl rfl rfl rfl rfl rfl (by simp [lendAll, lendC, seek, fresh, nav, rcells, RT.cells, VV.cells, tabE_cons, tabS_cons, ev, take_map_len, iRow_r1, iRow_clean]) rfl (by simp [rcells, RT.cells, CT.clean, T.clean, iRow_r1, iRow_clean]) rfl rfl, ?_⟩)
    simp only [runH, runX, go_sem, setCells, setIn, Int.reduceEq, Int.reduceLT, Int.reduceLE, Int.reduceNeg, Int.reduceSub, Int.reduceAdd, ge_iff_le, gt_iff_lt, ↓reduceIte, Nat.reduceEqDiff, Nat.reduceAdd, Nat.reduceMul, Nat.reduceLT, Nat.reduceLeDiff, Nat.reduceBEq, reduceCtorEq]
    exact vw_ret (e_ret (ret_of rfl rfl (by simp [RB]) rfl rfl))

theorem runs_24 (a b : List It3) (ha : a.length < 2 ^ 63) (hb : b.length < 2 ^ 63) :
    Runs Try.prog 24 [.one (.v (.list false 3 (a.map iRow))), .one (.v (.list false 3 (b.map iRow)))] [.one (.v (.bool (sameB a b)))] [] := by
  refine runs_tab (tab := [(0, .c (.list false 3 (a.map iRow))), (1, .c (.list false 3 (b.map iRow)))]) (rts := []) (n := 39) (k := 2) Try.func24 rfl rfl (by simp) rfl (fun t => ?_) rfl ?_
  · rcases t with _ | _ | t <;> rfl
  (refine vw_go rfl ?_; simp only [go_sem, setCells, setIn, Int.reduceEq, Int.reduceLT, Int.reduceLE, Int.reduceNeg, Int.reduceSub, Int.reduceAdd, ge_iff_le, gt_iff_lt, ↓reduceIte, Nat.reduceEqDiff, Nat.reduceAdd, Nat.reduceMul, Nat.reduceLT, Nat.reduceLeDiff, Nat.reduceBEq, reduceCtorEq])
  refine vw_seq ?_
  (refine vw_go rfl ?_; simp only [go_sem, setCells, setIn, Int.reduceEq, Int.reduceLT, Int.reduceLE, Int.reduceNeg, Int.reduceSub, Int.reduceAdd, ge_iff_le, gt_iff_lt, ↓reduceIte, Nat.reduceEqDiff, Nat.reduceAdd, Nat.reduceMul, Nat.reduceLT, Nat.reduceLeDiff, Nat.reduceBEq, reduceCtorEq])
  refine vw_block ?_
  refine vw_loop_tab (α := Nat) (fun x => a.length - x) (fun x => ⟨tabE [(0, .c (.list false 3 (a.map iRow))), (1, .c (.list false 3 (b.map iRow))), (5, .c (.int .i64 x))], tabS [], 2⟩)
    (fun i => i ≤ a.length ∧ (a.take i).any (fun x => !b.any (eqV x)) = false) (x := 0) ?round ?h0 ?hn
  case h0 => exact ⟨Nat.zero_le _, rfl⟩
  case hn => (refine norm_to [] rfl ?_ ?_ <;> simp only [go_sem, Int.reduceEq, Int.reduceLT, Int.reduceLE, Int.reduceNeg, Int.reduceSub, Int.reduceAdd, ge_iff_le, gt_iff_lt, ↓reduceIte, Nat.reduceEqDiff, Nat.reduceAdd, Nat.reduceMul, Nat.reduceLT, Nat.reduceLeDiff, Nat.reduceBEq, reduceCtorEq])
  rintro i ⟨hi, hm⟩
  refine vw_seq ?_
  (refine vw_go rfl ?_; simp only [go_sem, setCells, setIn, Int.reduceEq, Int.reduceLT, Int.reduceLE, Int.reduceNeg, Int.reduceSub, Int.reduceAdd, ge_iff_le, gt_iff_lt, ↓reduceIte, Nat.reduceEqDiff, Nat.reduceAdd, Nat.reduceMul, Nat.reduceLT, Nat.reduceLeDiff, Nat.reduceBEq, reduceCtorEq])
  refine vw_cond (t := decide ((i : Int) < a.length)) rfl (fun h => ?_) (fun h => ?_)
  · refine vw_skip (n_then ?_)
    rcases get_or a i with ⟨x, hx, hlt⟩ | ⟨_, hge⟩
    case inr => simp only [decide_eq_true_eq] at h; omega
    have c1 : (0:Int) ≤ (i:Int) := by omega
    have c2 : (i:Int) < (a.length : Int) := by omega
    refine vw_seq ?_
    refine vw_block ?_
    (refine vw_go rfl ?_; simp only [go_sem, setCells, setIn, Int.reduceEq, Int.reduceLT, Int.reduceLE, Int.reduceNeg, Int.reduceSub, Int.reduceAdd, ge_iff_le, gt_iff_lt, ↓reduceIte, Nat.reduceEqDiff, Nat.reduceAdd, Nat.reduceMul, Nat.reduceLT, Nat.reduceLeDiff, Nat.reduceBEq, reduceCtorEq])
    refine vw_seq ?_
    (refine vw_go rfl ?_; simp only [go_sem, setCells, setIn, Int.reduceEq, Int.reduceLT, Int.reduceLE, Int.reduceNeg, Int.reduceSub, Int.reduceAdd, ge_iff_le, gt_iff_lt, ↓reduceIte, Nat.reduceEqDiff, Nat.reduceAdd, Nat.reduceMul, Nat.reduceLT, Nat.reduceLeDiff, Nat.reduceBEq, reduceCtorEq])
    refine vw_block ?_
    refine vw_loop_tab (α := Nat) (fun k => b.length - k) (fun k => ⟨tabE [(0, .c (.list false 3 (a.map iRow))), (1, .c (.list false 3 (b.map iRow))), (5, .c (.int .i64 i)), (6, .c (.bool ((b.take k).any (eqV x)))), (7, .c (.int .i64 k))], tabS [], 2⟩)
      (fun k => k ≤ b.length) (x := 0) ?round2 ?h02 ?hn2
    case h02 => exact Nat.zero_le _
    case hn2 =>
      (refine norm_to [] rfl ?_ ?_ <;> simp only [go_sem, Int.reduceEq, Int.reduceLT, Int.reduceLE, Int.reduceNeg, Int.reduceSub, Int.reduceAdd, ge_iff_le, gt_iff_lt, ↓reduceIte, Nat.reduceEqDiff, Nat.reduceAdd, Nat.reduceMul, Nat.reduceLT, Nat.reduceLeDiff, Nat.reduceBEq, reduceCtorEq])
      simp
    intro k hk
    refine vw_seq ?_
    (refine vw_go rfl ?_; simp only [go_sem, setCells, setIn, Int.reduceEq, Int.reduceLT, Int.reduceLE, Int.reduceNeg, Int.reduceSub, Int.reduceAdd, ge_iff_le, gt_iff_lt, ↓reduceIte, Nat.reduceEqDiff, Nat.reduceAdd, Nat.reduceMul, Nat.reduceLT, Nat.reduceLeDiff, Nat.reduceBEq, reduceCtorEq])
    refine vw_cond (t := decide ((k : Int) < b.length)) rfl (fun h => ?_) (fun h => ?_)
    · refine vw_skip (n_then ?_)
      rcases get_or b k with ⟨y, hy, hlt2⟩ | ⟨_, hge⟩
      case inr => simp only [decide_eq_true_eq] at h; omega
      have c3 : (0:Int) ≤ (k:Int) := by omega
      have c4 : (k:Int) < (b.length : Int) := by omega
      have w2 : IntKind.wrap .i64 ((k:Int) + 1) = ((k + 1 : Nat) : Int) := by rw [wrap_i64 (by omega) (by omega)]; rfl
      have next : (b.take (k + 1)).any (eqV x) = ((b.take k).any (eqV x) || eqV x y) := by
        rw [List.take_add_one, hy, List.any_append]; simp
      refine vw_seq ?_
      refine vw_block ?_
      cases ht : (b.take k).any (eqV x)
      · rw [ht] at next
        (refine vw_draw_last mixed rfl rfl ?_; simp only [c1, c2, c3, c4, Int.toNat_natCast, getD_map_of hx, getD_map_of hy, iRow, go_sem, setCells, setIn, Int.reduceEq, Int.reduceLT, Int.reduceLE, Int.reduceNeg, Int.reduceSub, Int.reduceAdd, ge_iff_le, gt_iff_lt, ↓reduceIte, Nat.reduceEqDiff, Nat.reduceAdd, Nat.reduceMul, Nat.reduceLT, Nat.reduceLeDiff, Nat.reduceBEq, reduceCtorEq])
        refine ⟨by unfold allOk; kernel_rfl, n_block (n_then ?_)⟩
        (refine vw_last rfl ?_; simp only [w2, go_sem, setCells, setIn, Int.reduceEq, Int.reduceLT, Int.reduceLE, Int.reduceNeg, Int.reduceSub, Int.reduceAdd, ge_iff_le, gt_iff_lt, ↓reduceIte, Nat.reduceEqDiff, Nat.reduceAdd, Nat.reduceMul, Nat.reduceLT, Nat.reduceLeDiff, Nat.reduceBEq, reduceCtorEq])
        refine (n_then ?_)
        refine ⟨k + 1, by omega, hlt2, ?_⟩
        rw [next, Bool.false_or]
        (refine norm_to [] rfl ?_ ?_ <;> simp only [go_sem, Int.reduceEq, Int.reduceLT, Int.reduceLE, Int.reduceNeg, Int.reduceSub, Int.reduceAdd, ge_iff_le, gt_iff_lt, ↓reduceIte, Nat.reduceEqDiff, Nat.reduceAdd, Nat.reduceMul, Nat.reduceLT, Nat.reduceLeDiff, Nat.reduceBEq, reduceCtorEq])
        rfl
      · rw [ht] at next
        (refine vw_draw_last mixed rfl rfl ?_; simp only [go_sem, setCells, setIn, Int.reduceEq, Int.reduceLT, Int.reduceLE, Int.reduceNeg, Int.reduceSub, Int.reduceAdd, ge_iff_le, gt_iff_lt, ↓reduceIte, Nat.reduceEqDiff, Nat.reduceAdd, Nat.reduceMul, Nat.reduceLT, Nat.reduceLeDiff, Nat.reduceBEq, reduceCtorEq])
        refine ⟨by unfold allOk; kernel_rfl, n_block (n_then ?_)⟩
        (refine vw_last rfl ?_; simp only [w2, go_sem, setCells, setIn, Int.reduceEq, Int.reduceLT, Int.reduceLE, Int.reduceNeg, Int.reduceSub, Int.reduceAdd, ge_iff_le, gt_iff_lt, ↓reduceIte, Nat.reduceEqDiff, Nat.reduceAdd, Nat.reduceMul, Nat.reduceLT, Nat.reduceLeDiff, Nat.reduceBEq, reduceCtorEq])
        refine (n_then ?_)
        refine ⟨k + 1, by omega, hlt2, ?_⟩
        rw [next, Bool.true_or]
        (refine norm_to [] rfl ?_ ?_ <;> simp only [go_sem, Int.reduceEq, Int.reduceLT, Int.reduceLE, Int.reduceNeg, Int.reduceSub, Int.reduceAdd, ge_iff_le, gt_iff_lt, ↓reduceIte, Nat.reduceEqDiff, Nat.reduceAdd, Nat.reduceMul, Nat.reduceLT, Nat.reduceLeDiff, Nat.reduceBEq, reduceCtorEq])
    · simp only [decide_eq_false_iff_not] at h
      have hk2 : k = b.length := by omega
      subst hk2
      refine vw_exit (x_then (x_then (x_block (n_then ?_))))
      rw [List.take_length]
      (refine vw_go rfl ?_; simp only [go_sem, setCells, setIn, Int.reduceEq, Int.reduceLT, Int.reduceLE, Int.reduceNeg, Int.reduceSub, Int.reduceAdd, ge_iff_le, gt_iff_lt, ↓reduceIte, Nat.reduceEqDiff, Nat.reduceAdd, Nat.reduceMul, Nat.reduceLT, Nat.reduceLeDiff, Nat.reduceBEq, reduceCtorEq])
      refine vw_cond (t := !b.any (eqV x)) rfl (fun h => ?_) (fun h => ?_)
      · (refine vw_go rfl ?_; simp only [go_sem, setCells, setIn, Int.reduceEq, Int.reduceLT, Int.reduceLE, Int.reduceNeg, Int.reduceSub, Int.reduceAdd, ge_iff_le, gt_iff_lt, ↓reduceIte, Nat.reduceEqDiff, Nat.reduceAdd, Nat.reduceMul, Nat.reduceLT, Nat.reduceLeDiff, Nat.reduceBEq, reduceCtorEq])
        have : a.any (fun x => !b.any (eqV x)) = true := List.any_eq_true.2 ⟨x, List.mem_of_getElem? hx, h⟩
        rw [show sameB a b = false from by unfold sameB; rw [this]; simp]
        exact vw_ret (r_block (r_then (r_then (r_block (r_then (e_ret (ret_of rfl rfl (by simp [RB]) rfl rfl)))))))
      · refine vw_skip (n_block (n_then ?_))
        have w2 : IntKind.wrap .i64 ((i:Int) + 1) = ((i + 1 : Nat) : Int) := by rw [wrap_i64 (by omega) (by omega)]; rfl
        (refine vw_last rfl ?_; simp only [w2, go_sem, setCells, setIn, Int.reduceEq, Int.reduceLT, Int.reduceLE, Int.reduceNeg, Int.reduceSub, Int.reduceAdd, ge_iff_le, gt_iff_lt, ↓reduceIte, Nat.reduceEqDiff, Nat.reduceAdd, Nat.reduceMul, Nat.reduceLT, Nat.reduceLeDiff, Nat.reduceBEq, reduceCtorEq])
        refine (n_then ?_)
        refine ⟨i + 1, by omega, ⟨hlt, ?_⟩, ?_⟩
        · rw [List.take_add_one, hx, List.any_append, hm]; simpa using h
        · (refine norm_to [] rfl ?_ ?_ <;> simp only [go_sem, Int.reduceEq, Int.reduceLT, Int.reduceLE, Int.reduceNeg, Int.reduceSub, Int.reduceAdd, ge_iff_le, gt_iff_lt, ↓reduceIte, Nat.reduceEqDiff, Nat.reduceAdd, Nat.reduceMul, Nat.reduceLT, Nat.reduceLeDiff, Nat.reduceBEq, reduceCtorEq])
  · refine vw_exit (x_then (x_then (x_block (n_then ?_))))
    (refine vw_go rfl ?_; simp only [go_sem, setCells, setIn, Int.reduceEq, Int.reduceLT, Int.reduceLE, Int.reduceNeg, Int.reduceSub, Int.reduceAdd, ge_iff_le, gt_iff_lt, ↓reduceIte, Nat.reduceEqDiff, Nat.reduceAdd, Nat.reduceMul, Nat.reduceLT, Nat.reduceLeDiff, Nat.reduceBEq, reduceCtorEq])
    simp only [decide_eq_false_iff_not] at h
    have : i = a.length := by omega
    subst this
    rw [List.take_length] at hm
    rw [show sameB a b = decide ((a.length : Int) = b.length) from by unfold sameB; rw [hm]; simp]
    exact vw_ret (e_ret (ret_of rfl rfl (by simp [RB]) rfl rfl))

theorem szL_le : ∀ (l : List It3) (left : Int), 0 ≤ left → szL l left ≤ left
  | [], left, h => Int.le_refl _
  | x :: l, left, h => by
    have h1 := szI_le x left h
    simp only [szL]
    split
    · omega
    · have := szL_le l (szI x left) (by omega)
      omega
theorem szIS_le (l : List It3) (left : Int) (h : 0 ≤ left) : szIS l left ≤ left := by
  unfold szIS
  split
  · omega
  · have := szL_le l (left - l.length) (by omega)
    omega
theorem szIS_len {l : List It3} {left : Int} (h : ¬ szIS l left < 0) : (l.length : Int) ≤ left := by
  unfold szIS at h
  split at h
  · exact absurd (by decide) h
  · omega

theorem runs_6 (a b : List It3) (ha : ∀ x ∈ a, x.1.size < 2 ^ 63 ∧ x.2.2.size < 2 ^ 63) (hal : a.length < 2 ^ 63) (hb : ∀ x ∈ b, x.1.size < 2 ^ 63 ∧ x.2.2.size < 2 ^ 63) (hbl : b.length < 2 ^ 63) :
    Runs Try.prog 6 [.one (.v (.list false 3 (a.map iRow))), .one (.v (.list false 3 (b.map iRow)))] [.one (.v (.bool true))] [] := by
  refine runs_tab (tab := [(0, .c (.list false 3 (a.map iRow))), (1, .c (.list false 3 (b.map iRow)))]) (rts := []) (n := 45) (k := 2) Try.func6 rfl rfl (by simp) rfl (fun t => ?_) rfl ?_
  · rcases t with _ | _ | t <;> rfl
  (refine vw_go rfl ?_; simp only [go_sem, setCells, setIn, Int.reduceEq, Int.reduceLT, Int.reduceLE, Int.reduceNeg, Int.reduceSub, Int.reduceAdd, ge_iff_le, gt_iff_lt, ↓reduceIte, Nat.reduceEqDiff, Nat.reduceAdd, Nat.reduceMul, Nat.reduceLT, Nat.reduceLeDiff, Nat.reduceBEq, reduceCtorEq])
  (refine vw_go rfl ?_; simp only [go_sem, setCells, setIn, Int.reduceEq, Int.reduceLT, Int.reduceLE, Int.reduceNeg, Int.reduceSub, Int.reduceAdd, ge_iff_le, gt_iff_lt, ↓reduceIte, Nat.reduceEqDiff, Nat.reduceAdd, Nat.reduceMul, Nat.reduceLT, Nat.reduceLeDiff, Nat.reduceBEq, reduceCtorEq])
  (refine vw_go rfl ?_; simp only [go_sem, setCells, setIn, Int.reduceEq, Int.reduceLT, Int.reduceLE, Int.reduceNeg, Int.reduceSub, Int.reduceAdd, ge_iff_le, gt_iff_lt, ↓reduceIte, Nat.reduceEqDiff, Nat.reduceAdd, Nat.reduceMul, Nat.reduceLT, Nat.reduceLeDiff, Nat.reduceBEq, reduceCtorEq])
  (refine ⟨_, _, call_rx [0, 0] Try.func17 (runs_17 a 1048576 ha hal (by decide) (by decide)) rfl rfl rfl rfl rfl rfl rfl (by simp [lendAll, lendC, seek, fresh, nav, rcells, RT.cells, VV.cells, tabE_cons, tabS_cons, ev, take_map_len, iRow_r1, iRow_clean]) rfl (by simp [rcells, RT.cells, CT.clean, T.clean, iRow_r1, iRow_clean]) rfl rfl, ?_⟩)
  simp only [runH, runX, go_sem, setCells, setIn, Int.reduceEq, Int.reduceLT, Int.reduceLE, Int.reduceNeg, Int.reduceSub, Int.reduceAdd, ge_iff_le, gt_iff_lt, ↓reduceIte, Nat.reduceEqDiff, Nat.reduceAdd, Nat.reduceMul, Nat.reduceLT, Nat.reduceLeDiff, Nat.reduceBEq, reduceCtorEq]
  refine vw_seq ?_
  (refine vw_go rfl ?_; simp only [go_sem, setCells, setIn, Int.reduceEq, Int.reduceLT, Int.reduceLE, Int.reduceNeg, Int.reduceSub, Int.reduceAdd, ge_iff_le, gt_iff_lt, ↓reduceIte, Nat.reduceEqDiff, Nat.reduceAdd, Nat.reduceMul, Nat.reduceLT, Nat.reduceLeDiff, Nat.reduceBEq, reduceCtorEq])
  refine vw_cond (t := decide (szIS a 1048576 < 0)) rfl (fun h => ?_) (fun h => ?_)
  · (refine vw_go rfl ?_; simp only [go_sem, setCells, setIn, Int.reduceEq, Int.reduceLT, Int.reduceLE, Int.reduceNeg, Int.reduceSub, Int.reduceAdd, ge_iff_le, gt_iff_lt, ↓reduceIte, Nat.reduceEqDiff, Nat.reduceAdd, Nat.reduceMul, Nat.reduceLT, Nat.reduceLeDiff, Nat.reduceBEq, reduceCtorEq])
    exact vw_ret (r_then (e_ret (ret_of rfl rfl (by simp [RB]) rfl rfl)))
  refine vw_skip (n_then ?_)
  simp only [decide_eq_false_iff_not] at h
  have hlen := szIS_len h
  have hle := szIS_le a 1048576 (by decide)
  (refine vw_go rfl ?_; simp only [go_sem, setCells, setIn, Int.reduceEq, Int.reduceLT, Int.reduceLE, Int.reduceNeg, Int.reduceSub, Int.reduceAdd, ge_iff_le, gt_iff_lt, ↓reduceIte, Nat.reduceEqDiff, Nat.reduceAdd, Nat.reduceMul, Nat.reduceLT, Nat.reduceLeDiff, Nat.reduceBEq, reduceCtorEq])
  (refine ⟨_, _, call_rx [0, 0] Try.func17 (runs_17 b (szIS a 1048576) hb hbl (by omega) (by omega)) rfl rfl rfl rfl rfl rfl rfl (by simp [lendAll, lendC, seek, fresh, nav, rcells, RT.cells, VV.cells, tabE_cons, tabS_cons, ev, take_map_len, iRow_r1, iRow_clean]) rfl (by simp [rcells, RT.cells, CT.clean, T.clean, iRow_r1, iRow_clean]) rfl rfl, ?_⟩)
  simp only [runH, runX, go_sem, setCells, setIn, Int.reduceEq, Int.reduceLT, Int.reduceLE, Int.reduceNeg, Int.reduceSub, Int.reduceAdd, ge_iff_le, gt_iff_lt, ↓reduceIte, Nat.reduceEqDiff, Nat.reduceAdd, Nat.reduceMul, Nat.reduceLT, Nat.reduceLeDiff, Nat.reduceBEq, reduceCtorEq]
  refine vw_seq ?_
  (refine vw_go rfl ?_; simp only [go_sem, setCells, setIn, Int.reduceEq, Int.reduceLT, Int.reduceLE, Int.reduceNeg, Int.reduceSub, Int.reduceAdd, ge_iff_le, gt_iff_lt, ↓reduceIte, Nat.reduceEqDiff, Nat.reduceAdd, Nat.reduceMul, Nat.reduceLT, Nat.reduceLeDiff, Nat.reduceBEq, reduceCtorEq])
  refine vw_cond (t := decide (szIS b (szIS a 1048576) < 0)) rfl (fun h2 => ?_) (fun h2 => ?_)
  · (refine vw_go rfl ?_; simp only [go_sem, setCells, setIn, Int.reduceEq, Int.reduceLT, Int.reduceLE, Int.reduceNeg, Int.reduceSub, Int.reduceAdd, ge_iff_le, gt_iff_lt, ↓reduceIte, Nat.reduceEqDiff, Nat.reduceAdd, Nat.reduceMul, Nat.reduceLT, Nat.reduceLeDiff, Nat.reduceBEq, reduceCtorEq])
    exact vw_ret (r_then (e_ret (ret_of rfl rfl (by simp [RB]) rfl rfl)))
  refine vw_skip (n_then ?_)
  simp only [decide_eq_false_iff_not] at h2
  have hlen2 := szIS_len h2
  have hl2 : a.length ≤ 2 ^ 20 := by omega
  have hl3 : b.length ≤ 2 ^ 20 := by omega
  (refine vw_go rfl ?_; simp only [go_sem, setCells, setIn, Int.reduceEq, Int.reduceLT, Int.reduceLE, Int.reduceNeg, Int.reduceSub, Int.reduceAdd, ge_iff_le, gt_iff_lt, ↓reduceIte, Nat.reduceEqDiff, Nat.reduceAdd, Nat.reduceMul, Nat.reduceLT, Nat.reduceLeDiff, Nat.reduceBEq, reduceCtorEq])
  (refine ⟨_, _, call_rx [0] Try.func19 (runs_19 a hl2) rfl rfl rfl rfl rfl rfl rfl (by simp [lendAll, lendC, seek, fresh, nav, rcells, RT.cells, VV.cells, tabE_cons, tabS_cons, ev, take_map_len, iRow_r1, iRow_clean]) rfl (by simp [rcells, RT.cells, CT.clean, T.clean, iRow_r1, iRow_clean]) rfl rfl, ?_⟩)
  simp only [runH, runX, go_sem, setCells, setIn, Int.reduceEq, Int.reduceLT, Int.reduceLE, Int.reduceNeg, Int.reduceSub, Int.reduceAdd, ge_iff_le, gt_iff_lt, ↓reduceIte, Nat.reduceEqDiff, Nat.reduceAdd, Nat.reduceMul, Nat.reduceLT, Nat.reduceLeDiff, Nat.reduceBEq, reduceCtorEq]
  (refine ⟨_, _, call_rx [0] Try.func19 (runs_19 b hl3) rfl rfl rfl rfl rfl rfl rfl (by simp [lendAll, lendC, seek, fresh, nav, rcells, RT.cells, VV.cells, tabE_cons, tabS_cons, ev, take_map_len, iRow_r1, iRow_clean]) rfl (by simp [rcells, RT.cells, CT.clean, T.clean, iRow_r1, iRow_clean]) rfl rfl, ?_⟩)
  simp only [runH, runX, go_sem, setCells, setIn, Int.reduceEq, Int.reduceLT, Int.reduceLE, Int.reduceNeg, Int.reduceSub, Int.reduceAdd, ge_iff_le, gt_iff_lt, ↓reduceIte, Nat.reduceEqDiff, Nat.reduceAdd, Nat.reduceMul, Nat.reduceLT, Nat.reduceLeDiff, Nat.reduceBEq, reduceCtorEq]
  (refine ⟨_, _, call_rx [0, 0] Try.func24 (runs_24 a b hal hbl) rfl rfl rfl rfl rfl rfl rfl (by simp [lendAll, lendC, seek, fresh, nav, rcells, RT.cells, VV.cells, tabE_cons, tabS_cons, ev, take_map_len, iRow_r1, iRow_clean]) rfl (by simp [rcells, RT.cells, CT.clean, T.clean, iRow_r1, iRow_clean]) rfl rfl, ?_⟩)
  simp only [runH, runX, go_sem, setCells, setIn, Int.reduceEq, Int.reduceLT, Int.reduceLE, Int.reduceNeg, Int.reduceSub, Int.reduceAdd, ge_iff_le, gt_iff_lt, ↓reduceIte, Nat.reduceEqDiff, Nat.reduceAdd, Nat.reduceMul, Nat.reduceLT, Nat.reduceLeDiff, Nat.reduceBEq, reduceCtorEq]
  (refine vw_go rfl ?_; simp only [go_sem, setCells, setIn, Int.reduceEq, Int.reduceLT, Int.reduceLE, Int.reduceNeg, Int.reduceSub, Int.reduceAdd, ge_iff_le, gt_iff_lt, ↓reduceIte, Nat.reduceEqDiff, Nat.reduceAdd, Nat.reduceMul, Nat.reduceLT, Nat.reduceLeDiff, Nat.reduceBEq, reduceCtorEq])
  (refine ⟨_, _, call_rx [0] Try.func19 (runs_19 a hl2) rfl rfl rfl rfl rfl rfl rfl (by simp [lendAll, lendC, seek, fresh, nav, rcells, RT.cells, VV.cells, tabE_cons, tabS_cons, ev, take_map_len, iRow_r1, iRow_clean]) rfl (by simp [rcells, RT.cells, CT.clean, T.clean, iRow_r1, iRow_clean]) rfl rfl, ?_⟩)
  simp only [runH, runX, go_sem, setCells, setIn, Int.reduceEq, Int.reduceLT, Int.reduceLE, Int.reduceNeg, Int.reduceSub, Int.reduceAdd, ge_iff_le, gt_iff_lt, ↓reduceIte, Nat.reduceEqDiff, Nat.reduceAdd, Nat.reduceMul, Nat.reduceLT, Nat.reduceLeDiff, Nat.reduceBEq, reduceCtorEq]
  (refine vw_go rfl ?_; simp only [go_sem, setCells, setIn, Int.reduceEq, Int.reduceLT, Int.reduceLE, Int.reduceNeg, Int.reduceSub, Int.reduceAdd, ge_iff_le, gt_iff_lt, ↓reduceIte, Nat.reduceEqDiff, Nat.reduceAdd, Nat.reduceMul, Nat.reduceLT, Nat.reduceLeDiff, Nat.reduceBEq, reduceCtorEq])
  (refine ⟨_, _, call_rx [0] Try.func19 (runs_19 b hl3) rfl rfl rfl rfl rfl rfl rfl (by simp [lendAll, lendC, seek, fresh, nav, rcells, RT.cells, VV.cells, tabE_cons, tabS_cons, ev, take_map_len, iRow_r1, iRow_clean]) rfl (by simp [rcells, RT.cells, CT.clean, T.clean, iRow_r1, iRow_clean]) rfl rfl, ?_⟩)
  simp only [runH, runX, go_sem, setCells, setIn, Int.reduceEq, Int.reduceLT, Int.reduceLE, Int.reduceNeg, Int.reduceSub, Int.reduceAdd, ge_iff_le, gt_iff_lt, ↓reduceIte, Nat.reduceEqDiff, Nat.reduceAdd, Nat.reduceMul, Nat.reduceLT, Nat.reduceLeDiff, Nat.reduceBEq, reduceCtorEq]
  (refine vw_go rfl ?_; simp only [go_sem, setCells, setIn, Int.reduceEq, Int.reduceLT, Int.reduceLE, Int.reduceNeg, Int.reduceSub, Int.reduceAdd, ge_iff_le, gt_iff_lt, ↓reduceIte, Nat.reduceEqDiff, Nat.reduceAdd, Nat.reduceMul, Nat.reduceLT, Nat.reduceLeDiff, Nat.reduceBEq, reduceCtorEq])
  (refine ⟨_, _, call_rx [0, 0] Try.func25 (runs_25 a b hal hbl) rfl rfl rfl rfl rfl rfl rfl (by simp [lendAll, lendC, seek, fresh, nav, rcells, RT.cells, VV.cells, tabE_cons, tabS_cons, ev, take_map_len, iRow_r1, iRow_clean]) rfl (by simp [rcells, RT.cells, CT.clean, T.clean, iRow_r1, iRow_clean]) rfl rfl, ?_⟩)
  simp only [runH, runX, go_sem, setCells, setIn, Int.reduceEq, Int.reduceLT, Int.reduceLE, Int.reduceNeg, Int.reduceSub, Int.reduceAdd, ge_iff_le, gt_iff_lt, ↓reduceIte, Nat.reduceEqDiff, Nat.reduceAdd, Nat.reduceMul, Nat.reduceLT, Nat.reduceLeDiff, Nat.reduceBEq, reduceCtorEq]
  refine vw_seq ?_
  (refine vw_go rfl ?_; simp only [go_sem, setCells, setIn, Int.reduceEq, Int.reduceLT, Int.reduceLE, Int.reduceNeg, Int.reduceSub, Int.reduceAdd, ge_iff_le, gt_iff_lt, ↓reduceIte, Nat.reduceEqDiff, Nat.reduceAdd, Nat.reduceMul, Nat.reduceLT, Nat.reduceLeDiff, Nat.reduceBEq, reduceCtorEq])
  refine vw_cond (t := false) rfl (fun h => ?_) (fun h => ?_)
  · cases h
  refine vw_skip (n_then ?_)
  refine vw_seq ?_
  (refine vw_go rfl ?_; simp only [go_sem, setCells, setIn, Int.reduceEq, Int.reduceLT, Int.reduceLE, Int.reduceNeg, Int.reduceSub, Int.reduceAdd, ge_iff_le, gt_iff_lt, ↓reduceIte, Nat.reduceEqDiff, Nat.reduceAdd, Nat.reduceMul, Nat.reduceLT, Nat.reduceLeDiff, Nat.reduceBEq, reduceCtorEq])
  (refine ⟨_, _, call_rx [0] Try.func19 (runs_19 a hl2) rfl rfl rfl rfl rfl rfl rfl (by simp [lendAll, lendC, seek, fresh, nav, rcells, RT.cells, VV.cells, tabE_cons, tabS_cons, ev, take_map_len, iRow_r1, iRow_clean]) rfl (by simp [rcells, RT.cells, CT.clean, T.clean, iRow_r1, iRow_clean]) rfl rfl, ?_⟩)
  simp only [runH, runX, go_sem, setCells, setIn, Int.reduceEq, Int.reduceLT, Int.reduceLE, Int.reduceNeg, Int.reduceSub, Int.reduceAdd, ge_iff_le, gt_iff_lt, ↓reduceIte, Nat.reduceEqDiff, Nat.reduceAdd, Nat.reduceMul, Nat.reduceLT, Nat.reduceLeDiff, Nat.reduceBEq, reduceCtorEq]
  (refine ⟨_, _, call_rx [0, 0] Try.func21 (runs_21 a a hal hal) rfl rfl rfl rfl rfl rfl rfl (by simp [lendAll, lendC, seek, fresh, nav, rcells, RT.cells, VV.cells, tabE_cons, tabS_cons, ev, take_map_len, iRow_r1, iRow_clean]) rfl (by simp [rcells, RT.cells, CT.clean, T.clean, iRow_r1, iRow_clean]) rfl rfl, ?_⟩)
  simp only [runH, runX, go_sem, setCells, setIn, Int.reduceEq, Int.reduceLT, Int.reduceLE, Int.reduceNeg, Int.reduceSub, Int.reduceAdd, ge_iff_le, gt_iff_lt, ↓reduceIte, Nat.reduceEqDiff, Nat.reduceAdd, Nat.reduceMul, Nat.reduceLT, Nat.reduceLeDiff, Nat.reduceBEq, reduceCtorEq]
  refine vw_cond (t := false) rfl (fun h => ?_) (fun h => ?_)
  · cases h
  refine vw_skip (n_then ?_)
  refine vw_seq ?_
  (refine vw_go rfl ?_; simp only [go_sem, setCells, setIn, Int.reduceEq, Int.reduceLT, Int.reduceLE, Int.reduceNeg, Int.reduceSub, Int.reduceAdd, ge_iff_le, gt_iff_lt, ↓reduceIte, Nat.reduceEqDiff, Nat.reduceAdd, Nat.reduceMul, Nat.reduceLT, Nat.reduceLeDiff, Nat.reduceBEq, reduceCtorEq])
  (refine ⟨_, _, call_rx [0] Try.func19 (runs_19 b hl3) rfl rfl rfl rfl rfl rfl rfl (by simp [lendAll, lendC, seek, fresh, nav, rcells, RT.cells, VV.cells, tabE_cons, tabS_cons, ev, take_map_len, iRow_r1, iRow_clean]) rfl (by simp [rcells, RT.cells, CT.clean, T.clean, iRow_r1, iRow_clean]) rfl rfl, ?_⟩)
  simp only [runH, runX, go_sem, setCells, setIn, Int.reduceEq, Int.reduceLT, Int.reduceLE, Int.reduceNeg, Int.reduceSub, Int.reduceAdd, ge_iff_le, gt_iff_lt, ↓reduceIte, Nat.reduceEqDiff, Nat.reduceAdd, Nat.reduceMul, Nat.reduceLT, Nat.reduceLeDiff, Nat.reduceBEq, reduceCtorEq]
  (refine ⟨_, _, call_rx [0, 0] Try.func21 (runs_21 b b hbl hbl) rfl rfl rfl rfl rfl rfl rfl (by simp [lendAll, lendC, seek, fresh, nav, rcells, RT.cells, VV.cells, tabE_cons, tabS_cons, ev, take_map_len, iRow_r1, iRow_clean]) rfl (by simp [rcells, RT.cells, CT.clean, T.clean, iRow_r1, iRow_clean]) rfl rfl, ?_⟩)
  simp only [runH, runX, go_sem, setCells, setIn, Int.reduceEq, Int.reduceLT, Int.reduceLE, Int.reduceNeg, Int.reduceSub, Int.reduceAdd, ge_iff_le, gt_iff_lt, ↓reduceIte, Nat.reduceEqDiff, Nat.reduceAdd, Nat.reduceMul, Nat.reduceLT, Nat.reduceLeDiff, Nat.reduceBEq, reduceCtorEq]
  refine vw_cond (t := false) rfl (fun h => ?_) (fun h => ?_)
  · cases h
  refine vw_skip (n_then ?_)
  (refine vw_go rfl ?_; simp only [go_sem, setCells, setIn, Int.reduceEq, Int.reduceLT, Int.reduceLE, Int.reduceNeg, Int.reduceSub, Int.reduceAdd, ge_iff_le, gt_iff_lt, ↓reduceIte, Nat.reduceEqDiff, Nat.reduceAdd, Nat.reduceMul, Nat.reduceLT, Nat.reduceLeDiff, Nat.reduceBEq, reduceCtorEq])
  exact vw_ret (e_ret (ret_of rfl rfl (by simp [RB]) rfl rfl))
end Go.Proofs.Ytcdgdiheoejjgaa
