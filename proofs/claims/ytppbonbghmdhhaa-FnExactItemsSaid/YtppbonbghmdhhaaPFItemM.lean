/- Marks of Item values: a slice marked, marks read again, a slice cloned. Printed by a program (mfun.py). -/
import Derived.Test.YtppbonbghmdhhaaPFMark
import Derived.Test.YtppbonbghmdhhaaPFItem
namespace Go.Proofs.Ytppbonbghmdhhaa
open Go.VM
set_option maxRecDepth 100000
set_option linter.unusedSimpArgs false
set_option linter.unusedVariables false
attribute [local congr] vw_congr runV_congr runH_congr runW_congr runX_congr

def mkItem (k : Int) (i : Nat) : List T := [.str (mt (k + 3 * (i : Int))), .bool (decide ((k + 3 * (i : Int) + 1).tmod 3 = 0)), .str (mt (k + 3 * (i : Int) + 1 + 1))]
def marksItem (k : Int) (n : Nat) : List (List T) := (List.range n).map (mkItem k)
theorem marksItem_len (k : Int) (n : Nat) : (marksItem k n).length = n := by simp [marksItem]
theorem marksItem_clean (k : Int) (n : Nat) : cleanRs (marksItem k n) = true := clean_map (fun x => rfl) _
theorem marksItem_ro (k : Int) (n : Nat) : (marksItem k n).map (List.map T.toRO) = marksItem k n := ro_map (fun x => by simp [mkItem]) _
theorem marksItem_take (k : Int) (n : Nat) : (marksItem k n).take n = marksItem k n := by rw [List.take_of_length_le (by simp [marksItem_len])]

theorem runs_17 (l : List It3) (k : Int) (hl : l.length ≤ 2 ^ 40) (h0 : 0 ≤ k) (h1 : k ≤ 2 ^ 60) :
    Runs Try.prog 17 [.one (.v (.list true 3 (l.map iRow))), .one (.v (.int .i64 k))] [.one (.v (.int .i64 (k + 3 * l.length)))] [(0, ⟨false, 3, marksItem k l.length, []⟩)] := by
  refine runs_tabB (tab := [(0, .al 0 [] 0 3 0 l.length), (1, .c (.int .i64 k))]) (rts := [(0, some ⟨false, 3, l.map iRow, []⟩)]) (n := 38) (k := 2) Try.func17 rfl rfl (by simp) rfl (fun t => ?_) rfl ?_
  · rcases t with _ | _ | t
    · simp [rvv, RT.vv, CT.vv, envOf, tabE_cons]
    · rfl
    · rfl
  (refine vw_go rfl ?_; simp only [go_sem, setCells, setIn, Int.reduceToNat, Int.reduceEq, Int.reduceLT, Int.reduceLE, Int.reduceNeg, Int.reduceSub, Int.reduceAdd, ge_iff_le, gt_iff_lt, ↓reduceIte, Nat.reduceEqDiff, Nat.reduceAdd, Nat.reduceMul, Nat.reduceLT, Nat.reduceLeDiff, Nat.reduceBEq, reduceCtorEq])
  refine vw_seq ?_
  (refine vw_go rfl ?_; simp only [go_sem, setCells, setIn, Int.reduceToNat, Int.reduceEq, Int.reduceLT, Int.reduceLE, Int.reduceNeg, Int.reduceSub, Int.reduceAdd, ge_iff_le, gt_iff_lt, ↓reduceIte, Nat.reduceEqDiff, Nat.reduceAdd, Nat.reduceMul, Nat.reduceLT, Nat.reduceLeDiff, Nat.reduceBEq, reduceCtorEq])
  refine vw_block ?_
  refine vw_loop_tab (α := Nat) (fun x => l.length - x) (fun x => ⟨tabE [(0, .al 0 [] 0 3 0 l.length), (1, .c (.int .i64 (k + 3 * (x : Int)))), (5, .c (.int .i64 x))], tabS [(0, some ⟨false, 3, rowsW (mkItem k) (l.map iRow) x, []⟩)], 2⟩)
    (fun x => x ≤ l.length) (x := 0) ?round ?h0 ?hn
  case h0 => exact Nat.zero_le _
  case hn =>
    (refine norm_to [(0, 0)] rfl ?_ ?_ <;> simp only [go_sem, Int.reduceToNat, Int.reduceEq, Int.reduceLT, Int.reduceLE, Int.reduceNeg, Int.reduceSub, Int.reduceAdd, ge_iff_le, gt_iff_lt, ↓reduceIte, Nat.reduceEqDiff, Nat.reduceAdd, Nat.reduceMul, Nat.reduceLT, Nat.reduceLeDiff, Nat.reduceBEq, reduceCtorEq])
    · simp
    · simp [rowsW_zero]
  intro i hi
  refine vw_seq ?_
  (refine vw_go rfl ?_; simp only [go_sem, setCells, setIn, Int.reduceToNat, Int.reduceEq, Int.reduceLT, Int.reduceLE, Int.reduceNeg, Int.reduceSub, Int.reduceAdd, ge_iff_le, gt_iff_lt, ↓reduceIte, Nat.reduceEqDiff, Nat.reduceAdd, Nat.reduceMul, Nat.reduceLT, Nat.reduceLeDiff, Nat.reduceBEq, reduceCtorEq])
  refine vw_cond (t := decide ((i : Int) < l.length)) rfl (fun h => ?_) (fun h => ?_)
  · refine vw_skip (n_then ?_)
    rcases get_or l i with ⟨x, hx, hlt⟩ | ⟨_, hge⟩
    case inr => simp only [decide_eq_true_eq] at h; omega
    have c1 : (0:Int) ≤ (i:Int) := by omega
    have c2 : (i:Int) < (l.length : Int) := by omega
    have hx' : (l.map iRow)[i]? = some (iRow x) := by rw [List.getElem?_map, hx]; rfl
    have hll : (l.map iRow).length = l.length := by simp
    have e1 : (rowsW (mkItem k) (l.map iRow) i).length = l.length := by rw [rowsW_len (by omega), hll]
    have g0 : (rowsW (mkItem k) (l.map iRow) i).getD i [] = [.str x.1, .bool x.2.1, .str x.2.2] := rowsW_get hx'
    have g1 : ((rowsW (mkItem k) (l.map iRow) i).set i [.str (mt (k + 3 * (i : Int))), .bool x.2.1, .str x.2.2]).getD i [] = [.str (mt (k + 3 * (i : Int))), .bool x.2.1, .str x.2.2] := getD_set_self (by omega)
    have g2 : ((rowsW (mkItem k) (l.map iRow) i).set i [.str (mt (k + 3 * (i : Int))), .bool (decide ((k + 3 * (i : Int) + 1).tmod 3 = 0)), .str x.2.2]).getD i [] = [.str (mt (k + 3 * (i : Int))), .bool (decide ((k + 3 * (i : Int) + 1).tmod 3 = 0)), .str x.2.2] := getD_set_self (by omega)
    have eF : (rowsW (mkItem k) (l.map iRow) i).set i [.str (mt (k + 3 * (i : Int))), .bool (decide ((k + 3 * (i : Int) + 1).tmod 3 = 0)), .str (mt (k + 3 * (i : Int) + 1 + 1))] = rowsW (mkItem k) (l.map iRow) (i + 1) := rowsW_set (by omega) rfl
    have w0 : IntKind.wrap .i64 (k + 3 * (i : Int) + 1) = k + 3 * (i : Int) + 1 := wrap_i64 (by omega) (by omega)
    have w1 : IntKind.wrap .i64 (k + 3 * (i : Int) + 1 + 1) = k + 3 * (i : Int) + 1 + 1 := wrap_i64 (by omega) (by omega)
    have w2 : IntKind.wrap .i64 (k + 3 * (i : Int) + 1 + 1 + 1) = k + 3 * ((i + 1 : Nat) : Int) := by rw [wrap_i64 (by omega) (by omega)]; omega
    refine vw_seq ?_
    refine vw_block ?_
    (refine vw_go rfl ?_; simp only [c1, c2, Int.toNat_natCast, go_sem, setCells, setIn, Int.reduceToNat, Int.reduceEq, Int.reduceLT, Int.reduceLE, Int.reduceNeg, Int.reduceSub, Int.reduceAdd, ge_iff_le, gt_iff_lt, ↓reduceIte, Nat.reduceEqDiff, Nat.reduceAdd, Nat.reduceMul, Nat.reduceLT, Nat.reduceLeDiff, Nat.reduceBEq, reduceCtorEq])
    (refine ⟨_, _, call_rd [0] Try.func77 (runs_77 (k + 3 * (i : Int)) (by omega) (by omega)) rfl rfl rfl rfl rfl rfl rfl rfl rfl rfl rfl rfl rfl, ?_⟩)
    simp only [runH, runX, c1, c2, Int.toNat_natCast, List.length_set, List.set_set, e1, g0, hlt, go_sem, setCells, setIn, Int.reduceToNat, Int.reduceEq, Int.reduceLT, Int.reduceLE, Int.reduceNeg, Int.reduceSub, Int.reduceAdd, ge_iff_le, gt_iff_lt, ↓reduceIte, Nat.reduceEqDiff, Nat.reduceAdd, Nat.reduceMul, Nat.reduceLT, Nat.reduceLeDiff, Nat.reduceBEq, reduceCtorEq]
    (refine vw_go rfl ?_; simp only [w0, go_sem, setCells, setIn, Int.reduceToNat, Int.reduceEq, Int.reduceLT, Int.reduceLE, Int.reduceNeg, Int.reduceSub, Int.reduceAdd, ge_iff_le, gt_iff_lt, ↓reduceIte, Nat.reduceEqDiff, Nat.reduceAdd, Nat.reduceMul, Nat.reduceLT, Nat.reduceLeDiff, Nat.reduceBEq, reduceCtorEq])
    (refine vw_go rfl ?_; simp only [c1, c2, Int.toNat_natCast, List.length_set, List.set_set, e1, g1, hlt, go_sem, setCells, setIn, Int.reduceToNat, Int.reduceEq, Int.reduceLT, Int.reduceLE, Int.reduceNeg, Int.reduceSub, Int.reduceAdd, ge_iff_le, gt_iff_lt, ↓reduceIte, Nat.reduceEqDiff, Nat.reduceAdd, Nat.reduceMul, Nat.reduceLT, Nat.reduceLeDiff, Nat.reduceBEq, reduceCtorEq])
    (refine vw_go rfl ?_; simp only [w1, go_sem, setCells, setIn, Int.reduceToNat, Int.reduceEq, Int.reduceLT, Int.reduceLE, Int.reduceNeg, Int.reduceSub, Int.reduceAdd, ge_iff_le, gt_iff_lt, ↓reduceIte, Nat.reduceEqDiff, Nat.reduceAdd, Nat.reduceMul, Nat.reduceLT, Nat.reduceLeDiff, Nat.reduceBEq, reduceCtorEq])
    (refine vw_go rfl ?_; simp only [c1, c2, Int.toNat_natCast, go_sem, setCells, setIn, Int.reduceToNat, Int.reduceEq, Int.reduceLT, Int.reduceLE, Int.reduceNeg, Int.reduceSub, Int.reduceAdd, ge_iff_le, gt_iff_lt, ↓reduceIte, Nat.reduceEqDiff, Nat.reduceAdd, Nat.reduceMul, Nat.reduceLT, Nat.reduceLeDiff, Nat.reduceBEq, reduceCtorEq])
    (refine ⟨_, _, call_rd [0] Try.func77 (runs_77 (k + 3 * (i : Int) + 1 + 1) (by omega) (by omega)) rfl rfl rfl rfl rfl rfl rfl rfl rfl rfl rfl rfl rfl, ?_⟩)
    simp only [runH, runX, c1, c2, Int.toNat_natCast, List.length_set, List.set_set, e1, g2, hlt, eF, go_sem, setCells, setIn, Int.reduceToNat, Int.reduceEq, Int.reduceLT, Int.reduceLE, Int.reduceNeg, Int.reduceSub, Int.reduceAdd, ge_iff_le, gt_iff_lt, ↓reduceIte, Nat.reduceEqDiff, Nat.reduceAdd, Nat.reduceMul, Nat.reduceLT, Nat.reduceLeDiff, Nat.reduceBEq, reduceCtorEq]
    (refine vw_last rfl ?_; simp only [w2, go_sem, setCells, setIn, Int.reduceToNat, Int.reduceEq, Int.reduceLT, Int.reduceLE, Int.reduceNeg, Int.reduceSub, Int.reduceAdd, ge_iff_le, gt_iff_lt, ↓reduceIte, Nat.reduceEqDiff, Nat.reduceAdd, Nat.reduceMul, Nat.reduceLT, Nat.reduceLeDiff, Nat.reduceBEq, reduceCtorEq])
    refine (n_block (n_then ?_))
    have wi : IntKind.wrap .i64 ((i:Int) + 1) = ((i + 1 : Nat) : Int) := by rw [wrap_i64 (by omega) (by omega)]; rfl
    (refine vw_last rfl ?_; simp only [wi, go_sem, setCells, setIn, Int.reduceToNat, Int.reduceEq, Int.reduceLT, Int.reduceLE, Int.reduceNeg, Int.reduceSub, Int.reduceAdd, ge_iff_le, gt_iff_lt, ↓reduceIte, Nat.reduceEqDiff, Nat.reduceAdd, Nat.reduceMul, Nat.reduceLT, Nat.reduceLeDiff, Nat.reduceBEq, reduceCtorEq])
    refine (n_then ?_)
    refine ⟨i + 1, by omega, hlt, ?_⟩
    (refine norm_to [(0, 0)] rfl ?_ ?_ <;> simp only [go_sem, Int.reduceToNat, Int.reduceEq, Int.reduceLT, Int.reduceLE, Int.reduceNeg, Int.reduceSub, Int.reduceAdd, ge_iff_le, gt_iff_lt, ↓reduceIte, Nat.reduceEqDiff, Nat.reduceAdd, Nat.reduceMul, Nat.reduceLT, Nat.reduceLeDiff, Nat.reduceBEq, reduceCtorEq])
  · refine vw_exit (x_then (x_then (x_block (n_then ?_))))
    (refine vw_go rfl ?_; simp only [go_sem, setCells, setIn, Int.reduceToNat, Int.reduceEq, Int.reduceLT, Int.reduceLE, Int.reduceNeg, Int.reduceSub, Int.reduceAdd, ge_iff_le, gt_iff_lt, ↓reduceIte, Nat.reduceEqDiff, Nat.reduceAdd, Nat.reduceMul, Nat.reduceLT, Nat.reduceLeDiff, Nat.reduceBEq, reduceCtorEq])
    simp only [decide_eq_false_iff_not] at h
    have : i = l.length := by omega
    subst this
    refine vw_ret (e_ret (ret_b rfl rfl (by simp [RB]) rfl rfl ⟨⟨by simp, _, rfl, rfl, rfl, ?_⟩, trivial⟩))
    have hll : (l.map iRow).length = l.length := by simp
    show rowsW (mkItem k) (l.map iRow) l.length = _
    rw [← hll, rowsW_end, hll]; rfl

theorem runs_18 (k : Int) (n : Nat) (hn : n ≤ 2 ^ 40) (h0 : 0 ≤ k) (h1 : k ≤ 2 ^ 60) :
    Runs Try.prog 18 [.one (.v (.list false 3 (marksItem k n))), .one (.v (.int .i64 k))] [.one (.v (.int .i64 (k + 3 * n)))] [] := by
  refine runs_tab (tab := [(0, .c (.list false 3 (marksItem k n))), (1, .c (.int .i64 k))]) (rts := []) (n := 44) (k := 2) Try.func18 rfl rfl (by simp) rfl (fun t => ?_) rfl ?_
  · rcases t with _ | _ | t <;> rfl
  have hml := marksItem_len k n
  (refine vw_go rfl ?_; simp only [go_sem, setCells, setIn, Int.reduceToNat, Int.reduceEq, Int.reduceLT, Int.reduceLE, Int.reduceNeg, Int.reduceSub, Int.reduceAdd, ge_iff_le, gt_iff_lt, ↓reduceIte, Nat.reduceEqDiff, Nat.reduceAdd, Nat.reduceMul, Nat.reduceLT, Nat.reduceLeDiff, Nat.reduceBEq, reduceCtorEq])
  refine vw_seq ?_
  (refine vw_go rfl ?_; simp only [go_sem, setCells, setIn, Int.reduceToNat, Int.reduceEq, Int.reduceLT, Int.reduceLE, Int.reduceNeg, Int.reduceSub, Int.reduceAdd, ge_iff_le, gt_iff_lt, ↓reduceIte, Nat.reduceEqDiff, Nat.reduceAdd, Nat.reduceMul, Nat.reduceLT, Nat.reduceLeDiff, Nat.reduceBEq, reduceCtorEq])
  refine vw_block ?_
  refine vw_loop_tab (α := Nat) (fun x => n - x) (fun x => ⟨tabE [(0, .c (.list false 3 (marksItem k n))), (1, .c (.int .i64 (k + 3 * (x : Int)))), (5, .c (.int .i64 x))], tabS [], 2⟩)
    (fun x => x ≤ n) (x := 0) ?round ?h0 ?hn
  case h0 => exact Nat.zero_le _
  case hn =>
    (refine norm_to [] rfl ?_ ?_ <;> simp only [go_sem, Int.reduceToNat, Int.reduceEq, Int.reduceLT, Int.reduceLE, Int.reduceNeg, Int.reduceSub, Int.reduceAdd, ge_iff_le, gt_iff_lt, ↓reduceIte, Nat.reduceEqDiff, Nat.reduceAdd, Nat.reduceMul, Nat.reduceLT, Nat.reduceLeDiff, Nat.reduceBEq, reduceCtorEq])
    simp
  intro i hi
  refine vw_seq ?_
  (refine vw_go rfl ?_; simp only [hml, go_sem, setCells, setIn, Int.reduceToNat, Int.reduceEq, Int.reduceLT, Int.reduceLE, Int.reduceNeg, Int.reduceSub, Int.reduceAdd, ge_iff_le, gt_iff_lt, ↓reduceIte, Nat.reduceEqDiff, Nat.reduceAdd, Nat.reduceMul, Nat.reduceLT, Nat.reduceLeDiff, Nat.reduceBEq, reduceCtorEq])
  refine vw_cond (t := decide ((i : Int) < n)) rfl (fun h => ?_) (fun h => ?_)
  · refine vw_skip (n_then ?_)
    simp only [decide_eq_true_eq] at h
    have hlt : i < n := by omega
    have hlo := h
    have hx : (marksItem k n).getD i [] = [.str (mt (k + 3 * (i : Int))), .bool (decide ((k + 3 * (i : Int) + 1).tmod 3 = 0)), .str (mt (k + 3 * (i : Int) + 1 + 1))] := by
      rw [List.getD_eq_getElem?_getD]
      simp [marksItem, List.getElem?_range hlt, mkItem]
    have c1 : (0:Int) ≤ (i:Int) := by omega
    have w0 : IntKind.wrap .i64 (k + 3 * (i : Int) + 1) = k + 3 * (i : Int) + 1 := wrap_i64 (by omega) (by omega)
    have w1 : IntKind.wrap .i64 (k + 3 * (i : Int) + 1 + 1) = k + 3 * (i : Int) + 1 + 1 := wrap_i64 (by omega) (by omega)
    have w2 : IntKind.wrap .i64 (k + 3 * (i : Int) + 1 + 1 + 1) = k + 3 * ((i + 1 : Nat) : Int) := by rw [wrap_i64 (by omega) (by omega)]; omega
    refine vw_seq ?_
    refine vw_block ?_
    refine vw_seq ?_
    (refine vw_draw mixed rfl rfl ?_; simp only [c1, hlo, hml, Int.toNat_natCast, hx, go_sem, setCells, setIn, Int.reduceToNat, Int.reduceEq, Int.reduceLT, Int.reduceLE, Int.reduceNeg, Int.reduceSub, Int.reduceAdd, ge_iff_le, gt_iff_lt, ↓reduceIte, Nat.reduceEqDiff, Nat.reduceAdd, Nat.reduceMul, Nat.reduceLT, Nat.reduceLeDiff, Nat.reduceBEq, reduceCtorEq])
    (refine ⟨_, _, _, call_rd_at [0] [] Try.func77 (runs_77 (k + 3 * (i : Int)) (by omega) (by omega)) (fun _ _ => rfl) rfl rfl rfl rfl rfl rfl rfl rfl rfl rfl rfl rfl, ?_⟩)
    simp only [runH, runX, go_sem, setCells, setIn, Int.reduceToNat, Int.reduceEq, Int.reduceLT, Int.reduceLE, Int.reduceNeg, Int.reduceSub, Int.reduceAdd, ge_iff_le, gt_iff_lt, ↓reduceIte, Nat.reduceEqDiff, Nat.reduceAdd, Nat.reduceMul, Nat.reduceLT, Nat.reduceLeDiff, Nat.reduceBEq, reduceCtorEq]
    refine ⟨by unfold allOk; kernel_rfl, ?_⟩
    refine vw_cond (t := false) rfl (fun h => ?_) (fun h => ?_)
    · cases h
    refine vw_skip (n_then ?_)
    (refine vw_go rfl ?_; simp only [w0, go_sem, setCells, setIn, Int.reduceToNat, Int.reduceEq, Int.reduceLT, Int.reduceLE, Int.reduceNeg, Int.reduceSub, Int.reduceAdd, ge_iff_le, gt_iff_lt, ↓reduceIte, Nat.reduceEqDiff, Nat.reduceAdd, Nat.reduceMul, Nat.reduceLT, Nat.reduceLeDiff, Nat.reduceBEq, reduceCtorEq])
    refine vw_seq ?_
    (refine vw_go rfl ?_; simp only [c1, hlo, hml, Int.toNat_natCast, hx, go_sem, setCells, setIn, Int.reduceToNat, Int.reduceEq, Int.reduceLT, Int.reduceLE, Int.reduceNeg, Int.reduceSub, Int.reduceAdd, ge_iff_le, gt_iff_lt, ↓reduceIte, Nat.reduceEqDiff, Nat.reduceAdd, Nat.reduceMul, Nat.reduceLT, Nat.reduceLeDiff, Nat.reduceBEq, reduceCtorEq])
    refine vw_cond (t := false) rfl (fun h => ?_) (fun h => ?_)
    · cases h
    refine vw_skip (n_then ?_)
    (refine vw_go rfl ?_; simp only [w1, go_sem, setCells, setIn, Int.reduceToNat, Int.reduceEq, Int.reduceLT, Int.reduceLE, Int.reduceNeg, Int.reduceSub, Int.reduceAdd, ge_iff_le, gt_iff_lt, ↓reduceIte, Nat.reduceEqDiff, Nat.reduceAdd, Nat.reduceMul, Nat.reduceLT, Nat.reduceLeDiff, Nat.reduceBEq, reduceCtorEq])
    refine vw_seq ?_
    (refine vw_draw mixed rfl rfl ?_; simp only [c1, hlo, hml, Int.toNat_natCast, hx, go_sem, setCells, setIn, Int.reduceToNat, Int.reduceEq, Int.reduceLT, Int.reduceLE, Int.reduceNeg, Int.reduceSub, Int.reduceAdd, ge_iff_le, gt_iff_lt, ↓reduceIte, Nat.reduceEqDiff, Nat.reduceAdd, Nat.reduceMul, Nat.reduceLT, Nat.reduceLeDiff, Nat.reduceBEq, reduceCtorEq])
    (refine ⟨_, _, _, call_rd_at [0] [] Try.func77 (runs_77 (k + 3 * (i : Int) + 1 + 1) (by omega) (by omega)) (fun _ _ => rfl) rfl rfl rfl rfl rfl rfl rfl rfl rfl rfl rfl rfl, ?_⟩)
    simp only [runH, runX, go_sem, setCells, setIn, Int.reduceToNat, Int.reduceEq, Int.reduceLT, Int.reduceLE, Int.reduceNeg, Int.reduceSub, Int.reduceAdd, ge_iff_le, gt_iff_lt, ↓reduceIte, Nat.reduceEqDiff, Nat.reduceAdd, Nat.reduceMul, Nat.reduceLT, Nat.reduceLeDiff, Nat.reduceBEq, reduceCtorEq]
    refine ⟨by unfold allOk; kernel_rfl, ?_⟩
    refine vw_cond (t := false) rfl (fun h => ?_) (fun h => ?_)
    · cases h
    refine vw_skip (n_then ?_)
    (refine vw_last rfl ?_; simp only [w2, go_sem, setCells, setIn, Int.reduceToNat, Int.reduceEq, Int.reduceLT, Int.reduceLE, Int.reduceNeg, Int.reduceSub, Int.reduceAdd, ge_iff_le, gt_iff_lt, ↓reduceIte, Nat.reduceEqDiff, Nat.reduceAdd, Nat.reduceMul, Nat.reduceLT, Nat.reduceLeDiff, Nat.reduceBEq, reduceCtorEq])
    refine (n_block (n_then ?_))
    have wi : IntKind.wrap .i64 ((i:Int) + 1) = ((i + 1 : Nat) : Int) := by rw [wrap_i64 (by omega) (by omega)]; rfl
    (refine vw_last rfl ?_; simp only [wi, go_sem, setCells, setIn, Int.reduceToNat, Int.reduceEq, Int.reduceLT, Int.reduceLE, Int.reduceNeg, Int.reduceSub, Int.reduceAdd, ge_iff_le, gt_iff_lt, ↓reduceIte, Nat.reduceEqDiff, Nat.reduceAdd, Nat.reduceMul, Nat.reduceLT, Nat.reduceLeDiff, Nat.reduceBEq, reduceCtorEq])
    refine (n_then ?_)
    refine ⟨i + 1, by omega, hlt, ?_⟩
    (refine norm_to [] rfl ?_ ?_ <;> simp only [go_sem, Int.reduceToNat, Int.reduceEq, Int.reduceLT, Int.reduceLE, Int.reduceNeg, Int.reduceSub, Int.reduceAdd, ge_iff_le, gt_iff_lt, ↓reduceIte, Nat.reduceEqDiff, Nat.reduceAdd, Nat.reduceMul, Nat.reduceLT, Nat.reduceLeDiff, Nat.reduceBEq, reduceCtorEq])
  · refine vw_exit (x_then (x_then (x_block (n_then ?_))))
    (refine vw_go rfl ?_; simp only [go_sem, setCells, setIn, Int.reduceToNat, Int.reduceEq, Int.reduceLT, Int.reduceLE, Int.reduceNeg, Int.reduceSub, Int.reduceAdd, ge_iff_le, gt_iff_lt, ↓reduceIte, Nat.reduceEqDiff, Nat.reduceAdd, Nat.reduceMul, Nat.reduceLT, Nat.reduceLeDiff, Nat.reduceBEq, reduceCtorEq])
    simp only [decide_eq_false_iff_not] at h
    have : i = n := by omega
    subst this
    exact vw_ret (e_ret (ret_of rfl rfl (by simp [RB]) rfl rfl))

end Go.Proofs.Ytppbonbghmdhhaa
