/- Done of both, marks of puts, and the law of Done. -/
import Derived.Test.YtcdgdiheoejjgaaFMark
import Derived.Test.YtcdgdiheoejjgaaFIn
import Derived.Test.YtcdgdiheoejjgaaFPut
namespace Go.Proofs.Ytcdgdiheoejjgaa
open Go.VM
set_option maxRecDepth 100000
set_option linter.unusedSimpArgs false
set_option linter.unusedVariables false
attribute [local congr] vw_congr runV_congr runH_congr runW_congr runX_congr

def mkPut (k : Int) (j : Nat) : List T := [.int .i64 (k + 2 * (j : Int)), .str (mt (k + 2 * (j : Int) + 1))]
theorem mkPut_clean (k : Int) (n : Nat) : cleanRs ((List.range n).map (mkPut k)) = true := clean_map (fun x => rfl) _

theorem runs_40 (l : List PutV) (k : Int) (hl : l.length ≤ 2 ^ 40) (h0 : 0 ≤ k) (h1 : k ≤ 2 ^ 60) :
    Runs Try.prog 40 [.one (.v (.list true 2 (l.map putRow))), .one (.v (.int .i64 k))] [.one (.v (.int .i64 (k + 2 * l.length)))] [(0, ⟨false, 2, (List.range l.length).map (mkPut k), []⟩)] := by
  refine runs_tabB (tab := [(0, .al 0 [] 0 2 0 l.length), (1, .c (.int .i64 k))]) (rts := [(0, some ⟨false, 2, l.map putRow, []⟩)]) (n := 28) (k := 2) Try.func40 rfl rfl (by simp) rfl (fun t => ?_) rfl ?_
  · rcases t with _ | _ | t
    · simp [rvv, RT.vv, CT.vv, envOf, tabE_cons]
    · rfl
    · rfl
  (refine vw_go rfl ?_; simp only [go_sem, setCells, setIn, Int.reduceEq, Int.reduceLT, Int.reduceLE, Int.reduceNeg, Int.reduceSub, Int.reduceAdd, ge_iff_le, gt_iff_lt, ↓reduceIte, Nat.reduceEqDiff, Nat.reduceAdd, Nat.reduceMul, Nat.reduceLT, Nat.reduceLeDiff, Nat.reduceBEq, reduceCtorEq])
  refine vw_seq ?_
  (refine vw_go rfl ?_; simp only [go_sem, setCells, setIn, Int.reduceEq, Int.reduceLT, Int.reduceLE, Int.reduceNeg, Int.reduceSub, Int.reduceAdd, ge_iff_le, gt_iff_lt, ↓reduceIte, Nat.reduceEqDiff, Nat.reduceAdd, Nat.reduceMul, Nat.reduceLT, Nat.reduceLeDiff, Nat.reduceBEq, reduceCtorEq])
  refine vw_block ?_
  refine vw_loop_tab (α := Nat) (fun x => l.length - x) (fun x => ⟨tabE [(0, .al 0 [] 0 2 0 l.length), (1, .c (.int .i64 (k + 2 * (x : Int)))), (5, .c (.int .i64 x))], tabS [(0, some ⟨false, 2, rowsW (mkPut k) (l.map putRow) x, []⟩)], 2⟩)
    (fun x => x ≤ l.length) (x := 0) ?round ?h0 ?hn
  case h0 => exact Nat.zero_le _
  case hn =>
    (refine norm_to [(0, 0)] rfl ?_ ?_ <;> simp only [go_sem, Int.reduceEq, Int.reduceLT, Int.reduceLE, Int.reduceNeg, Int.reduceSub, Int.reduceAdd, ge_iff_le, gt_iff_lt, ↓reduceIte, Nat.reduceEqDiff, Nat.reduceAdd, Nat.reduceMul, Nat.reduceLT, Nat.reduceLeDiff, Nat.reduceBEq, reduceCtorEq])
    · simp
    · simp [rowsW_zero]
  intro i hi
  refine vw_seq ?_
  (refine vw_go rfl ?_; simp only [go_sem, setCells, setIn, Int.reduceEq, Int.reduceLT, Int.reduceLE, Int.reduceNeg, Int.reduceSub, Int.reduceAdd, ge_iff_le, gt_iff_lt, ↓reduceIte, Nat.reduceEqDiff, Nat.reduceAdd, Nat.reduceMul, Nat.reduceLT, Nat.reduceLeDiff, Nat.reduceBEq, reduceCtorEq])
  refine vw_cond (t := decide ((i : Int) < l.length)) rfl (fun h => ?_) (fun h => ?_)
  · refine vw_skip (n_then ?_)
    rcases get_or l i with ⟨x, hx, hlt⟩ | ⟨_, hge⟩
    case inr => simp only [decide_eq_true_eq] at h; omega
    have c1 : (0:Int) ≤ (i:Int) := by omega
    have c2 : (i:Int) < (l.length : Int) := by omega
    have hx' : (l.map putRow)[i]? = some (putRow x) := by rw [List.getElem?_map, hx]; rfl
    have hll : (l.map putRow).length = l.length := by simp
    have e1 : (rowsW (mkPut k) (l.map putRow) i).length = l.length := by rw [rowsW_len (by omega), hll]
    have e2 : (rowsW (mkPut k) (l.map putRow) i).getD i [] = [.int .i64 x.sector, .str x.data] := rowsW_get hx'
    have e4 : ((rowsW (mkPut k) (l.map putRow) i).set i [.int .i64 (k + 2 * (i : Int)), .str x.data]).getD i [] = [.int .i64 (k + 2 * (i : Int)), .str x.data] := getD_set_self (by omega)
    have e3 : ((rowsW (mkPut k) (l.map putRow) i).set i [.int .i64 (k + 2 * (i : Int)), .str x.data]).set i [.int .i64 (k + 2 * (i : Int)), .str (mt (k + 2 * (i : Int) + 1))] = rowsW (mkPut k) (l.map putRow) (i + 1) := by
      rw [List.set_set]; exact rowsW_set (by omega) rfl
    have w3 : IntKind.wrap .i64 (k + 2 * (i:Int) + 1) = k + 2 * (i:Int) + 1 := wrap_i64 (by omega) (by omega)
    have w4 : IntKind.wrap .i64 (k + 2 * (i:Int) + 1 + 1) = k + 2 * ((i + 1 : Nat) : Int) := by rw [wrap_i64 (by omega) (by omega)]; omega
    refine vw_seq ?_
    refine vw_block ?_
    (refine vw_go rfl ?_; simp only [c1, c2, Int.toNat_natCast, e1, e2, hlt, go_sem, setCells, setIn, Int.reduceEq, Int.reduceLT, Int.reduceLE, Int.reduceNeg, Int.reduceSub, Int.reduceAdd, ge_iff_le, gt_iff_lt, ↓reduceIte, Nat.reduceEqDiff, Nat.reduceAdd, Nat.reduceMul, Nat.reduceLT, Nat.reduceLeDiff, Nat.reduceBEq, reduceCtorEq])
    (refine vw_go rfl ?_; simp only [w3, go_sem, setCells, setIn, Int.reduceEq, Int.reduceLT, Int.reduceLE, Int.reduceNeg, Int.reduceSub, Int.reduceAdd, ge_iff_le, gt_iff_lt, ↓reduceIte, Nat.reduceEqDiff, Nat.reduceAdd, Nat.reduceMul, Nat.reduceLT, Nat.reduceLeDiff, Nat.reduceBEq, reduceCtorEq])
    (refine vw_go rfl ?_; simp only [go_sem, setCells, setIn, Int.reduceEq, Int.reduceLT, Int.reduceLE, Int.reduceNeg, Int.reduceSub, Int.reduceAdd, ge_iff_le, gt_iff_lt, ↓reduceIte, Nat.reduceEqDiff, Nat.reduceAdd, Nat.reduceMul, Nat.reduceLT, Nat.reduceLeDiff, Nat.reduceBEq, reduceCtorEq])
    (refine ⟨_, _, call_rd [0] Try.func88 (runs_88 (k + 2 * (i : Int) + 1) (by omega) (by omega)) rfl rfl rfl rfl rfl rfl rfl rfl rfl rfl rfl rfl rfl, ?_⟩)
    simp only [runH, runX, c1, c2, Int.toNat_natCast, List.length_set, e1, e4, e3, hlt, go_sem, setCells, setIn, Int.reduceEq, Int.reduceLT, Int.reduceLE, Int.reduceNeg, Int.reduceSub, Int.reduceAdd, ge_iff_le, gt_iff_lt, ↓reduceIte, Nat.reduceEqDiff, Nat.reduceAdd, Nat.reduceMul, Nat.reduceLT, Nat.reduceLeDiff, Nat.reduceBEq, reduceCtorEq]
    (refine vw_last rfl ?_; simp only [w4, go_sem, setCells, setIn, Int.reduceEq, Int.reduceLT, Int.reduceLE, Int.reduceNeg, Int.reduceSub, Int.reduceAdd, ge_iff_le, gt_iff_lt, ↓reduceIte, Nat.reduceEqDiff, Nat.reduceAdd, Nat.reduceMul, Nat.reduceLT, Nat.reduceLeDiff, Nat.reduceBEq, reduceCtorEq])
    refine (n_block (n_then ?_))
    have w2 : IntKind.wrap .i64 ((i:Int) + 1) = ((i + 1 : Nat) : Int) := by rw [wrap_i64 (by omega) (by omega)]; rfl
    (refine vw_last rfl ?_; simp only [w2, go_sem, setCells, setIn, Int.reduceEq, Int.reduceLT, Int.reduceLE, Int.reduceNeg, Int.reduceSub, Int.reduceAdd, ge_iff_le, gt_iff_lt, ↓reduceIte, Nat.reduceEqDiff, Nat.reduceAdd, Nat.reduceMul, Nat.reduceLT, Nat.reduceLeDiff, Nat.reduceBEq, reduceCtorEq])
    refine (n_then ?_)
    refine ⟨i + 1, by omega, hlt, ?_⟩
    (refine norm_to [(0, 0)] rfl ?_ ?_ <;> simp only [go_sem, Int.reduceEq, Int.reduceLT, Int.reduceLE, Int.reduceNeg, Int.reduceSub, Int.reduceAdd, ge_iff_le, gt_iff_lt, ↓reduceIte, Nat.reduceEqDiff, Nat.reduceAdd, Nat.reduceMul, Nat.reduceLT, Nat.reduceLeDiff, Nat.reduceBEq, reduceCtorEq])
  · refine vw_exit (x_then (x_then (x_block (n_then ?_))))
    (refine vw_go rfl ?_; simp only [go_sem, setCells, setIn, Int.reduceEq, Int.reduceLT, Int.reduceLE, Int.reduceNeg, Int.reduceSub, Int.reduceAdd, ge_iff_le, gt_iff_lt, ↓reduceIte, Nat.reduceEqDiff, Nat.reduceAdd, Nat.reduceMul, Nat.reduceLT, Nat.reduceLeDiff, Nat.reduceBEq, reduceCtorEq])
    simp only [decide_eq_false_iff_not] at h
    have : i = l.length := by omega
    subst this
    refine vw_ret (e_ret (ret_b rfl rfl (by simp [RB]) rfl rfl ⟨⟨by simp, _, rfl, rfl, rfl, ?_⟩, trivial⟩))
    have hll : (l.map putRow).length = l.length := by simp
    show rowsW (mkPut k) (l.map putRow) l.length = _
    rw [← hll, rowsW_end, hll]

def doneL : List ByteArray → List PutV → List ByteArray
  | l, [] => l
  | l, p :: ps => doneL (if inB p.sector 0 ((l.length : Int) - 1) then l.set p.sector.toNat p.data else l) ps
theorem doneL_len : ∀ (ps : List PutV) (l : List ByteArray), (doneL l ps).length = l.length
  | [], l => rfl
  | p :: ps, l => by
    simp only [doneL]
    rw [doneL_len ps]
    split <;> simp

theorem runs_33 (l : List ByteArray) (ps : List PutV) (hl : l.length ≤ 2 ^ 20) (hp : ps.length < 2 ^ 63) :
    Runs Try.prog 33 [.one (.v (.list false 1 (l.map sRow))), .one (.v (.list false 2 (ps.map putRow)))] [.one (.v (.list true 1 ((doneL l ps).map sRow)))] [] := by
  refine runs_tab (tab := [(0, .c (.list false 1 (l.map sRow))), (1, .c (.list false 2 (ps.map putRow)))]) (rts := []) (n := 38) (k := 2) Try.func33 rfl rfl (by simp) rfl (fun t => ?_) rfl ?_
  · rcases t with _ | _ | t <;> rfl
  have B : ¬ (l.length + 1) * (16 + 1) > bigRow := by simp only [bigRow]; omega
  (refine vw_go rfl ?_; simp only [go_sem, setCells, setIn, Int.reduceEq, Int.reduceLT, Int.reduceLE, Int.reduceNeg, Int.reduceSub, Int.reduceAdd, ge_iff_le, gt_iff_lt, ↓reduceIte, Nat.reduceEqDiff, Nat.reduceAdd, Nat.reduceMul, Nat.reduceLT, Nat.reduceLeDiff, Nat.reduceBEq, reduceCtorEq])
  (refine vw_go rfl ?_; simp only [List.replicate_zero, List.flatten_nil, List.range_zero, sRow_noOwn, B, gt_iff_lt, go_sem, setCells, setIn, Int.reduceEq, Int.reduceLT, Int.reduceLE, Int.reduceNeg, Int.reduceSub, Int.reduceAdd, ge_iff_le, gt_iff_lt, ↓reduceIte, Nat.reduceEqDiff, Nat.reduceAdd, Nat.reduceMul, Nat.reduceLT, Nat.reduceLeDiff, Nat.reduceBEq, reduceCtorEq])
  refine vw_seq ?_
  (refine vw_go rfl ?_; simp only [go_sem, setCells, setIn, Int.reduceEq, Int.reduceLT, Int.reduceLE, Int.reduceNeg, Int.reduceSub, Int.reduceAdd, ge_iff_le, gt_iff_lt, ↓reduceIte, Nat.reduceEqDiff, Nat.reduceAdd, Nat.reduceMul, Nat.reduceLT, Nat.reduceLeDiff, Nat.reduceBEq, reduceCtorEq])
  refine vw_block ?_
  refine vw_loop_tab (α := Nat × List ByteArray) (fun x => ps.length - x.1) (fun x => ⟨tabE [(1, .c (.list false 2 (ps.map putRow))), (5, .al 2 [] 0 1 0 l.length), (6, .c (.int .i64 x.1))], tabS [(2, some ⟨false, 1, x.2.map sRow, []⟩)], 3⟩)
    (fun x => x.1 ≤ ps.length ∧ x.2.length = l.length ∧ doneL x.2 (ps.drop x.1) = doneL l ps) (x := (0, l)) ?round ?h0 ?hn
  case h0 => exact ⟨Nat.zero_le _, rfl, rfl⟩
  case hn => (refine norm_to [(67586, 2)] rfl ?_ ?_ <;> simp only [go_sem, Int.reduceEq, Int.reduceLT, Int.reduceLE, Int.reduceNeg, Int.reduceSub, Int.reduceAdd, ge_iff_le, gt_iff_lt, ↓reduceIte, Nat.reduceEqDiff, Nat.reduceAdd, Nat.reduceMul, Nat.reduceLT, Nat.reduceLeDiff, Nat.reduceBEq, reduceCtorEq])
  rintro ⟨i, cur⟩ ⟨hi, hcl, hm⟩
  simp only at hi hcl hm
  refine vw_seq ?_
  (refine vw_go rfl ?_; simp only [go_sem, setCells, setIn, Int.reduceEq, Int.reduceLT, Int.reduceLE, Int.reduceNeg, Int.reduceSub, Int.reduceAdd, ge_iff_le, gt_iff_lt, ↓reduceIte, Nat.reduceEqDiff, Nat.reduceAdd, Nat.reduceMul, Nat.reduceLT, Nat.reduceLeDiff, Nat.reduceBEq, reduceCtorEq])
  refine vw_cond (t := decide ((i : Int) < ps.length)) rfl (fun h => ?_) (fun h => ?_)
  · refine vw_skip (n_then ?_)
    rcases get_or ps i with ⟨p, hx, hlt⟩ | ⟨_, hge⟩
    case inr => simp only [decide_eq_true_eq] at h; omega
    have c1 : (0:Int) ≤ (i:Int) := by omega
    have c2 : (i:Int) < (ps.length : Int) := by omega
    have w3 : IntKind.wrap .i64 ((l.length:Int) - 1) = (l.length:Int) - 1 := wrap_i64 (by omega) (by omega)
    have w2 : IntKind.wrap .i64 ((i:Int) + 1) = ((i + 1 : Nat) : Int) := by rw [wrap_i64 (by omega) (by omega)]; rfl
    rw [drop_of hx] at hm
    simp only [doneL, hcl] at hm
    refine vw_seq ?_
    refine vw_block ?_
    (refine vw_go rfl ?_; simp only [c1, c2, Int.toNat_natCast, getD_map_of hx, putRow, w3, go_sem, setCells, setIn, Int.reduceEq, Int.reduceLT, Int.reduceLE, Int.reduceNeg, Int.reduceSub, Int.reduceAdd, ge_iff_le, gt_iff_lt, ↓reduceIte, Nat.reduceEqDiff, Nat.reduceAdd, Nat.reduceMul, Nat.reduceLT, Nat.reduceLeDiff, Nat.reduceBEq, reduceCtorEq])
    (refine ⟨_, _, call_rd [0, 0, 0] Try.func68 (runs_68 p.sector 0 ((l.length:Int) - 1)) rfl rfl rfl rfl rfl rfl rfl rfl rfl rfl rfl rfl rfl, ?_⟩)
    simp only [runH, runX, go_sem, setCells, setIn, Int.reduceEq, Int.reduceLT, Int.reduceLE, Int.reduceNeg, Int.reduceSub, Int.reduceAdd, ge_iff_le, gt_iff_lt, ↓reduceIte, Nat.reduceEqDiff, Nat.reduceAdd, Nat.reduceMul, Nat.reduceLT, Nat.reduceLeDiff, Nat.reduceBEq, reduceCtorEq]
    refine vw_cond (t := inB p.sector 0 ((l.length:Int) - 1)) rfl (fun h => ?_) (fun h => ?_)
    · have hin := h
      simp only [inB, Bool.and_eq_true, decide_eq_true_eq] at hin
      obtain ⟨p1, p2⟩ := hin
      have p3 : p.sector < (l.length : Int) := by omega
      have q1 : p.sector.toNat < cur.length := by omega
      have q2 : (cur.map sRow).getD p.sector.toNat [] = [.str (cur[p.sector.toNat])] := by
        rw [List.getD_eq_getElem?_getD, List.getElem?_map, List.getElem?_eq_getElem q1]; rfl
      have q3 : (cur.map sRow).set p.sector.toNat [.str p.data] = (cur.set p.sector.toNat p.data).map sRow := by
        rw [List.map_set]; rfl
      (refine vw_draw_last mixed rfl rfl ?_; simp only [c1, c2, Int.toNat_natCast, getD_map_of hx, putRow, p1, p3, q1, q2, q3, go_sem, setCells, setIn, Int.reduceEq, Int.reduceLT, Int.reduceLE, Int.reduceNeg, Int.reduceSub, Int.reduceAdd, ge_iff_le, gt_iff_lt, ↓reduceIte, Nat.reduceEqDiff, Nat.reduceAdd, Nat.reduceMul, Nat.reduceLT, Nat.reduceLeDiff, Nat.reduceBEq, reduceCtorEq])
      refine ⟨by unfold allOk; kernel_rfl, n_block (n_then ?_)⟩
      (refine vw_last rfl ?_; simp only [w2, go_sem, setCells, setIn, Int.reduceEq, Int.reduceLT, Int.reduceLE, Int.reduceNeg, Int.reduceSub, Int.reduceAdd, ge_iff_le, gt_iff_lt, ↓reduceIte, Nat.reduceEqDiff, Nat.reduceAdd, Nat.reduceMul, Nat.reduceLT, Nat.reduceLeDiff, Nat.reduceBEq, reduceCtorEq])
      refine (n_then ?_)
      simp only [h, if_true] at hm
      refine ⟨(i + 1, cur.set p.sector.toNat p.data), by simp only; omega, ⟨hlt, by simp [hcl], hm⟩, ?_⟩
      (refine norm_to [(2, 2)] rfl ?_ ?_ <;> simp only [go_sem, Int.reduceEq, Int.reduceLT, Int.reduceLE, Int.reduceNeg, Int.reduceSub, Int.reduceAdd, ge_iff_le, gt_iff_lt, ↓reduceIte, Nat.reduceEqDiff, Nat.reduceAdd, Nat.reduceMul, Nat.reduceLT, Nat.reduceLeDiff, Nat.reduceBEq, reduceCtorEq])
    · refine vw_skip (n_block (n_then ?_))
      (refine vw_last rfl ?_; simp only [w2, go_sem, setCells, setIn, Int.reduceEq, Int.reduceLT, Int.reduceLE, Int.reduceNeg, Int.reduceSub, Int.reduceAdd, ge_iff_le, gt_iff_lt, ↓reduceIte, Nat.reduceEqDiff, Nat.reduceAdd, Nat.reduceMul, Nat.reduceLT, Nat.reduceLeDiff, Nat.reduceBEq, reduceCtorEq])
      refine (n_then ?_)
      simp only [h, Bool.false_eq_true, if_false] at hm
      refine ⟨(i + 1, cur), by simp only; omega, ⟨hlt, hcl, hm⟩, ?_⟩
      (refine norm_to [(2, 2)] rfl ?_ ?_ <;> simp only [go_sem, Int.reduceEq, Int.reduceLT, Int.reduceLE, Int.reduceNeg, Int.reduceSub, Int.reduceAdd, ge_iff_le, gt_iff_lt, ↓reduceIte, Nat.reduceEqDiff, Nat.reduceAdd, Nat.reduceMul, Nat.reduceLT, Nat.reduceLeDiff, Nat.reduceBEq, reduceCtorEq])
  · refine vw_exit (x_then (x_then (x_block (n_then ?_))))
    (refine vw_go rfl ?_; simp only [go_sem, setCells, setIn, Int.reduceEq, Int.reduceLT, Int.reduceLE, Int.reduceNeg, Int.reduceSub, Int.reduceAdd, ge_iff_le, gt_iff_lt, ↓reduceIte, Nat.reduceEqDiff, Nat.reduceAdd, Nat.reduceMul, Nat.reduceLT, Nat.reduceLeDiff, Nat.reduceBEq, reduceCtorEq])
    simp only [decide_eq_false_iff_not] at h
    have : i = ps.length := by omega
    subst this
    simp only [List.drop_length, doneL] at hm
    rw [← hm]
    exact vw_ret (e_ret (ret_of rfl rfl (by simp [RB]) rfl (take_whole (R := ⟨false, 1, cur.map sRow, []⟩) rfl rfl rfl (by simp [hcl]))))

theorem runs_36 (l : List ByteArray) (ps : List PutV) (hl : l.length ≤ 2 ^ 20) (hp : ps.length < 2 ^ 63) :
    Runs Try.prog 36 [.one (.v (.list false 1 (l.map sRow))), .one (.v (.list false 2 (ps.map putRow)))] [.one (.v (.list true 1 ((doneL l ps).map sRow)))] [] := by
  refine runs_tab (tab := [(0, .c (.list false 1 (l.map sRow))), (1, .c (.list false 2 (ps.map putRow)))]) (rts := []) (n := 30) (k := 2) Try.func36 rfl rfl (by simp) rfl (fun t => ?_) rfl ?_
  · rcases t with _ | _ | t <;> rfl
  (refine vw_go rfl ?_; simp only [go_sem, setCells, setIn, Int.reduceEq, Int.reduceLT, Int.reduceLE, Int.reduceNeg, Int.reduceSub, Int.reduceAdd, ge_iff_le, gt_iff_lt, ↓reduceIte, Nat.reduceEqDiff, Nat.reduceAdd, Nat.reduceMul, Nat.reduceLT, Nat.reduceLeDiff, Nat.reduceBEq, reduceCtorEq])
  (refine vw_go rfl ?_; simp only [go_sem, setCells, setIn, Int.reduceEq, Int.reduceLT, Int.reduceLE, Int.reduceNeg, Int.reduceSub, Int.reduceAdd, ge_iff_le, gt_iff_lt, ↓reduceIte, Nat.reduceEqDiff, Nat.reduceAdd, Nat.reduceMul, Nat.reduceLT, Nat.reduceLeDiff, Nat.reduceBEq, reduceCtorEq])
  (refine ⟨_, _, call_rx [0] Try.func86 (runs_86 l hl) rfl rfl rfl rfl rfl rfl rfl (by simp [lendAll, lendC, seek, fresh, nav, rcells, RT.cells, VV.cells, tabE_cons, tabS_cons, ev, take_map_len, sRow_r1, sRow_clean]) rfl (by simp [rcells, RT.cells, CT.clean, T.clean, sRow_r1, sRow_clean]) rfl rfl, ?_⟩)
  simp only [runH, runX, go_sem, setCells, setIn, Int.reduceEq, Int.reduceLT, Int.reduceLE, Int.reduceNeg, Int.reduceSub, Int.reduceAdd, ge_iff_le, gt_iff_lt, ↓reduceIte, Nat.reduceEqDiff, Nat.reduceAdd, Nat.reduceMul, Nat.reduceLT, Nat.reduceLeDiff, Nat.reduceBEq, reduceCtorEq]
  refine vw_seq ?_
  (refine vw_go rfl ?_; simp only [go_sem, setCells, setIn, Int.reduceEq, Int.reduceLT, Int.reduceLE, Int.reduceNeg, Int.reduceSub, Int.reduceAdd, ge_iff_le, gt_iff_lt, ↓reduceIte, Nat.reduceEqDiff, Nat.reduceAdd, Nat.reduceMul, Nat.reduceLT, Nat.reduceLeDiff, Nat.reduceBEq, reduceCtorEq])
  refine vw_block ?_
  refine vw_loop_tab (α := Nat × List ByteArray) (fun x => ps.length - x.1) (fun x => ⟨tabE [(10, .c (.list false 2 (ps.map putRow))), (11, .c (.int .i64 ps.length)), (5, .al 2 [] 0 1 0 l.length), (12, .c (.int .i64 x.1))], tabS [(2, some ⟨false, 1, x.2.map sRow, []⟩)], 3⟩)
    (fun x => x.1 ≤ ps.length ∧ x.2.length = l.length ∧ doneL x.2 (ps.drop x.1) = doneL l ps) (x := (0, l)) ?round ?h0 ?hn
  case h0 => exact ⟨Nat.zero_le _, rfl, rfl⟩
  case hn => (refine norm_to [(66562, 2)] rfl ?_ ?_ <;> simp only [go_sem, Int.reduceEq, Int.reduceLT, Int.reduceLE, Int.reduceNeg, Int.reduceSub, Int.reduceAdd, ge_iff_le, gt_iff_lt, ↓reduceIte, Nat.reduceEqDiff, Nat.reduceAdd, Nat.reduceMul, Nat.reduceLT, Nat.reduceLeDiff, Nat.reduceBEq, reduceCtorEq])
  rintro ⟨i, cur⟩ ⟨hi, hcl, hm⟩
  simp only at hi hcl hm
  (refine vw_go rfl ?_; simp only [go_sem, setCells, setIn, Int.reduceEq, Int.reduceLT, Int.reduceLE, Int.reduceNeg, Int.reduceSub, Int.reduceAdd, ge_iff_le, gt_iff_lt, ↓reduceIte, Nat.reduceEqDiff, Nat.reduceAdd, Nat.reduceMul, Nat.reduceLT, Nat.reduceLeDiff, Nat.reduceBEq, reduceCtorEq])
  refine vw_seq ?_
  refine vw_cond (t := decide ((i : Int) < ps.length)) rfl (fun h => ?_) (fun h => ?_)
  · refine vw_skip (n_then ?_)
    rcases get_or ps i with ⟨p, hx, hlt⟩ | ⟨_, hge⟩
    case inr => simp only [decide_eq_true_eq] at h; omega
    have c1 : (0:Int) ≤ (i:Int) := by omega
    have c2 : (i:Int) < (ps.length : Int) := by omega
    have w3 : IntKind.wrap .i64 ((l.length:Int) - 1) = (l.length:Int) - 1 := wrap_i64 (by omega) (by omega)
    have w2 : IntKind.wrap .i64 ((i:Int) + 1) = ((i + 1 : Nat) : Int) := by rw [wrap_i64 (by omega) (by omega)]; rfl
    rw [drop_of hx] at hm
    simp only [doneL, hcl] at hm
    refine vw_seq ?_
    refine vw_block ?_
    (refine vw_go rfl ?_; simp only [c1, c2, Int.toNat_natCast, getD_map_of hx, putRow, go_sem, setCells, setIn, Int.reduceEq, Int.reduceLT, Int.reduceLE, Int.reduceNeg, Int.reduceSub, Int.reduceAdd, ge_iff_le, gt_iff_lt, ↓reduceIte, Nat.reduceEqDiff, Nat.reduceAdd, Nat.reduceMul, Nat.reduceLT, Nat.reduceLeDiff, Nat.reduceBEq, reduceCtorEq])
    (refine vw_go rfl ?_; simp only [w3, go_sem, setCells, setIn, Int.reduceEq, Int.reduceLT, Int.reduceLE, Int.reduceNeg, Int.reduceSub, Int.reduceAdd, ge_iff_le, gt_iff_lt, ↓reduceIte, Nat.reduceEqDiff, Nat.reduceAdd, Nat.reduceMul, Nat.reduceLT, Nat.reduceLeDiff, Nat.reduceBEq, reduceCtorEq])
    (refine ⟨_, _, call_rd [0, 0, 0] Try.func69 (runs_69 p.sector 0 ((l.length:Int) - 1)) rfl rfl rfl rfl rfl rfl rfl rfl rfl rfl rfl rfl rfl, ?_⟩)
    simp only [runH, runX, go_sem, setCells, setIn, Int.reduceEq, Int.reduceLT, Int.reduceLE, Int.reduceNeg, Int.reduceSub, Int.reduceAdd, ge_iff_le, gt_iff_lt, ↓reduceIte, Nat.reduceEqDiff, Nat.reduceAdd, Nat.reduceMul, Nat.reduceLT, Nat.reduceLeDiff, Nat.reduceBEq, reduceCtorEq]
    refine vw_cond (t := inB p.sector 0 ((l.length:Int) - 1)) rfl (fun h => ?_) (fun h => ?_)
    · have hin := h
      simp only [inB, Bool.and_eq_true, decide_eq_true_eq] at hin
      obtain ⟨p1, p2⟩ := hin
      have p3 : p.sector < (l.length : Int) := by omega
      have q1 : p.sector.toNat < cur.length := by omega
      have q2 : (cur.map sRow).getD p.sector.toNat [] = [.str (cur[p.sector.toNat])] := by
        rw [List.getD_eq_getElem?_getD, List.getElem?_map, List.getElem?_eq_getElem q1]; rfl
      have q3 : (cur.map sRow).set p.sector.toNat [.str p.data] = (cur.set p.sector.toNat p.data).map sRow := by
        rw [List.map_set]; rfl
      (refine vw_last rfl ?_; simp only [p1, p3, q1, q2, q3, go_sem, setCells, setIn, Int.reduceEq, Int.reduceLT, Int.reduceLE, Int.reduceNeg, Int.reduceSub, Int.reduceAdd, ge_iff_le, gt_iff_lt, ↓reduceIte, Nat.reduceEqDiff, Nat.reduceAdd, Nat.reduceMul, Nat.reduceLT, Nat.reduceLeDiff, Nat.reduceBEq, reduceCtorEq])
      refine (n_block (n_then ?_))
      (refine vw_last rfl ?_; simp only [w2, go_sem, setCells, setIn, Int.reduceEq, Int.reduceLT, Int.reduceLE, Int.reduceNeg, Int.reduceSub, Int.reduceAdd, ge_iff_le, gt_iff_lt, ↓reduceIte, Nat.reduceEqDiff, Nat.reduceAdd, Nat.reduceMul, Nat.reduceLT, Nat.reduceLeDiff, Nat.reduceBEq, reduceCtorEq])
      refine (n_then ?_)
      simp only [h, if_true] at hm
      refine ⟨(i + 1, cur.set p.sector.toNat p.data), by simp only; omega, ⟨hlt, by simp [hcl], hm⟩, ?_⟩
      (refine norm_to [(2, 2)] rfl ?_ ?_ <;> simp only [go_sem, Int.reduceEq, Int.reduceLT, Int.reduceLE, Int.reduceNeg, Int.reduceSub, Int.reduceAdd, ge_iff_le, gt_iff_lt, ↓reduceIte, Nat.reduceEqDiff, Nat.reduceAdd, Nat.reduceMul, Nat.reduceLT, Nat.reduceLeDiff, Nat.reduceBEq, reduceCtorEq])
    · refine vw_skip (n_block (n_then ?_))
      (refine vw_last rfl ?_; simp only [w2, go_sem, setCells, setIn, Int.reduceEq, Int.reduceLT, Int.reduceLE, Int.reduceNeg, Int.reduceSub, Int.reduceAdd, ge_iff_le, gt_iff_lt, ↓reduceIte, Nat.reduceEqDiff, Nat.reduceAdd, Nat.reduceMul, Nat.reduceLT, Nat.reduceLeDiff, Nat.reduceBEq, reduceCtorEq])
      refine (n_then ?_)
      simp only [h, Bool.false_eq_true, if_false] at hm
      refine ⟨(i + 1, cur), by simp only; omega, ⟨hlt, hcl, hm⟩, ?_⟩
      (refine norm_to [(2, 2)] rfl ?_ ?_ <;> simp only [go_sem, Int.reduceEq, Int.reduceLT, Int.reduceLE, Int.reduceNeg, Int.reduceSub, Int.reduceAdd, ge_iff_le, gt_iff_lt, ↓reduceIte, Nat.reduceEqDiff, Nat.reduceAdd, Nat.reduceMul, Nat.reduceLT, Nat.reduceLeDiff, Nat.reduceBEq, reduceCtorEq])
  · refine vw_exit (x_then (x_then (x_block (n_then ?_))))
    (refine vw_go rfl ?_; simp only [go_sem, setCells, setIn, Int.reduceEq, Int.reduceLT, Int.reduceLE, Int.reduceNeg, Int.reduceSub, Int.reduceAdd, ge_iff_le, gt_iff_lt, ↓reduceIte, Nat.reduceEqDiff, Nat.reduceAdd, Nat.reduceMul, Nat.reduceLT, Nat.reduceLeDiff, Nat.reduceBEq, reduceCtorEq])
    simp only [decide_eq_false_iff_not] at h
    have : i = ps.length := by omega
    subst this
    simp only [List.drop_length, doneL] at hm
    rw [← hm]
    exact vw_ret (e_ret (ret_of rfl rfl (by simp [RB]) rfl (take_whole (R := ⟨false, 1, cur.map sRow, []⟩) rfl rfl rfl (by simp [hcl]))))

theorem typed_41 {k : Nat} {ts : List T} (h : typed Try.prog (k + 4) 41 ts) : ∃ l : List ByteArray, ts = [.list false 1 (l.map sRow)] ∧ l.length < 2 ^ 63 ∧ ∀ x ∈ l, x.size < 2 ^ 63 := by
  simp only [typed, Try.underlying41, Try.underlying9, cellsOf_9] at h
  obtain ⟨rows, rfl, hlen, hrows⟩ := h
  obtain ⟨l, rfl, hl⟩ := map_of (f := sRow) (Q := fun x => x.size < 2 ^ 63) (rows := rows) (fun r hr => by
    obtain ⟨s, rfl, hs⟩ := hrows r hr
    exact ⟨s, rfl, hs⟩)
  exact ⟨l, rfl, by simpa using hlen, hl⟩
end Go.Proofs.Ytcdgdiheoejjgaa
