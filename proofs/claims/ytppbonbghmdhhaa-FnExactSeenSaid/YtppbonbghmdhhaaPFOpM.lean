/- Marks of Op values: a slice marked, marks read again, a slice cloned. Printed by a program (mfun.py). -/
import Derived.Test.YtppbonbghmdhhaaPFMark
import Derived.Test.YtppbonbghmdhhaaPFOp
namespace Go.Proofs.Ytppbonbghmdhhaa
open Go.VM
set_option maxRecDepth 100000
set_option linter.unusedSimpArgs false
set_option linter.unusedVariables false
attribute [local congr] vw_congr runV_congr runH_congr runW_congr runX_congr

def mkOp (k : Int) (i : Nat) : List T := [.int .i64 (k + 4 * (i : Int)), .str (mt (k + 4 * (i : Int) + 1)), .str (mt (k + 4 * (i : Int) + 1 + 1)), .str (mt (k + 4 * (i : Int) + 1 + 1 + 1))]
def marksOp (k : Int) (n : Nat) : List (List T) := (List.range n).map (mkOp k)
theorem marksOp_clean (k : Int) (n : Nat) : cleanRs (marksOp k n) = true := clean_map (fun x => rfl) _
theorem runs_143 (l : List OpV) (k : Int) (hl : l.length ≤ 2 ^ 40) (h0 : 0 ≤ k) (h1 : k ≤ 2 ^ 60) :
    Runs Try.prog 143 [.one (.v (.list true 4 (l.map opRow))), .one (.v (.int .i64 k))] [.one (.v (.int .i64 (k + 4 * l.length)))] [(0, ⟨false, 4, marksOp k l.length, []⟩)] := by
  refine runs_tabB (tab := [(0, .al 0 [] 0 4 0 l.length), (1, .c (.int .i64 k))]) (rts := [(0, some ⟨false, 4, l.map opRow, []⟩)]) (n := 44) (k := 2) Try.func143 rfl rfl (by simp) rfl (fun t => ?_) rfl ?_
  · rcases t with _ | _ | t
    · simp [rvv, RT.vv, CT.vv, envOf, tabE_cons]
    · rfl
    · rfl
  (refine vw_go rfl ?_; simp only [go_sem, setCells, setIn])
  refine vw_seq ?_
  (refine vw_go rfl ?_; simp only [go_sem, setCells, setIn])
  refine vw_block ?_
  refine vw_loop_tab (α := Nat) (fun x => l.length - x) (fun x => ⟨tabE [(0, .al 0 [] 0 4 0 l.length), (1, .c (.int .i64 (k + 4 * (x : Int)))), (5, .c (.int .i64 x))], tabS [(0, some ⟨false, 4, rowsW (mkOp k) (l.map opRow) x, []⟩)], 2⟩)
    (fun x => x ≤ l.length) (x := 0) ?round ?h0 ?hn
  case h0 => exact Nat.zero_le _
  case hn =>
    (refine norm_to [(0, 0)] rfl ?_ ?_ <;> simp only [go_sem])
    · simp
    · simp [rowsW_zero]
  intro i hi
  refine vw_seq ?_
  (refine vw_go rfl ?_; simp only [go_sem, setCells, setIn])
  refine vw_cond (t := decide ((i : Int) < l.length)) rfl (fun h => ?_) (fun h => ?_)
  · refine vw_skip (n_then ?_)
    rcases get_or l i with ⟨x, hx, hlt⟩ | ⟨_, hge⟩
    case inr => simp only [decide_eq_true_eq] at h; omega
    have c1 : (0:Int) ≤ (i:Int) := by omega
    have c2 : (i:Int) < (l.length : Int) := by omega
    have hx' : (l.map opRow)[i]? = some (opRow x) := by rw [List.getElem?_map, hx]; rfl
    have hll : (l.map opRow).length = l.length := by simp
    have e1 : (rowsW (mkOp k) (l.map opRow) i).length = l.length := by rw [rowsW_len (by omega), hll]
    have g0 : (rowsW (mkOp k) (l.map opRow) i).getD i [] = [.int .i64 x.kind, .str x.path, .str x.to, .str x.data] := rowsW_get hx'
    have g1 : ((rowsW (mkOp k) (l.map opRow) i).set i [.int .i64 (k + 4 * (i : Int)), .str x.path, .str x.to, .str x.data]).getD i [] = [.int .i64 (k + 4 * (i : Int)), .str x.path, .str x.to, .str x.data] := getD_set_self (by omega)
    have g2 : ((rowsW (mkOp k) (l.map opRow) i).set i [.int .i64 (k + 4 * (i : Int)), .str (mt (k + 4 * (i : Int) + 1)), .str x.to, .str x.data]).getD i [] = [.int .i64 (k + 4 * (i : Int)), .str (mt (k + 4 * (i : Int) + 1)), .str x.to, .str x.data] := getD_set_self (by omega)
    have g3 : ((rowsW (mkOp k) (l.map opRow) i).set i [.int .i64 (k + 4 * (i : Int)), .str (mt (k + 4 * (i : Int) + 1)), .str (mt (k + 4 * (i : Int) + 1 + 1)), .str x.data]).getD i [] = [.int .i64 (k + 4 * (i : Int)), .str (mt (k + 4 * (i : Int) + 1)), .str (mt (k + 4 * (i : Int) + 1 + 1)), .str x.data] := getD_set_self (by omega)
    have eF : (rowsW (mkOp k) (l.map opRow) i).set i [.int .i64 (k + 4 * (i : Int)), .str (mt (k + 4 * (i : Int) + 1)), .str (mt (k + 4 * (i : Int) + 1 + 1)), .str (mt (k + 4 * (i : Int) + 1 + 1 + 1))] = rowsW (mkOp k) (l.map opRow) (i + 1) := rowsW_set (by omega) rfl
    have w0 : IntKind.wrap .i64 (k + 4 * (i : Int) + 1) = k + 4 * (i : Int) + 1 := wrap_i64 (by omega) (by omega)
    have w1 : IntKind.wrap .i64 (k + 4 * (i : Int) + 1 + 1) = k + 4 * (i : Int) + 1 + 1 := wrap_i64 (by omega) (by omega)
    have w2 : IntKind.wrap .i64 (k + 4 * (i : Int) + 1 + 1 + 1) = k + 4 * (i : Int) + 1 + 1 + 1 := wrap_i64 (by omega) (by omega)
    have w3 : IntKind.wrap .i64 (k + 4 * (i : Int) + 1 + 1 + 1 + 1) = k + 4 * ((i + 1 : Nat) : Int) := by rw [wrap_i64 (by omega) (by omega)]; omega
    refine vw_seq ?_
    refine vw_block ?_
    (refine vw_go rfl ?_; simp only [c1, c2, Int.toNat_natCast, List.length_set, List.set_set, e1, g0, hlt, go_sem, setCells, setIn])
    (refine vw_go rfl ?_; simp only [w0, go_sem, setCells, setIn])
    (refine vw_go rfl ?_; simp only [c1, c2, Int.toNat_natCast, go_sem, setCells, setIn])
    (refine ⟨_, _, call_rd [0] Try.func77 (runs_77 (k + 4 * (i : Int) + 1) (by omega) (by omega)) rfl rfl rfl rfl rfl rfl rfl rfl rfl rfl rfl rfl rfl, ?_⟩)
    simp only [runH, runX, c1, c2, Int.toNat_natCast, List.length_set, List.set_set, e1, g1, hlt, go_sem, setCells, setIn]
    (refine vw_go rfl ?_; simp only [w1, go_sem, setCells, setIn])
    (refine vw_go rfl ?_; simp only [c1, c2, Int.toNat_natCast, go_sem, setCells, setIn])
    (refine ⟨_, _, call_rd [0] Try.func77 (runs_77 (k + 4 * (i : Int) + 1 + 1) (by omega) (by omega)) rfl rfl rfl rfl rfl rfl rfl rfl rfl rfl rfl rfl rfl, ?_⟩)
    simp only [runH, runX, c1, c2, Int.toNat_natCast, List.length_set, List.set_set, e1, g2, hlt, go_sem, setCells, setIn]
    (refine vw_go rfl ?_; simp only [w2, go_sem, setCells, setIn])
    (refine vw_go rfl ?_; simp only [c1, c2, Int.toNat_natCast, go_sem, setCells, setIn])
    (refine ⟨_, _, call_rd [0] Try.func77 (runs_77 (k + 4 * (i : Int) + 1 + 1 + 1) (by omega) (by omega)) rfl rfl rfl rfl rfl rfl rfl rfl rfl rfl rfl rfl rfl, ?_⟩)
    simp only [runH, runX, c1, c2, Int.toNat_natCast, List.length_set, List.set_set, e1, g3, hlt, eF, go_sem, setCells, setIn]
    (refine vw_last rfl ?_; simp only [w3, go_sem, setCells, setIn])
    refine (n_block (n_then ?_))
    have wi : IntKind.wrap .i64 ((i:Int) + 1) = ((i + 1 : Nat) : Int) := by rw [wrap_i64 (by omega) (by omega)]; rfl
    (refine vw_last rfl ?_; simp only [wi, go_sem, setCells, setIn])
    refine (n_then ?_)
    refine ⟨i + 1, by omega, hlt, ?_⟩
    (refine norm_to [(0, 0)] rfl ?_ ?_ <;> simp only [go_sem])
  · refine vw_exit (x_then (x_then (x_block (n_then ?_))))
    (refine vw_go rfl ?_; simp only [go_sem, setCells, setIn])
    simp only [decide_eq_false_iff_not] at h
    have : i = l.length := by omega
    subst this
    refine vw_ret (e_ret (ret_b rfl rfl (by simp [RB]) rfl rfl ⟨⟨by simp, _, rfl, rfl, rfl, ?_⟩, trivial⟩))
    have hll : (l.map opRow).length = l.length := by simp
    show rowsW (mkOp k) (l.map opRow) l.length = _
    rw [← hll, rowsW_end, hll]; rfl

end Go.Proofs.Ytppbonbghmdhhaa
