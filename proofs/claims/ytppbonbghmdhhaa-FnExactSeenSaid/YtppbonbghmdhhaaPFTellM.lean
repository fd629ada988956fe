/- Marks of Tell values: a slice marked, marks read again, a slice cloned. Printed by a program (mfun.py). -/
import Derived.Test.YtppbonbghmdhhaaPFMark
import Derived.Test.YtppbonbghmdhhaaPFTell
namespace Go.Proofs.Ytppbonbghmdhhaa
open Go.VM
set_option maxRecDepth 100000
set_option linter.unusedSimpArgs false
set_option linter.unusedVariables false
attribute [local congr] vw_congr runV_congr runH_congr runW_congr runX_congr

def mkTell (k : Int) (i : Nat) : List T := [.int .i64 (k + 2 * (i : Int)), .str (mt (k + 2 * (i : Int) + 1))]
def marksTell (k : Int) (n : Nat) : List (List T) := (List.range n).map (mkTell k)
theorem marksTell_len (k : Int) (n : Nat) : (marksTell k n).length = n := by simp [marksTell]
theorem marksTell_clean (k : Int) (n : Nat) : cleanRs (marksTell k n) = true := clean_map (fun x => rfl) _
theorem marksTell_ro (k : Int) (n : Nat) : (marksTell k n).map (List.map T.toRO) = marksTell k n := ro_map (fun x => by simp [mkTell]) _
theorem marksTell_take (k : Int) (n : Nat) : (marksTell k n).take n = marksTell k n := by rw [List.take_of_length_le (by simp [marksTell_len])]

theorem runs_31 (l : List TellV) (k : Int) (hl : l.length ≤ 2 ^ 40) (h0 : 0 ≤ k) (h1 : k ≤ 2 ^ 60) :
    Runs Try.prog 31 [.one (.v (.list true 2 (l.map tellRow))), .one (.v (.int .i64 k))] [.one (.v (.int .i64 (k + 2 * l.length)))] [(0, ⟨false, 2, marksTell k l.length, []⟩)] := by
  refine runs_tabB (tab := [(0, .al 0 [] 0 2 0 l.length), (1, .c (.int .i64 k))]) (rts := [(0, some ⟨false, 2, l.map tellRow, []⟩)]) (n := 28) (k := 2) Try.func31 rfl rfl (by simp) rfl (fun t => ?_) rfl ?_
  · rcases t with _ | _ | t
    · simp [rvv, RT.vv, CT.vv, envOf, tabE_cons]
    · rfl
    · rfl
  (refine vw_go rfl ?_; simp only [go_sem, setCells, setIn])
  refine vw_seq ?_
  (refine vw_go rfl ?_; simp only [go_sem, setCells, setIn])
  refine vw_block ?_
  refine vw_loop_tab (α := Nat) (fun x => l.length - x) (fun x => ⟨tabE [(0, .al 0 [] 0 2 0 l.length), (1, .c (.int .i64 (k + 2 * (x : Int)))), (5, .c (.int .i64 x))], tabS [(0, some ⟨false, 2, rowsW (mkTell k) (l.map tellRow) x, []⟩)], 2⟩)
    (fun x => x ≤ l.length) (x := 0) ?round ?h0 ?hn
  case h0 => exact Nat.zero_le _
  case hn =>
    (refine norm_to [(0, 0)] rfl ?_ ?_ <;> simp only [go_sem])
    · simp
    · simp [rowsW_zero]
  intro i hi
  refine vw_seq ?_
  (refine vw_go rfl ?_; simp only [go_sem, setCells, setIn])
  refine vw_cond (t := decide ((i : Int) < l.length)) rfl (fun h => ?_) (fun h => ?_)
  · refine vw_skip (n_then ?_)
    rcases get_or l i with ⟨x, hx, hlt⟩ | ⟨_, hge⟩
    case inr => simp only [decide_eq_true_eq] at h; omega
    have c1 : (0:Int) ≤ (i:Int) := by omega
    have c2 : (i:Int) < (l.length : Int) := by omega
    have hx' : (l.map tellRow)[i]? = some (tellRow x) := by rw [List.getElem?_map, hx]; rfl
    have hll : (l.map tellRow).length = l.length := by simp
    have e1 : (rowsW (mkTell k) (l.map tellRow) i).length = l.length := by rw [rowsW_len (by omega), hll]
    have g0 : (rowsW (mkTell k) (l.map tellRow) i).getD i [] = [.int .i64 x.code, .str x.text] := rowsW_get hx'
    have g1 : ((rowsW (mkTell k) (l.map tellRow) i).set i [.int .i64 (k + 2 * (i : Int)), .str x.text]).getD i [] = [.int .i64 (k + 2 * (i : Int)), .str x.text] := getD_set_self (by omega)
    have eF : (rowsW (mkTell k) (l.map tellRow) i).set i [.int .i64 (k + 2 * (i : Int)), .str (mt (k + 2 * (i : Int) + 1))] = rowsW (mkTell k) (l.map tellRow) (i + 1) := rowsW_set (by omega) rfl
    have w0 : IntKind.wrap .i64 (k + 2 * (i : Int) + 1) = k + 2 * (i : Int) + 1 := wrap_i64 (by omega) (by omega)
    have w1 : IntKind.wrap .i64 (k + 2 * (i : Int) + 1 + 1) = k + 2 * ((i + 1 : Nat) : Int) := by rw [wrap_i64 (by omega) (by omega)]; omega
    refine vw_seq ?_
    refine vw_block ?_
    (refine vw_go rfl ?_; simp only [c1, c2, Int.toNat_natCast, List.length_set, List.set_set, e1, g0, hlt, go_sem, setCells, setIn])
    (refine vw_go rfl ?_; simp only [w0, go_sem, setCells, setIn])
    (refine vw_go rfl ?_; simp only [c1, c2, Int.toNat_natCast, go_sem, setCells, setIn])
    (refine ⟨_, _, call_rd [0] Try.func77 (runs_77 (k + 2 * (i : Int) + 1) (by omega) (by omega)) rfl rfl rfl rfl rfl rfl rfl rfl rfl rfl rfl rfl rfl, ?_⟩)
    simp only [runH, runX, c1, c2, Int.toNat_natCast, List.length_set, List.set_set, e1, g1, hlt, eF, go_sem, setCells, setIn]
    (refine vw_last rfl ?_; simp only [w1, go_sem, setCells, setIn])
    refine (n_block (n_then ?_))
    have wi : IntKind.wrap .i64 ((i:Int) + 1) = ((i + 1 : Nat) : Int) := by rw [wrap_i64 (by omega) (by omega)]; rfl
    (refine vw_last rfl ?_; simp only [wi, go_sem, setCells, setIn])
    refine (n_then ?_)
    refine ⟨i + 1, by omega, hlt, ?_⟩
    (refine norm_to [(0, 0)] rfl ?_ ?_ <;> simp only [go_sem])
  · refine vw_exit (x_then (x_then (x_block (n_then ?_))))
    (refine vw_go rfl ?_; simp only [go_sem, setCells, setIn])
    simp only [decide_eq_false_iff_not] at h
    have : i = l.length := by omega
    subst this
    refine vw_ret (e_ret (ret_b rfl rfl (by simp [RB]) rfl rfl ⟨⟨by simp, _, rfl, rfl, rfl, ?_⟩, trivial⟩))
    have hll : (l.map tellRow).length = l.length := by simp
    show rowsW (mkTell k) (l.map tellRow) l.length = _
    rw [← hll, rowsW_end, hll]; rfl

theorem runs_32 (k : Int) (n : Nat) (hn : n ≤ 2 ^ 40) (h0 : 0 ≤ k) (h1 : k ≤ 2 ^ 60) :
    Runs Try.prog 32 [.one (.v (.list false 2 (marksTell k n))), .one (.v (.int .i64 k))] [.one (.v (.int .i64 (k + 2 * n)))] [] := by
  refine runs_tab (tab := [(0, .c (.list false 2 (marksTell k n))), (1, .c (.int .i64 k))]) (rts := []) (n := 32) (k := 2) Try.func32 rfl rfl (by simp) rfl (fun t => ?_) rfl ?_
  · rcases t with _ | _ | t <;> rfl
  have hml := marksTell_len k n
  (refine vw_go rfl ?_; simp only [go_sem, setCells, setIn])
  refine vw_seq ?_
  (refine vw_go rfl ?_; simp only [go_sem, setCells, setIn])
  refine vw_block ?_
  refine vw_loop_tab (α := Nat) (fun x => n - x) (fun x => ⟨tabE [(0, .c (.list false 2 (marksTell k n))), (1, .c (.int .i64 (k + 2 * (x : Int)))), (5, .c (.int .i64 x))], tabS [], 2⟩)
    (fun x => x ≤ n) (x := 0) ?round ?h0 ?hn
  case h0 => exact Nat.zero_le _
  case hn =>
    (refine norm_to [] rfl ?_ ?_ <;> simp only [go_sem])
    simp
  intro i hi
  refine vw_seq ?_
  (refine vw_go rfl ?_; simp only [hml, go_sem, setCells, setIn])
  refine vw_cond (t := decide ((i : Int) < n)) rfl (fun h => ?_) (fun h => ?_)
  · refine vw_skip (n_then ?_)
    simp only [decide_eq_true_eq] at h
    have hlt : i < n := by omega
    have hlo := h
    have hx : (marksTell k n).getD i [] = [.int .i64 (k + 2 * (i : Int)), .str (mt (k + 2 * (i : Int) + 1))] := by
      rw [List.getD_eq_getElem?_getD]
      simp [marksTell, List.getElem?_range hlt, mkTell]
    have c1 : (0:Int) ≤ (i:Int) := by omega
    have w0 : IntKind.wrap .i64 (k + 2 * (i : Int) + 1) = k + 2 * (i : Int) + 1 := wrap_i64 (by omega) (by omega)
    have w1 : IntKind.wrap .i64 (k + 2 * (i : Int) + 1 + 1) = k + 2 * ((i + 1 : Nat) : Int) := by rw [wrap_i64 (by omega) (by omega)]; omega
    refine vw_seq ?_
    refine vw_block ?_
    refine vw_seq ?_
    (refine vw_go rfl ?_; simp only [c1, hlo, hml, Int.toNat_natCast, hx, go_sem, setCells, setIn])
    refine vw_cond (t := false) rfl (fun h => ?_) (fun h => ?_)
    · cases h
    refine vw_skip (n_then ?_)
    (refine vw_go rfl ?_; simp only [w0, go_sem, setCells, setIn])
    refine vw_seq ?_
    (refine vw_draw mixed rfl rfl ?_; simp only [c1, hlo, hml, Int.toNat_natCast, hx, go_sem, setCells, setIn])
    (refine ⟨_, _, _, call_rd_at [0] [] Try.func77 (runs_77 (k + 2 * (i : Int) + 1) (by omega) (by omega)) (fun _ _ => rfl) rfl rfl rfl rfl rfl rfl rfl rfl rfl rfl rfl rfl, ?_⟩)
    simp only [runH, runX, go_sem, setCells, setIn]
    refine ⟨by unfold allOk; kernel_rfl, ?_⟩
    refine vw_cond (t := false) rfl (fun h => ?_) (fun h => ?_)
    · cases h
    refine vw_skip (n_then ?_)
    (refine vw_last rfl ?_; simp only [w1, go_sem, setCells, setIn])
    refine (n_block (n_then ?_))
    have wi : IntKind.wrap .i64 ((i:Int) + 1) = ((i + 1 : Nat) : Int) := by rw [wrap_i64 (by omega) (by omega)]; rfl
    (refine vw_last rfl ?_; simp only [wi, go_sem, setCells, setIn])
    refine (n_then ?_)
    refine ⟨i + 1, by omega, hlt, ?_⟩
    (refine norm_to [] rfl ?_ ?_ <;> simp only [go_sem])
  · refine vw_exit (x_then (x_then (x_block (n_then ?_))))
    (refine vw_go rfl ?_; simp only [go_sem, setCells, setIn])
    simp only [decide_eq_false_iff_not] at h
    have : i = n := by omega
    subst this
    exact vw_ret (e_ret (ret_of rfl rfl (by simp [RB]) rfl rfl))

theorem tellRow_noOwn (l : List TellV) : ((l.map tellRow).all fun r => r.all plainT) = true := by
  simp [tellRow, plainT]

theorem runs_93 (l : List TellV) (hl : l.length ≤ 2 ^ 20) :
    Runs Try.prog 93 [.one (.v (.list false 2 (l.map tellRow)))] [.one (.v (.list true 2 (l.map tellRow)))] [] := by
  refine runs_tab (tab := [(0, .c (.list false 2 (l.map tellRow)))]) (rts := []) (n := 8) (k := 1) Try.func93 rfl rfl (by simp) rfl (fun t => ?_) rfl ?_
  · rcases t with _ | t <;> rfl
  (refine vw_go rfl ?_; simp only [go_sem, setCells, setIn])
  refine vw_seq ?_
  refine vw_nil rfl Try.underlying49 rfl rfl rfl ⟨_, rfl⟩ rfl rfl rfl (fun b hb => ?_)
  simp only [dstE_tab]
  refine vw_cond (t := b) rfl (fun h => ?_) (fun h => ?_)
  · (refine vw_go rfl ?_; simp only [go_sem, setCells, setIn])
    have : l = [] := by
      cases l with
      | nil => rfl
      | cons x l => exact absurd (hb (by simp)) (by rw [h]; decide)
    subst this
    exact vw_ret (r_then (e_ret (ret_by rfl rfl (by simp [RB]) rfl (by simp only [takeCs, takeC, go_sem, setCells, setIn]))))
  refine vw_skip (n_then ?_)
  have B : ¬ (l.length + 1) * (24 + 1) > bigRow := by simp only [bigRow]; omega
  (refine vw_go rfl ?_; simp only [List.replicate_zero, List.flatten_nil, List.range_zero, tellRow_noOwn, B, gt_iff_lt, go_sem, setCells, setIn])
  exact vw_ret (e_ret (ret_by rfl rfl (by simp [RB]) rfl (by simp only [takeCs, takeC, go_sem, setCells, setIn])))
end Go.Proofs.Ytppbonbghmdhhaa
