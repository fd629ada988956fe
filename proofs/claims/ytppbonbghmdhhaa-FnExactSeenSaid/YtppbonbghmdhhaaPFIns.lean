/- Ins values: trees, and the walks of their size, their copy, their comparing (one; a slice). Printed by a program (tfun.py). -/
import Derived.Test.YtppbonbghmdhhaaPFBase
import Derived.Test.YtppbonbghmdhhaaPFOp
namespace Go.Proofs.Ytppbonbghmdhhaa
open Go.VM
set_option maxRecDepth 100000
set_option linter.unusedSimpArgs false
set_option linter.unusedVariables false
attribute [local congr] vw_congr runV_congr runH_congr runW_congr runX_congr

structure InsV where
  kind : Int
  op : OpV
  n : Int
  deriving DecidableEq
def insRow (x : InsV) : List T := [.int .i64 x.kind, .int .i64 x.op.kind, .str x.op.path, .str x.op.to, .str x.op.data, .int .i64 x.n]
def zIns : List T := [.int .i64 0, .int .i64 0, .str ⟨#[]⟩, .str ⟨#[]⟩, .str ⟨#[]⟩, .int .i64 0]
def InsV.ok (x : InsV) : Prop := x.op.ok
theorem insRow_r1 (x : InsV) : (insRow x).map T.toRO = insRow x := by simp [insRow]
theorem insRow_clean (l : List InsV) : cleanRs (l.map insRow) = true := clean_map (fun x => rfl) l
def szIns (x : InsV) (left : Int) : Int := if szOp x.op left < 0 then -1 else szOp x.op left
theorem szIns_le (x : InsV) (left : Int) (h : 0 ≤ left) : szIns x left ≤ left := by
  have := szOp_le x.op left h
  unfold szIns; (repeat' split) <;> omega
theorem runs_195 (x : InsV) (left : Int) (hx : x.ok) (h0 : 0 ≤ left) (h1 : left < 2 ^ 63) : Runs Try.prog 195 [.agg [.v (.int .i64 x.kind), .v (.int .i64 x.op.kind), .v (.str x.op.path), .v (.str x.op.to), .v (.str x.op.data), .v (.int .i64 x.n)], .one (.v (.int .i64 left))] [.one (.v (.int .i64 (szIns x left)))] [] := by
  simp only [InsV.ok] at hx
  refine runs_tab (tab := [(0, .agg [.c (.int .i64 x.kind), .c (.int .i64 x.op.kind), .c (.str x.op.path), .c (.str x.op.to), .c (.str x.op.data), .c (.int .i64 x.n)]), (1, .c (.int .i64 left))]) (rts := []) (n := 12) (k := 7) Try.func195 rfl rfl (by simp) rfl (fun t => ?_) rfl ?_
  · rcases t with _ | _ | t <;> rfl
  (refine vw_go rfl ?_; simp only [go_sem, setCells, setIn])
  (refine vw_go rfl ?_; simp only [go_sem, setCells, setIn])
  (refine ⟨_, _, call_rd [0, 0] Try.func197 (runs_197 x.op left hx h0 h1) rfl rfl rfl rfl rfl rfl rfl rfl rfl rfl rfl rfl rfl, ?_⟩)
  simp only [runH, runX, go_sem, setCells, setIn]
  refine vw_seq ?_
  (refine vw_go rfl ?_; simp only [go_sem, setCells, setIn])
  refine vw_cond (t := decide (szOp x.op left < 0)) rfl (fun g0 => ?_) (fun g0 => ?_)
  · (refine vw_go rfl ?_; simp only [go_sem, setCells, setIn])
    simp only [decide_eq_true_eq] at g0
    rw [show szIns x left = -1 from by simp [szIns, g0]]
    exact vw_ret (r_then (e_ret (ret_of rfl rfl (by simp [RB]) rfl rfl)))
  refine vw_skip (n_then ?_)
  simp only [decide_eq_false_iff_not] at g0
  (refine vw_go rfl ?_; simp only [go_sem, setCells, setIn])
  rw [show szIns x left = szOp x.op left from by simp [szIns, g0]]
  exact vw_ret (e_ret (ret_of rfl rfl (by simp [RB]) rfl rfl))

def szLIns : List InsV → Int → Int
  | [], left => left
  | x :: l, left => if szIns x left < 0 then -1 else szLIns l (szIns x left)
def szSIns (l : List InsV) (left : Int) : Int := if left - l.length < 0 then -1 else szLIns l (left - l.length)
theorem szLIns_le : ∀ (l : List InsV) (left : Int), 0 ≤ left → szLIns l left ≤ left
  | [], left, h => Int.le_refl _
  | x :: l, left, h => by
    have h1 := szIns_le x left h
    simp only [szLIns]
    split
    · omega
    · have := szLIns_le l (szIns x left) (by omega)
      omega
theorem szSIns_le (l : List InsV) (left : Int) (h : 0 ≤ left) : szSIns l left ≤ left := by
  unfold szSIns
  split
  · omega
  · have := szLIns_le l (left - l.length) (by omega)
    omega
theorem szSIns_len {l : List InsV} {left : Int} (h : ¬ szSIns l left < 0) : (l.length : Int) ≤ left := by
  unfold szSIns at h
  split at h
  · exact absurd (by decide) h
  · omega
theorem runs_170 (l : List InsV) (left : Int) (hb : ∀ x ∈ l, x.ok) (hl : l.length < 2 ^ 63) (h0 : 0 ≤ left) (h1 : left < 2 ^ 63) :
    Runs Try.prog 170 [.one (.v (.list false 6 (l.map insRow))), .one (.v (.int .i64 left))] [.one (.v (.int .i64 (szSIns l left)))] [] := by
  refine runs_tab (tab := [(0, .c (.list false 6 (l.map insRow))), (1, .c (.int .i64 left))]) (rts := []) (n := 27) (k := 2) Try.func170 rfl rfl (by simp) rfl (fun t => ?_) rfl ?_
  · rcases t with _ | _ | t <;> rfl
  have w1 : IntKind.wrap .i64 (left - l.length) = left - l.length := wrap_i64 (by omega) (by omega)
  (refine vw_go rfl ?_; simp only [go_sem, setCells, setIn])
  (refine vw_go rfl ?_; simp only [w1, go_sem, setCells, setIn])
  refine vw_seq ?_
  (refine vw_go rfl ?_; simp only [go_sem, setCells, setIn])
  refine vw_cond (t := decide (left - l.length < 0)) rfl (fun h => ?_) (fun h => ?_)
  · (refine vw_go rfl ?_; simp only [go_sem, setCells, setIn])
    simp only [decide_eq_true_eq] at h
    rw [show szSIns l left = -1 from by simp [szSIns, h]]
    exact vw_ret (r_then (e_ret (ret_of rfl rfl (by simp [RB]) rfl rfl)))
  · refine vw_skip (n_then ?_)
    simp only [decide_eq_false_iff_not] at h
    have hA := h
    refine vw_seq ?_
    (refine vw_go rfl ?_; simp only [go_sem, setCells, setIn])
    refine vw_block ?_
    refine vw_loop_tab (α := Nat × Int) (fun x => l.length - x.1) (fun x => ⟨tabE [(0, .c (.list false 6 (l.map insRow))), (1, .c (.int .i64 x.2)), (5, .c (.int .i64 x.1))], tabS [], 2⟩)
      (fun x => x.1 ≤ l.length ∧ 0 ≤ x.2 ∧ x.2 < 2 ^ 63 ∧ szLIns (l.drop x.1) x.2 = szLIns l (left - l.length)) (x := (0, left - l.length)) ?round ?h0 ?hn
    case h0 => exact ⟨Nat.zero_le _, by simp only; omega, by simp only; omega, rfl⟩
    case hn => (refine norm_to [] rfl ?_ ?_ <;> simp only [go_sem])
    rintro ⟨i, m⟩ ⟨hi, hm0, hm1, hm⟩
    simp only at hi hm0 hm1 hm
    refine vw_seq ?_
    (refine vw_go rfl ?_; simp only [go_sem, setCells, setIn])
    refine vw_cond (t := decide ((i : Int) < l.length)) rfl (fun h => ?_) (fun h => ?_)
    · refine vw_skip (n_then ?_)
      rcases get_or l i with ⟨x, hx, hlt⟩ | ⟨_, hge⟩
      case inr => simp only [decide_eq_true_eq] at h; omega
      have hxb := hb x (List.mem_of_getElem? hx)
      refine vw_seq ?_
      refine vw_block ?_
      have c1 : (0:Int) ≤ (i:Int) := by omega
      have c2 : (i:Int) < (l.length : Int) := by omega
      (refine vw_go rfl ?_; simp only [c1, c2, Int.toNat_natCast, getD_map_of hx, insRow, go_sem, setCells, setIn])
      (refine ⟨_, _, call_rd [0, 0] Try.func195 (runs_195 x m hxb hm0 hm1) rfl rfl rfl rfl rfl rfl rfl rfl rfl rfl rfl rfl rfl, ?_⟩)
      simp only [runH, runX, go_sem, setCells, setIn]
      (refine vw_go rfl ?_; simp only [go_sem, setCells, setIn])
      refine vw_cond (t := decide (szIns x m < 0)) rfl (fun h => ?_) (fun h => ?_)
      · (refine vw_go rfl ?_; simp only [go_sem, setCells, setIn])
        rw [drop_of hx] at hm
        simp only [decide_eq_true_eq] at h
        simp only [szLIns, h, if_true] at hm
        rw [show szSIns l left = -1 from by simp [szSIns, hA, ← hm]]
        exact vw_ret (r_block (r_then (r_then (r_block (r_then (e_ret (ret_of rfl rfl (by simp [RB]) rfl rfl)))))))
      · refine vw_skip (n_block (n_then ?_))
        have w2 : IntKind.wrap .i64 ((i:Int) + 1) = ((i + 1 : Nat) : Int) := by rw [wrap_i64 (by omega) (by omega)]; rfl
        (refine vw_last rfl ?_; simp only [w2, go_sem, setCells, setIn])
        refine (n_then ?_)
        simp only [decide_eq_false_iff_not] at h
        rw [drop_of hx] at hm
        simp only [szLIns, h, if_false] at hm
        have := szIns_le x m hm0
        refine ⟨(i + 1, szIns x m), by simp only; omega, ⟨by simp only; omega, by simp only; omega, by simp only; omega, hm⟩, ?_⟩
        (refine norm_to [] rfl ?_ ?_ <;> simp only [go_sem])
    · refine vw_exit (x_then (x_then (x_block (n_then ?_))))
      (refine vw_go rfl ?_; simp only [go_sem, setCells, setIn])
      simp only [decide_eq_false_iff_not] at h
      have : i = l.length := by omega
      subst this
      simp only [List.drop_length, szLIns] at hm
      rw [show szSIns l left = m from by simp [szSIns, hA, ← hm]]
      exact vw_ret (e_ret (ret_of rfl rfl (by simp [RB]) rfl rfl))

theorem runs_198 (x : InsV) : Runs Try.prog 198 [.agg [.v (.int .i64 x.kind), .v (.int .i64 x.op.kind), .v (.str x.op.path), .v (.str x.op.to), .v (.str x.op.data), .v (.int .i64 x.n)]] [.agg [.v (.int .i64 x.kind), .v (.int .i64 x.op.kind), .v (.str x.op.path), .v (.str x.op.to), .v (.str x.op.data), .v (.int .i64 x.n)]] [] := by
  refine runs_tab (tab := [(0, .agg [.c (.int .i64 x.kind), .c (.int .i64 x.op.kind), .c (.str x.op.path), .c (.str x.op.to), .c (.str x.op.data), .c (.int .i64 x.n)])]) (rts := []) (n := 15) (k := 6) Try.func198 rfl rfl (by simp) rfl (fun t => ?_) rfl ?_
  · cases t <;> rfl
  (refine vw_go rfl ?_; simp only [go_sem, setCells, setIn])
  (refine vw_go rfl ?_; simp only [go_sem, setCells, setIn])
  (refine vw_go rfl ?_; simp only [go_sem, setCells, setIn])
  (refine vw_go rfl ?_; simp only [go_sem, setCells, setIn])
  (refine ⟨_, _, call_rd [0] Try.func200 (runs_200 x.op) rfl rfl rfl rfl rfl rfl rfl rfl rfl rfl rfl rfl rfl, ?_⟩)
  simp only [runH, runX, go_sem, setCells, setIn]
  (refine vw_go rfl ?_; simp only [go_sem, setCells, setIn])
  (refine vw_go rfl ?_; simp only [go_sem, setCells, setIn])
  exact vw_ret (e_ret (ret_of rfl rfl (by simp [RB]) rfl rfl))

theorem runs_173 (l : List InsV) (hl : l.length ≤ 2 ^ 20) :
    Runs Try.prog 173 [.one (.v (.list false 6 (l.map insRow)))] [.one (.v (.list true 6 (l.map insRow)))] [] := by
  refine runs_tab (tab := [(0, .c (.list false 6 (l.map insRow)))]) (rts := []) (n := 23) (k := 1) Try.func173 rfl rfl (by simp) rfl (fun t => ?_) rfl ?_
  · rcases t with _ | t <;> rfl
  have b1 : (0:Int) ≤ (l.length : Int) := by omega
  have b2 : (l.length : Int) * (((72:Nat):Int) + 1) ≤ ((bigRow : Nat) : Int) := by simp only [bigRow]; omega
  have b3 : (l.length : Int) ≤ (l.length : Int) := by omega
  (refine vw_go rfl ?_; simp only [go_sem, setCells, setIn])
  (refine vw_go rfl ?_; simp only [b1, b2, b3, Int.toNat_natCast, go_sem, setCells, setIn])
  refine vw_seq ?_
  (refine vw_go rfl ?_; simp only [go_sem, setCells, setIn])
  refine vw_block ?_
  refine vw_loop_tab (α := Nat) (fun x => l.length - x) (fun x => ⟨tabE [(0, .c (.list false 6 (l.map insRow))), (3, .al 1 [] 0 6 0 l.length), (4, .c (.int .i64 x))], tabS [(1, some ⟨false, 6, fillW insRow zIns l x, []⟩)], 2⟩)
    (fun x => x ≤ l.length) (x := 0) ?round ?h0 ?hn
  case h0 => exact Nat.zero_le _
  case hn =>
    (refine norm_to [(67585, 1)] rfl ?_ ?_ <;> simp only [go_sem])
    · simp [fillW_zero, zIns]
  intro i hi
  refine vw_seq ?_
  (refine vw_go rfl ?_; simp only [go_sem, setCells, setIn])
  refine vw_cond (t := decide ((i : Int) < l.length)) rfl (fun h => ?_) (fun h => ?_)
  · refine vw_skip (n_then ?_)
    rcases get_or l i with ⟨x, hx, hlt⟩ | ⟨_, hge⟩
    case inr => simp only [decide_eq_true_eq] at h; omega
    have c1 : (0:Int) ≤ (i:Int) := by omega
    have c2 : (i:Int) < (l.length : Int) := by omega
    have e1 : (fillW insRow zIns l i).length = l.length := fillW_len hi
    have e2 : (fillW insRow zIns l i).getD i [] = zIns := fillW_get hlt
    have e3 : setCells i 0 [.int .i64 x.kind, .int .i64 x.op.kind, .str x.op.path, .str x.op.to, .str x.op.data, .int .i64 x.n] (fillW insRow zIns l i) = fillW insRow zIns l (i + 1) := fillW_set hx rfl rfl
    have e4 : zIns.length = 6 := rfl
    refine vw_seq ?_
    refine vw_block ?_
    (refine vw_last rfl ?_; simp only [c1, c2, Int.toNat_natCast, getD_map_of hx, insRow, go_sem])
    (refine ⟨_, _, call_rd [0] Try.func198 (runs_198 x) rfl rfl rfl rfl rfl rfl rfl rfl rfl rfl rfl rfl rfl, ?_⟩)
    simp only [runH, runX, c1, c2, e1, e2, e3, e4, hlt, Int.toNat_natCast, go_sem]
    refine (n_block (n_then ?_))
    have w2 : IntKind.wrap .i64 ((i:Int) + 1) = ((i + 1 : Nat) : Int) := by rw [wrap_i64 (by omega) (by omega)]; rfl
    (refine vw_last rfl ?_; simp only [w2, go_sem, setCells, setIn])
    refine (n_then ?_)
    refine ⟨i + 1, by omega, hlt, ?_⟩
    (refine norm_to [(1, 1)] rfl ?_ ?_ <;> simp only [go_sem])
  · refine vw_exit (x_then (x_then (x_block (n_then ?_))))
    (refine vw_go rfl ?_; simp only [go_sem, setCells, setIn])
    simp only [decide_eq_false_iff_not] at h
    have : i = l.length := by omega
    subst this
    rw [← fillW_end insRow zIns l]
    exact vw_ret (e_ret (ret_of rfl rfl (by simp [RB]) rfl (take_whole (R := ⟨false, 6, fillW insRow zIns l l.length, []⟩) rfl rfl rfl (fillW_len (Nat.le_refl _)))))

theorem runs_201 (x y : InsV) : Runs Try.prog 201 [.agg [.v (.int .i64 x.kind), .v (.int .i64 x.op.kind), .v (.str x.op.path), .v (.str x.op.to), .v (.str x.op.data), .v (.int .i64 x.n)], .agg [.v (.int .i64 y.kind), .v (.int .i64 y.op.kind), .v (.str y.op.path), .v (.str y.op.to), .v (.str y.op.data), .v (.int .i64 y.n)]] [.one (.v (.bool (decide (x = y))))] [] := by
  refine runs_tab (tab := [(0, .agg [.c (.int .i64 x.kind), .c (.int .i64 x.op.kind), .c (.str x.op.path), .c (.str x.op.to), .c (.str x.op.data), .c (.int .i64 x.n)]), (1, .agg [.c (.int .i64 y.kind), .c (.int .i64 y.op.kind), .c (.str y.op.path), .c (.str y.op.to), .c (.str y.op.data), .c (.int .i64 y.n)])]) (rts := []) (n := 21) (k := 12) Try.func201 rfl rfl (by simp) rfl (fun t => ?_) rfl ?_
  · rcases t with _ | _ | t <;> rfl
  (refine vw_go rfl ?_; simp only [go_sem, setCells, setIn])
  refine vw_seq ?_
  (refine vw_go rfl ?_; simp only [go_sem, setCells, setIn])
  refine vw_cond (t := !decide (x.kind = y.kind)) rfl (fun g0 => ?_) (fun g0 => ?_)
  · (refine vw_go rfl ?_; simp only [go_sem, setCells, setIn])
    rw [show decide (x = y) = false from decide_eq_false (fun e => by subst e; simp at g0)]
    exact vw_ret (r_then (e_ret (ret_of rfl rfl (by simp [RB]) rfl rfl)))
  refine vw_skip (n_then ?_)
  refine vw_seq ?_
  (refine vw_go rfl ?_; simp only [go_sem, setCells, setIn])
  (refine ⟨_, _, call_rd [0, 0] Try.func202 (runs_202 x.op y.op) rfl rfl rfl rfl rfl rfl rfl rfl rfl rfl rfl rfl rfl, ?_⟩)
  simp only [runH, runX, go_sem, setCells, setIn]
  refine vw_cond (t := !decide (x.op = y.op)) rfl (fun g1 => ?_) (fun g1 => ?_)
  · (refine vw_go rfl ?_; simp only [go_sem, setCells, setIn])
    rw [show decide (x = y) = false from decide_eq_false (fun e => by subst e; simp at g1)]
    exact vw_ret (r_then (e_ret (ret_of rfl rfl (by simp [RB]) rfl rfl)))
  refine vw_skip (n_then ?_)
  refine vw_seq ?_
  (refine vw_go rfl ?_; simp only [go_sem, setCells, setIn])
  refine vw_cond (t := !decide (x.n = y.n)) rfl (fun g2 => ?_) (fun g2 => ?_)
  · (refine vw_go rfl ?_; simp only [go_sem, setCells, setIn])
    rw [show decide (x = y) = false from decide_eq_false (fun e => by subst e; simp at g2)]
    exact vw_ret (r_then (e_ret (ret_of rfl rfl (by simp [RB]) rfl rfl)))
  refine vw_skip (n_then ?_)
  (refine vw_go rfl ?_; simp only [go_sem, setCells, setIn])
  rw [show decide (x = y) = true from decide_eq_true (by cases x; cases y; simp_all)]
  exact vw_ret (e_ret (ret_of rfl rfl (by simp [RB]) rfl rfl))

theorem runs_176 (a b : List InsV) (ha : a.length < 2 ^ 63) (hb : b.length < 2 ^ 63) :
    Runs Try.prog 176 [.one (.v (.list false 6 (a.map insRow))), .one (.v (.list false 6 (b.map insRow)))] [.one (.v (.bool (decide (a = b))))] [] := by
  refine runs_tab (tab := [(0, .c (.list false 6 (a.map insRow))), (1, .c (.list false 6 (b.map insRow)))]) (rts := []) (n := 27) (k := 2) Try.func176 rfl rfl (by simp) rfl (fun t => ?_) rfl ?_
  · rcases t with _ | _ | t <;> rfl
  (refine vw_go rfl ?_; simp only [go_sem, setCells, setIn])
  refine vw_seq ?_
  (refine vw_go rfl ?_; simp only [go_sem, setCells, setIn])
  refine vw_cond (t := !decide ((a.length : Int) = b.length)) rfl (fun h => ?_) (fun h => ?_)
  · (refine vw_go rfl ?_; simp only [go_sem, setCells, setIn])
    have h' : ¬ a = b := by
      intro e; subst e; simp at h
    rw [decide_eq_false h']
    exact vw_ret (r_then (e_ret (ret_of rfl rfl (by simp [RB]) rfl rfl)))
  · have hab : a.length = b.length := by
      have : (a.length : Int) = b.length := by simpa using h
      omega
    refine vw_skip (n_then ?_)
    refine vw_seq ?_
    (refine vw_go rfl ?_; simp only [go_sem, setCells, setIn])
    refine vw_block ?_
    refine vw_loop_tab (α := Nat) (fun x => a.length - x) (fun x => ⟨tabE [(0, .c (.list false 6 (a.map insRow))), (1, .c (.list false 6 (b.map insRow))), (5, .c (.int .i64 x))], tabS [], 2⟩)
      (fun x => x ≤ a.length ∧ a.take x = b.take x) (x := 0) ?round ?h0 ?hn
    case h0 => exact ⟨Nat.zero_le _, by simp⟩
    case hn => (refine norm_to [] rfl ?_ ?_ <;> simp only [go_sem])
    rintro i ⟨hi, htk⟩
    refine vw_seq ?_
    (refine vw_go rfl ?_; simp only [go_sem, setCells, setIn])
    refine vw_cond (t := decide ((i : Int) < a.length)) rfl (fun h => ?_) (fun h => ?_)
    · refine vw_skip (n_then ?_)
      rcases get_or a i with ⟨x, hx, hlt⟩ | ⟨_, hge⟩
      case inr => simp only [decide_eq_true_eq] at h; omega
      rcases get_or b i with ⟨y, hy, hlt'⟩ | ⟨_, hge⟩
      case inr => omega
      have c1 : (0:Int) ≤ (i:Int) := by omega
      have c2 : (i:Int) < (a.length : Int) := by omega
      have c3 : (i:Int) < (b.length : Int) := by omega
      refine vw_seq ?_
      refine vw_block ?_
      (refine vw_draw mixed rfl rfl ?_; simp only [c1, c2, c3, Int.toNat_natCast, getD_map_of hx, getD_map_of hy, insRow, go_sem, setCells, setIn])
      (refine ⟨_, _, _, call_rd_at [0, 0] [] Try.func201 (runs_201 x y) (fun _ _ => rfl) rfl rfl rfl rfl rfl rfl rfl rfl rfl rfl rfl rfl, ?_⟩)
      simp only [runH, runX, go_sem, setCells, setIn]
      refine ⟨by unfold allOk; kernel_rfl, ?_⟩
      refine vw_cond (t := !decide (x = y)) rfl (fun h => ?_) (fun h => ?_)
      · (refine vw_go rfl ?_; simp only [go_sem, setCells, setIn])
        have h' : ¬ a = b := by
          intro e; subst e
          rw [hx] at hy
          simp only [Option.some.injEq] at hy
          subst hy
          simp at h
        rw [decide_eq_false h']
        exact vw_ret (r_block (r_then (r_then (r_block (r_then (e_ret (ret_of rfl rfl (by simp [RB]) rfl rfl)))))))
      · refine vw_skip (n_block (n_then ?_))
        have w2 : IntKind.wrap .i64 ((i:Int) + 1) = ((i + 1 : Nat) : Int) := by rw [wrap_i64 (by omega) (by omega)]; rfl
        (refine vw_last rfl ?_; simp only [w2, go_sem, setCells, setIn])
        refine (n_then ?_)
        have hxy : x = y := by simpa using h
        refine ⟨i + 1, by omega, ⟨hlt, ?_⟩, ?_⟩
        · rw [List.take_add_one, List.take_add_one, hx, hy, htk, hxy]
        · (refine norm_to [] rfl ?_ ?_ <;> simp only [go_sem])
    · refine vw_exit (x_then (x_then (x_block (n_then ?_))))
      (refine vw_go rfl ?_; simp only [go_sem, setCells, setIn])
      simp only [decide_eq_false_iff_not] at h
      have h' : a = b := by
        have e1 : i = a.length := by omega
        rw [e1, List.take_length, hab, List.take_length] at htk
        exact htk
      rw [decide_eq_true h']
      exact vw_ret (e_ret (ret_of rfl rfl (by simp [RB]) rfl rfl))

theorem typed_161 {k : Nat} {ts : List T} (h : typed Try.prog (k + 4) 161 ts) : ∃ l : List InsV, ts = [.list false 6 (l.map insRow)] ∧ l.length < 2 ^ 63 ∧ ∀ x ∈ l, x.ok := by
  simp only [typed, Try.underlying161, Try.underlying225, Try.underlying223, typedF, Try.underlying3, Try.underlying9, Try.underlying4, cellsOf_225, List.map_cons, List.map_nil] at h
  obtain ⟨rows, rfl, hlen, hrows⟩ := h
  obtain ⟨l, rfl, hl⟩ := map_of (f := insRow) (Q := InsV.ok) (rows := rows) (fun r hr => by
    obtain ⟨_, _, rfl, ⟨u_kind, rfl, _⟩, _, _, rfl, ⟨_, _, rfl, ⟨u_op_kind, rfl, _⟩, _, _, rfl, ⟨u_op_path, rfl, u_op_path_ok⟩, _, _, rfl, ⟨u_op_to, rfl, u_op_to_ok⟩, _, _, rfl, ⟨u_op_data, rfl, u_op_data_ok⟩, rfl⟩, _, _, rfl, ⟨u_n, rfl, _⟩, rfl⟩ := hrows r hr
    exact ⟨⟨u_kind, ⟨u_op_kind, u_op_path, u_op_to, u_op_data⟩, u_n⟩, rfl, ⟨u_op_path_ok, u_op_to_ok, u_op_data_ok⟩⟩)
  exact ⟨l, rfl, by simpa using hlen, hl⟩
end Go.Proofs.Ytppbonbghmdhhaa
