/- Op values: trees, and the walks of their size, their copy, their comparing (one; a slice). Printed by a program (tfun.py). -/
import Derived.Test.YtppbonbghmdhhaaPFBase
namespace Go.Proofs.Ytppbonbghmdhhaa
open Go.VM
set_option maxRecDepth 100000
set_option linter.unusedSimpArgs false
set_option linter.unusedVariables false
attribute [local congr] vw_congr runV_congr runH_congr runW_congr runX_congr

structure OpV where
  kind : Int
  path : ByteArray
  to : ByteArray
  data : ByteArray
  deriving DecidableEq
def opRow (x : OpV) : List T := [.int .i64 x.kind, .str x.path, .str x.to, .str x.data]
def zOp : List T := [.int .i64 0, .str ⟨#[]⟩, .str ⟨#[]⟩, .str ⟨#[]⟩]
def OpV.ok (x : OpV) : Prop := x.path.size < 2 ^ 63 ∧ x.to.size < 2 ^ 63 ∧ x.data.size < 2 ^ 63
theorem opRow_r1 (x : OpV) : (opRow x).map T.toRO = opRow x := by simp [opRow]
theorem opRow_clean (l : List OpV) : cleanRs (l.map opRow) = true := clean_map (fun x => rfl) l
def szOp (x : OpV) (left : Int) : Int := if left - x.path.size < 0 then -1 else if left - x.path.size - x.to.size < 0 then -1 else if left - x.path.size - x.to.size - x.data.size < 0 then -1 else left - x.path.size - x.to.size - x.data.size
theorem szOp_le (x : OpV) (left : Int) (h : 0 ≤ left) : szOp x left ≤ left := by
  unfold szOp; (repeat' split) <;> omega
theorem runs_197 (x : OpV) (left : Int) (hx : x.ok) (h0 : 0 ≤ left) (h1 : left < 2 ^ 63) : Runs Try.prog 197 [.agg [.v (.int .i64 x.kind), .v (.str x.path), .v (.str x.to), .v (.str x.data)], .one (.v (.int .i64 left))] [.one (.v (.int .i64 (szOp x left)))] [] := by
  simp only [OpV.ok] at hx
  refine runs_tab (tab := [(0, .agg [.c (.int .i64 x.kind), .c (.str x.path), .c (.str x.to), .c (.str x.data)]), (1, .c (.int .i64 left))]) (rts := []) (n := 27) (k := 5) Try.func197 rfl rfl (by simp) rfl (fun t => ?_) rfl ?_
  · rcases t with _ | _ | t <;> rfl
  (refine vw_go rfl ?_; simp only [go_sem, setCells, setIn])
  have w0 : IntKind.wrap .i64 (left - x.path.size) = left - x.path.size := wrap_i64 (by omega) (by omega)
  (refine vw_go rfl ?_; simp only [w0, go_sem, setCells, setIn])
  refine vw_seq ?_
  (refine vw_go rfl ?_; simp only [go_sem, setCells, setIn])
  refine vw_cond (t := decide (left - x.path.size < 0)) rfl (fun g0 => ?_) (fun g0 => ?_)
  · (refine vw_go rfl ?_; simp only [go_sem, setCells, setIn])
    simp only [decide_eq_true_eq] at g0
    rw [show szOp x left = -1 from by simp [szOp, g0]]
    exact vw_ret (r_then (e_ret (ret_of rfl rfl (by simp [RB]) rfl rfl)))
  refine vw_skip (n_then ?_)
  simp only [decide_eq_false_iff_not] at g0
  have w1 : IntKind.wrap .i64 (left - x.path.size - x.to.size) = left - x.path.size - x.to.size := wrap_i64 (by omega) (by omega)
  (refine vw_go rfl ?_; simp only [w1, go_sem, setCells, setIn])
  refine vw_seq ?_
  (refine vw_go rfl ?_; simp only [go_sem, setCells, setIn])
  refine vw_cond (t := decide (left - x.path.size - x.to.size < 0)) rfl (fun g1 => ?_) (fun g1 => ?_)
  · (refine vw_go rfl ?_; simp only [go_sem, setCells, setIn])
    simp only [decide_eq_true_eq] at g1
    rw [show szOp x left = -1 from by simp [szOp, g0, g1]]
    exact vw_ret (r_then (e_ret (ret_of rfl rfl (by simp [RB]) rfl rfl)))
  refine vw_skip (n_then ?_)
  simp only [decide_eq_false_iff_not] at g1
  have w2 : IntKind.wrap .i64 (left - x.path.size - x.to.size - x.data.size) = left - x.path.size - x.to.size - x.data.size := wrap_i64 (by omega) (by omega)
  (refine vw_go rfl ?_; simp only [w2, go_sem, setCells, setIn])
  refine vw_seq ?_
  (refine vw_go rfl ?_; simp only [go_sem, setCells, setIn])
  refine vw_cond (t := decide (left - x.path.size - x.to.size - x.data.size < 0)) rfl (fun g2 => ?_) (fun g2 => ?_)
  · (refine vw_go rfl ?_; simp only [go_sem, setCells, setIn])
    simp only [decide_eq_true_eq] at g2
    rw [show szOp x left = -1 from by simp [szOp, g0, g1, g2]]
    exact vw_ret (r_then (e_ret (ret_of rfl rfl (by simp [RB]) rfl rfl)))
  refine vw_skip (n_then ?_)
  simp only [decide_eq_false_iff_not] at g2
  (refine vw_go rfl ?_; simp only [go_sem, setCells, setIn])
  rw [show szOp x left = left - x.path.size - x.to.size - x.data.size from by simp [szOp, g0, g1, g2]]
  exact vw_ret (e_ret (ret_of rfl rfl (by simp [RB]) rfl rfl))

def szLOp : List OpV → Int → Int
  | [], left => left
  | x :: l, left => if szOp x left < 0 then -1 else szLOp l (szOp x left)
def szSOp (l : List OpV) (left : Int) : Int := if left - l.length < 0 then -1 else szLOp l (left - l.length)
theorem szLOp_le : ∀ (l : List OpV) (left : Int), 0 ≤ left → szLOp l left ≤ left
  | [], left, h => Int.le_refl _
  | x :: l, left, h => by
    have h1 := szOp_le x left h
    simp only [szLOp]
    split
    · omega
    · have := szLOp_le l (szOp x left) (by omega)
      omega
theorem szSOp_le (l : List OpV) (left : Int) (h : 0 ≤ left) : szSOp l left ≤ left := by
  unfold szSOp
  split
  · omega
  · have := szLOp_le l (left - l.length) (by omega)
    omega
theorem szSOp_len {l : List OpV} {left : Int} (h : ¬ szSOp l left < 0) : (l.length : Int) ≤ left := by
  unfold szSOp at h
  split at h
  · exact absurd (by decide) h
  · omega
theorem runs_172 (l : List OpV) (left : Int) (hb : ∀ x ∈ l, x.ok) (hl : l.length < 2 ^ 63) (h0 : 0 ≤ left) (h1 : left < 2 ^ 63) :
    Runs Try.prog 172 [.one (.v (.list false 4 (l.map opRow))), .one (.v (.int .i64 left))] [.one (.v (.int .i64 (szSOp l left)))] [] := by
  refine runs_tab (tab := [(0, .c (.list false 4 (l.map opRow))), (1, .c (.int .i64 left))]) (rts := []) (n := 27) (k := 2) Try.func172 rfl rfl (by simp) rfl (fun t => ?_) rfl ?_
  · rcases t with _ | _ | t <;> rfl
  have w1 : IntKind.wrap .i64 (left - l.length) = left - l.length := wrap_i64 (by omega) (by omega)
  (refine vw_go rfl ?_; simp only [go_sem, setCells, setIn])
  (refine vw_go rfl ?_; simp only [w1, go_sem, setCells, setIn])
  refine vw_seq ?_
  (refine vw_go rfl ?_; simp only [go_sem, setCells, setIn])
  refine vw_cond (t := decide (left - l.length < 0)) rfl (fun h => ?_) (fun h => ?_)
  · (refine vw_go rfl ?_; simp only [go_sem, setCells, setIn])
    simp only [decide_eq_true_eq] at h
    rw [show szSOp l left = -1 from by simp [szSOp, h]]
    exact vw_ret (r_then (e_ret (ret_of rfl rfl (by simp [RB]) rfl rfl)))
  · refine vw_skip (n_then ?_)
    simp only [decide_eq_false_iff_not] at h
    have hA := h
    refine vw_seq ?_
    (refine vw_go rfl ?_; simp only [go_sem, setCells, setIn])
    refine vw_block ?_
    refine vw_loop_tab (α := Nat × Int) (fun x => l.length - x.1) (fun x => ⟨tabE [(0, .c (.list false 4 (l.map opRow))), (1, .c (.int .i64 x.2)), (5, .c (.int .i64 x.1))], tabS [], 2⟩)
      (fun x => x.1 ≤ l.length ∧ 0 ≤ x.2 ∧ x.2 < 2 ^ 63 ∧ szLOp (l.drop x.1) x.2 = szLOp l (left - l.length)) (x := (0, left - l.length)) ?round ?h0 ?hn
    case h0 => exact ⟨Nat.zero_le _, by simp only; omega, by simp only; omega, rfl⟩
    case hn => (refine norm_to [] rfl ?_ ?_ <;> simp only [go_sem])
    rintro ⟨i, m⟩ ⟨hi, hm0, hm1, hm⟩
    simp only at hi hm0 hm1 hm
    refine vw_seq ?_
    (refine vw_go rfl ?_; simp only [go_sem, setCells, setIn])
    refine vw_cond (t := decide ((i : Int) < l.length)) rfl (fun h => ?_) (fun h => ?_)
    · refine vw_skip (n_then ?_)
      rcases get_or l i with ⟨x, hx, hlt⟩ | ⟨_, hge⟩
      case inr => simp only [decide_eq_true_eq] at h; omega
      have hxb := hb x (List.mem_of_getElem? hx)
      refine vw_seq ?_
      refine vw_block ?_
      have c1 : (0:Int) ≤ (i:Int) := by omega
      have c2 : (i:Int) < (l.length : Int) := by omega
      (refine vw_go rfl ?_; simp only [c1, c2, Int.toNat_natCast, getD_map_of hx, opRow, go_sem, setCells, setIn])
      (refine ⟨_, _, call_rd [0, 0] Try.func197 (runs_197 x m hxb hm0 hm1) rfl rfl rfl rfl rfl rfl rfl rfl rfl rfl rfl rfl rfl, ?_⟩)
      simp only [runH, runX, go_sem, setCells, setIn]
      (refine vw_go rfl ?_; simp only [go_sem, setCells, setIn])
      refine vw_cond (t := decide (szOp x m < 0)) rfl (fun h => ?_) (fun h => ?_)
      · (refine vw_go rfl ?_; simp only [go_sem, setCells, setIn])
        rw [drop_of hx] at hm
        simp only [decide_eq_true_eq] at h
        simp only [szLOp, h, if_true] at hm
        rw [show szSOp l left = -1 from by simp [szSOp, hA, ← hm]]
        exact vw_ret (r_block (r_then (r_then (r_block (r_then (e_ret (ret_of rfl rfl (by simp [RB]) rfl rfl)))))))
      · refine vw_skip (n_block (n_then ?_))
        have w2 : IntKind.wrap .i64 ((i:Int) + 1) = ((i + 1 : Nat) : Int) := by rw [wrap_i64 (by omega) (by omega)]; rfl
        (refine vw_last rfl ?_; simp only [w2, go_sem, setCells, setIn])
        refine (n_then ?_)
        simp only [decide_eq_false_iff_not] at h
        rw [drop_of hx] at hm
        simp only [szLOp, h, if_false] at hm
        have := szOp_le x m hm0
        refine ⟨(i + 1, szOp x m), by simp only; omega, ⟨by simp only; omega, by simp only; omega, by simp only; omega, hm⟩, ?_⟩
        (refine norm_to [] rfl ?_ ?_ <;> simp only [go_sem])
    · refine vw_exit (x_then (x_then (x_block (n_then ?_))))
      (refine vw_go rfl ?_; simp only [go_sem, setCells, setIn])
      simp only [decide_eq_false_iff_not] at h
      have : i = l.length := by omega
      subst this
      simp only [List.drop_length, szLOp] at hm
      rw [show szSOp l left = m from by simp [szSOp, hA, ← hm]]
      exact vw_ret (e_ret (ret_of rfl rfl (by simp [RB]) rfl rfl))

theorem runs_200 (x : OpV) : Runs Try.prog 200 [.agg [.v (.int .i64 x.kind), .v (.str x.path), .v (.str x.to), .v (.str x.data)]] [.agg [.v (.int .i64 x.kind), .v (.str x.path), .v (.str x.to), .v (.str x.data)]] [] := by
  refine runs_tab (tab := [(0, .agg [.c (.int .i64 x.kind), .c (.str x.path), .c (.str x.to), .c (.str x.data)])]) (rts := []) (n := 17) (k := 4) Try.func200 rfl rfl (by simp) rfl (fun t => ?_) rfl ?_
  · cases t <;> rfl
  (refine vw_go rfl ?_; simp only [go_sem, setCells, setIn])
  (refine vw_go rfl ?_; simp only [go_sem, setCells, setIn])
  (refine vw_go rfl ?_; simp only [go_sem, setCells, setIn])
  (refine vw_go rfl ?_; simp only [go_sem, setCells, setIn])
  (refine vw_go rfl ?_; simp only [go_sem, setCells, setIn])
  (refine vw_go rfl ?_; simp only [go_sem, setCells, setIn])
  (refine vw_go rfl ?_; simp only [go_sem, setCells, setIn])
  exact vw_ret (e_ret (ret_of rfl rfl (by simp [RB]) rfl rfl))

theorem runs_175 (l : List OpV) (hl : l.length ≤ 2 ^ 20) :
    Runs Try.prog 175 [.one (.v (.list false 4 (l.map opRow)))] [.one (.v (.list true 4 (l.map opRow)))] [] := by
  refine runs_tab (tab := [(0, .c (.list false 4 (l.map opRow)))]) (rts := []) (n := 23) (k := 1) Try.func175 rfl rfl (by simp) rfl (fun t => ?_) rfl ?_
  · rcases t with _ | t <;> rfl
  have b1 : (0:Int) ≤ (l.length : Int) := by omega
  have b2 : (l.length : Int) * (((56:Nat):Int) + 1) ≤ ((bigRow : Nat) : Int) := by simp only [bigRow]; omega
  have b3 : (l.length : Int) ≤ (l.length : Int) := by omega
  (refine vw_go rfl ?_; simp only [go_sem, setCells, setIn])
  (refine vw_go rfl ?_; simp only [b1, b2, b3, Int.toNat_natCast, go_sem, setCells, setIn])
  refine vw_seq ?_
  (refine vw_go rfl ?_; simp only [go_sem, setCells, setIn])
  refine vw_block ?_
  refine vw_loop_tab (α := Nat) (fun x => l.length - x) (fun x => ⟨tabE [(0, .c (.list false 4 (l.map opRow))), (3, .al 1 [] 0 4 0 l.length), (4, .c (.int .i64 x))], tabS [(1, some ⟨false, 4, fillW opRow zOp l x, []⟩)], 2⟩)
    (fun x => x ≤ l.length) (x := 0) ?round ?h0 ?hn
  case h0 => exact Nat.zero_le _
  case hn =>
    (refine norm_to [(67585, 1)] rfl ?_ ?_ <;> simp only [go_sem])
    · simp [fillW_zero, zOp]
  intro i hi
  refine vw_seq ?_
  (refine vw_go rfl ?_; simp only [go_sem, setCells, setIn])
  refine vw_cond (t := decide ((i : Int) < l.length)) rfl (fun h => ?_) (fun h => ?_)
  · refine vw_skip (n_then ?_)
    rcases get_or l i with ⟨x, hx, hlt⟩ | ⟨_, hge⟩
    case inr => simp only [decide_eq_true_eq] at h; omega
    have c1 : (0:Int) ≤ (i:Int) := by omega
    have c2 : (i:Int) < (l.length : Int) := by omega
    have e1 : (fillW opRow zOp l i).length = l.length := fillW_len hi
    have e2 : (fillW opRow zOp l i).getD i [] = zOp := fillW_get hlt
    have e3 : setCells i 0 [.int .i64 x.kind, .str x.path, .str x.to, .str x.data] (fillW opRow zOp l i) = fillW opRow zOp l (i + 1) := fillW_set hx rfl rfl
    have e4 : zOp.length = 4 := rfl
    refine vw_seq ?_
    refine vw_block ?_
    (refine vw_last rfl ?_; simp only [c1, c2, Int.toNat_natCast, getD_map_of hx, opRow, go_sem])
    (refine ⟨_, _, call_rd [0] Try.func200 (runs_200 x) rfl rfl rfl rfl rfl rfl rfl rfl rfl rfl rfl rfl rfl, ?_⟩)
    simp only [runH, runX, c1, c2, e1, e2, e3, e4, hlt, Int.toNat_natCast, go_sem]
    refine (n_block (n_then ?_))
    have w2 : IntKind.wrap .i64 ((i:Int) + 1) = ((i + 1 : Nat) : Int) := by rw [wrap_i64 (by omega) (by omega)]; rfl
    (refine vw_last rfl ?_; simp only [w2, go_sem, setCells, setIn])
    refine (n_then ?_)
    refine ⟨i + 1, by omega, hlt, ?_⟩
    (refine norm_to [(1, 1)] rfl ?_ ?_ <;> simp only [go_sem])
  · refine vw_exit (x_then (x_then (x_block (n_then ?_))))
    (refine vw_go rfl ?_; simp only [go_sem, setCells, setIn])
    simp only [decide_eq_false_iff_not] at h
    have : i = l.length := by omega
    subst this
    rw [← fillW_end opRow zOp l]
    exact vw_ret (e_ret (ret_of rfl rfl (by simp [RB]) rfl (take_whole (R := ⟨false, 4, fillW opRow zOp l l.length, []⟩) rfl rfl rfl (fillW_len (Nat.le_refl _)))))

theorem runs_202 (x y : OpV) : Runs Try.prog 202 [.agg [.v (.int .i64 x.kind), .v (.str x.path), .v (.str x.to), .v (.str x.data)], .agg [.v (.int .i64 y.kind), .v (.str y.path), .v (.str y.to), .v (.str y.data)]] [.one (.v (.bool (decide (x = y))))] [] := by
  refine runs_tab (tab := [(0, .agg [.c (.int .i64 x.kind), .c (.str x.path), .c (.str x.to), .c (.str x.data)]), (1, .agg [.c (.int .i64 y.kind), .c (.str y.path), .c (.str y.to), .c (.str y.data)])]) (rts := []) (n := 25) (k := 8) Try.func202 rfl rfl (by simp) rfl (fun t => ?_) rfl ?_
  · rcases t with _ | _ | t <;> rfl
  (refine vw_go rfl ?_; simp only [go_sem, setCells, setIn])
  refine vw_seq ?_
  (refine vw_go rfl ?_; simp only [go_sem, setCells, setIn])
  refine vw_cond (t := !decide (x.kind = y.kind)) rfl (fun g0 => ?_) (fun g0 => ?_)
  · (refine vw_go rfl ?_; simp only [go_sem, setCells, setIn])
    rw [show decide (x = y) = false from decide_eq_false (fun e => by subst e; simp at g0)]
    exact vw_ret (r_then (e_ret (ret_of rfl rfl (by simp [RB]) rfl rfl)))
  refine vw_skip (n_then ?_)
  refine vw_seq ?_
  (refine vw_go rfl ?_; simp only [go_sem, setCells, setIn])
  refine vw_cond (t := !decide (x.path = y.path)) rfl (fun g1 => ?_) (fun g1 => ?_)
  · (refine vw_go rfl ?_; simp only [go_sem, setCells, setIn])
    rw [show decide (x = y) = false from decide_eq_false (fun e => by subst e; simp at g1)]
    exact vw_ret (r_then (e_ret (ret_of rfl rfl (by simp [RB]) rfl rfl)))
  refine vw_skip (n_then ?_)
  refine vw_seq ?_
  (refine vw_go rfl ?_; simp only [go_sem, setCells, setIn])
  refine vw_cond (t := !decide (x.to = y.to)) rfl (fun g2 => ?_) (fun g2 => ?_)
  · (refine vw_go rfl ?_; simp only [go_sem, setCells, setIn])
    rw [show decide (x = y) = false from decide_eq_false (fun e => by subst e; simp at g2)]
    exact vw_ret (r_then (e_ret (ret_of rfl rfl (by simp [RB]) rfl rfl)))
  refine vw_skip (n_then ?_)
  refine vw_seq ?_
  (refine vw_go rfl ?_; simp only [go_sem, setCells, setIn])
  refine vw_cond (t := !decide (x.data = y.data)) rfl (fun g3 => ?_) (fun g3 => ?_)
  · (refine vw_go rfl ?_; simp only [go_sem, setCells, setIn])
    rw [show decide (x = y) = false from decide_eq_false (fun e => by subst e; simp at g3)]
    exact vw_ret (r_then (e_ret (ret_of rfl rfl (by simp [RB]) rfl rfl)))
  refine vw_skip (n_then ?_)
  (refine vw_go rfl ?_; simp only [go_sem, setCells, setIn])
  rw [show decide (x = y) = true from decide_eq_true (by cases x; cases y; simp_all)]
  exact vw_ret (e_ret (ret_of rfl rfl (by simp [RB]) rfl rfl))

theorem runs_177 (a b : List OpV) (ha : a.length < 2 ^ 63) (hb : b.length < 2 ^ 63) :
    Runs Try.prog 177 [.one (.v (.list false 4 (a.map opRow))), .one (.v (.list false 4 (b.map opRow)))] [.one (.v (.bool (decide (a = b))))] [] := by
  refine runs_tab (tab := [(0, .c (.list false 4 (a.map opRow))), (1, .c (.list false 4 (b.map opRow)))]) (rts := []) (n := 27) (k := 2) Try.func177 rfl rfl (by simp) rfl (fun t => ?_) rfl ?_
  · rcases t with _ | _ | t <;> rfl
  (refine vw_go rfl ?_; simp only [go_sem, setCells, setIn])
  refine vw_seq ?_
  (refine vw_go rfl ?_; simp only [go_sem, setCells, setIn])
  refine vw_cond (t := !decide ((a.length : Int) = b.length)) rfl (fun h => ?_) (fun h => ?_)
  · (refine vw_go rfl ?_; simp only [go_sem, setCells, setIn])
    have h' : ¬ a = b := by
      intro e; subst e; simp at h
    rw [decide_eq_false h']
    exact vw_ret (r_then (e_ret (ret_of rfl rfl (by simp [RB]) rfl rfl)))
  · have hab : a.length = b.length := by
      have : (a.length : Int) = b.length := by simpa using h
      omega
    refine vw_skip (n_then ?_)
    refine vw_seq ?_
    (refine vw_go rfl ?_; simp only [go_sem, setCells, setIn])
    refine vw_block ?_
    refine vw_loop_tab (α := Nat) (fun x => a.length - x) (fun x => ⟨tabE [(0, .c (.list false 4 (a.map opRow))), (1, .c (.list false 4 (b.map opRow))), (5, .c (.int .i64 x))], tabS [], 2⟩)
      (fun x => x ≤ a.length ∧ a.take x = b.take x) (x := 0) ?round ?h0 ?hn
    case h0 => exact ⟨Nat.zero_le _, by simp⟩
    case hn => (refine norm_to [] rfl ?_ ?_ <;> simp only [go_sem])
    rintro i ⟨hi, htk⟩
    refine vw_seq ?_
    (refine vw_go rfl ?_; simp only [go_sem, setCells, setIn])
    refine vw_cond (t := decide ((i : Int) < a.length)) rfl (fun h => ?_) (fun h => ?_)
    · refine vw_skip (n_then ?_)
      rcases get_or a i with ⟨x, hx, hlt⟩ | ⟨_, hge⟩
      case inr => simp only [decide_eq_true_eq] at h; omega
      rcases get_or b i with ⟨y, hy, hlt'⟩ | ⟨_, hge⟩
      case inr => omega
      have c1 : (0:Int) ≤ (i:Int) := by omega
      have c2 : (i:Int) < (a.length : Int) := by omega
      have c3 : (i:Int) < (b.length : Int) := by omega
      refine vw_seq ?_
      refine vw_block ?_
      (refine vw_draw mixed rfl rfl ?_; simp only [c1, c2, c3, Int.toNat_natCast, getD_map_of hx, getD_map_of hy, opRow, go_sem, setCells, setIn])
      (refine ⟨_, _, _, call_rd_at [0, 0] [] Try.func202 (runs_202 x y) (fun _ _ => rfl) rfl rfl rfl rfl rfl rfl rfl rfl rfl rfl rfl rfl, ?_⟩)
      simp only [runH, runX, go_sem, setCells, setIn]
      refine ⟨by unfold allOk; kernel_rfl, ?_⟩
      refine vw_cond (t := !decide (x = y)) rfl (fun h => ?_) (fun h => ?_)
      · (refine vw_go rfl ?_; simp only [go_sem, setCells, setIn])
        have h' : ¬ a = b := by
          intro e; subst e
          rw [hx] at hy
          simp only [Option.some.injEq] at hy
          subst hy
          simp at h
        rw [decide_eq_false h']
        exact vw_ret (r_block (r_then (r_then (r_block (r_then (e_ret (ret_of rfl rfl (by simp [RB]) rfl rfl)))))))
      · refine vw_skip (n_block (n_then ?_))
        have w2 : IntKind.wrap .i64 ((i:Int) + 1) = ((i + 1 : Nat) : Int) := by rw [wrap_i64 (by omega) (by omega)]; rfl
        (refine vw_last rfl ?_; simp only [w2, go_sem, setCells, setIn])
        refine (n_then ?_)
        have hxy : x = y := by simpa using h
        refine ⟨i + 1, by omega, ⟨hlt, ?_⟩, ?_⟩
        · rw [List.take_add_one, List.take_add_one, hx, hy, htk, hxy]
        · (refine norm_to [] rfl ?_ ?_ <;> simp only [go_sem])
    · refine vw_exit (x_then (x_then (x_block (n_then ?_))))
      (refine vw_go rfl ?_; simp only [go_sem, setCells, setIn])
      simp only [decide_eq_false_iff_not] at h
      have h' : a = b := by
        have e1 : i = a.length := by omega
        rw [e1, List.take_length, hab, List.take_length] at htk
        exact htk
      rw [decide_eq_true h']
      exact vw_ret (e_ret (ret_of rfl rfl (by simp [RB]) rfl rfl))

theorem typed_166 {k : Nat} {ts : List T} (h : typed Try.prog (k + 4) 166 ts) : ∃ l : List OpV, ts = [.list false 4 (l.map opRow)] ∧ l.length < 2 ^ 63 ∧ ∀ x ∈ l, x.ok := by
  simp only [typed, Try.underlying166, Try.underlying223, typedF, Try.underlying3, Try.underlying9, Try.underlying4, cellsOf_223, List.map_cons, List.map_nil] at h
  obtain ⟨rows, rfl, hlen, hrows⟩ := h
  obtain ⟨l, rfl, hl⟩ := map_of (f := opRow) (Q := OpV.ok) (rows := rows) (fun r hr => by
    obtain ⟨_, _, rfl, ⟨u_kind, rfl, _⟩, _, _, rfl, ⟨u_path, rfl, u_path_ok⟩, _, _, rfl, ⟨u_to, rfl, u_to_ok⟩, _, _, rfl, ⟨u_data, rfl, u_data_ok⟩, rfl⟩ := hrows r hr
    exact ⟨⟨u_kind, u_path, u_to, u_data⟩, rfl, ⟨u_path_ok, u_to_ok, u_data_ok⟩⟩)
  exact ⟨l, rfl, by simpa using hlen, hl⟩
end Go.Proofs.Ytppbonbghmdhhaa
