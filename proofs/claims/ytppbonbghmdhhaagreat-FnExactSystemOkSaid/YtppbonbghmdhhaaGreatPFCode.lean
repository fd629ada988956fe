/- Programs' texts: CodeOk of both. -/
import Derived.Test.YtppbonbghmdhhaaGreatPFIn
import Derived.Test.YtppbonbghmdhhaaGreatPFIns
namespace Go.Proofs.YtppbonbghmdhhaaGreat
open Go.VM
set_option maxRecDepth 100000
set_option linter.unusedSimpArgs false
set_option linter.unusedVariables false
attribute [local congr] vw_congr runV_congr runH_congr runW_congr runX_congr

def opZ (x : OpV) : Bool := decide (x.kind = 0) && (decide (x.path = ⟨#[]⟩) && (decide (x.to = ⟨#[]⟩) && decide (x.data = ⟨#[]⟩)))
def insOk (x : InsV) (m : Int) : Bool :=
  if x.kind = 1 then decide (x.n = 0)
  else if x.kind = 3 ∨ x.kind = 4 then opZ x.op && (decide (0 ≤ x.n) && decide (x.n < m))
  else if x.kind = 2 ∨ x.kind = 5 then opZ x.op && decide (x.n = 0)
  else false

theorem runs_154 (x : InsV) (m : Int) : Runs Tryz.prog 154 [.agg [.v (.int .i64 x.kind), .v (.int .i64 x.op.kind), .v (.str x.op.path), .v (.str x.op.to), .v (.str x.op.data), .v (.int .i64 x.n)], .one (.v (.int .i64 m))] [.one (.v (.bool (insOk x m)))] [] := by
  refine runs_tab (tab := [(0, .agg [.c (.int .i64 x.kind), .c (.int .i64 x.op.kind), .c (.str x.op.path), .c (.str x.op.to), .c (.str x.op.data), .c (.int .i64 x.n)]), (1, .c (.int .i64 m))]) (rts := []) (n := 42) (k := 7) Tryz.func154 rfl rfl (by simp) rfl (fun t => ?_) rfl ?_
  · rcases t with _ | _ | t <;> rfl
  (refine vw_go rfl ?_; simp only [go_sem, setCells, setIn])
  refine vw_seq ?_
  (refine vw_go rfl ?_; simp only [go_sem, setCells, setIn])
  refine vw_block ?_
  (refine vw_go rfl ?_; simp only [go_sem, setCells, setIn])
  refine vw_cond (t := decide (x.kind = 1)) rfl (fun h1 => ?_) (fun h1 => ?_)
  · simp only [decide_eq_true_eq] at h1
    (refine vw_go rfl ?_; simp only [go_sem, setCells, setIn])
    rw [show insOk x m = decide (x.n = 0) from by simp [insOk, h1]]
    exact vw_ret (r_block (r_then (e_ret (ret_of rfl rfl (by simp [RB]) rfl rfl))))
  · simp only [decide_eq_false_iff_not] at h1
    have key34 : x.kind = 3 ∨ x.kind = 4 → insOk x m = (opZ x.op && (decide (0 ≤ x.n) && decide (x.n < m))) := by
      intro h; unfold insOk; rw [if_neg h1, if_pos h]
    have key25 : ¬ (x.kind = 3 ∨ x.kind = 4) → (x.kind = 2 ∨ x.kind = 5) → insOk x m = (opZ x.op && decide (x.n = 0)) := by
      intro h h'; unfold insOk; rw [if_neg h1, if_neg h, if_pos h']
    have keyo : ¬ (x.kind = 3 ∨ x.kind = 4) → ¬ (x.kind = 2 ∨ x.kind = 5) → insOk x m = false := by
      intro h h'; unfold insOk; rw [if_neg h1, if_neg h, if_neg h']
    refine vw_seq ?_
    (refine vw_go rfl ?_; simp only [go_sem, setCells, setIn])
    refine vw_cond (t := decide (x.kind = 3)) rfl (fun h3 => ?_) (fun h3 => ?_)
    · simp only [decide_eq_true_eq] at h3
      refine vw_skip (n_then ?_)
      refine vw_cond (t := decide (x.kind = 3)) rfl (fun h => ?_) (fun h => ?_)
      case refine_2 => simp [h3] at h
      rw [key34 (.inl h3)]
      cases hz : opZ x.op <;> simp only [opZ] at hz
      · (refine vw_go rfl ?_; simp only [hz, go_sem, setCells, setIn])
        exact vw_ret (r_block (r_then (e_ret (ret_of rfl rfl (by simp [RB]) rfl rfl))))
      · by_cases hn : (0:Int) ≤ x.n
        · (refine vw_go rfl ?_; simp only [hz, hn, go_sem, setCells, setIn])
          exact vw_ret (r_block (r_then (e_ret (ret_of rfl rfl (by simp [RB]) rfl rfl))))
        · (refine vw_go rfl ?_; simp only [hz, hn, go_sem, setCells, setIn])
          exact vw_ret (r_block (r_then (e_ret (ret_of rfl rfl (by simp [RB]) rfl rfl))))
    · simp only [decide_eq_false_iff_not] at h3
      (refine vw_last rfl ?_; simp only [go_sem, setCells, setIn])
      refine (n_then ?_)
      refine vw_cond (t := decide (x.kind = 4)) rfl (fun h4 => ?_) (fun h4 => ?_)
      · simp only [decide_eq_true_eq] at h4
        rw [key34 (.inr h4)]
        cases hz : opZ x.op <;> simp only [opZ] at hz
        · (refine vw_go rfl ?_; simp only [hz, go_sem, setCells, setIn])
          exact vw_ret (r_block (r_then (e_ret (ret_of rfl rfl (by simp [RB]) rfl rfl))))
        · by_cases hn : (0:Int) ≤ x.n
          · (refine vw_go rfl ?_; simp only [hz, hn, go_sem, setCells, setIn])
            exact vw_ret (r_block (r_then (e_ret (ret_of rfl rfl (by simp [RB]) rfl rfl))))
          · (refine vw_go rfl ?_; simp only [hz, hn, go_sem, setCells, setIn])
            exact vw_ret (r_block (r_then (e_ret (ret_of rfl rfl (by simp [RB]) rfl rfl))))
      · simp only [decide_eq_false_iff_not] at h4
        have h34 : ¬ (x.kind = 3 ∨ x.kind = 4) := by omega
        refine vw_seq ?_
        (refine vw_go rfl ?_; simp only [go_sem, setCells, setIn])
        refine vw_cond (t := decide (x.kind = 2)) rfl (fun h2 => ?_) (fun h2 => ?_)
        · simp only [decide_eq_true_eq] at h2
          refine vw_skip (n_then ?_)
          refine vw_cond (t := decide (x.kind = 2)) rfl (fun h => ?_) (fun h => ?_)
          case refine_2 => simp [h2] at h
          rw [key25 h34 (.inl h2)]
          cases hz : opZ x.op <;> simp only [opZ] at hz
          · (refine vw_go rfl ?_; simp only [hz, go_sem, setCells, setIn])
            exact vw_ret (r_block (r_then (e_ret (ret_of rfl rfl (by simp [RB]) rfl rfl))))
          · (refine vw_go rfl ?_; simp only [hz, go_sem, setCells, setIn])
            exact vw_ret (r_block (r_then (e_ret (ret_of rfl rfl (by simp [RB]) rfl rfl))))
        · simp only [decide_eq_false_iff_not] at h2
          (refine vw_last rfl ?_; simp only [go_sem, setCells, setIn])
          refine (n_then ?_)
          refine vw_cond (t := decide (x.kind = 5)) rfl (fun h5 => ?_) (fun h5 => ?_)
          · simp only [decide_eq_true_eq] at h5
            rw [key25 h34 (.inr h5)]
            cases hz : opZ x.op <;> simp only [opZ] at hz
            · (refine vw_go rfl ?_; simp only [hz, go_sem, setCells, setIn])
              exact vw_ret (r_block (r_then (e_ret (ret_of rfl rfl (by simp [RB]) rfl rfl))))
            · (refine vw_go rfl ?_; simp only [hz, go_sem, setCells, setIn])
              exact vw_ret (r_block (r_then (e_ret (ret_of rfl rfl (by simp [RB]) rfl rfl))))
          · simp only [decide_eq_false_iff_not] at h5
            refine vw_skip (n_block (n_then ?_))
            (refine vw_go rfl ?_; simp only [go_sem, setCells, setIn])
            rw [keyo h34 (by omega)]
            exact vw_ret (e_ret (ret_of rfl rfl (by simp [RB]) rfl rfl))

theorem runs_153 (x : InsV) (l : List InsV) : Runs Tryz.prog 153 [.agg [.v (.int .i64 x.kind), .v (.int .i64 x.op.kind), .v (.str x.op.path), .v (.str x.op.to), .v (.str x.op.data), .v (.int .i64 x.n)], .one (.ref [.list false 6 (l.map insRow)])] [.one (.v (.bool (!insOk x l.length)))] [] := by
  refine runs_tab (tab := [(0, .agg [.c (.int .i64 x.kind), .c (.int .i64 x.op.kind), .c (.str x.op.path), .c (.str x.op.to), .c (.str x.op.data), .c (.int .i64 x.n)]), (1, .rop [.list false 6 (l.map insRow)])]) (rts := []) (n := 9) (k := 7) Tryz.func153 rfl rfl (by simp) rfl (fun t => ?_) rfl ?_
  · rcases t with _ | _ | t <;> rfl
  (refine vw_go rfl ?_; simp only [go_sem, setCells, setIn])
  (refine vw_go rfl ?_; simp only [go_sem, setCells, setIn])
  (refine ⟨_, _, call_rd [0, 0] Tryz.func154 (runs_154 x l.length) rfl rfl rfl rfl rfl rfl rfl rfl rfl rfl rfl rfl rfl, ?_⟩)
  simp only [runH, runX, go_sem, setCells, setIn]
  exact vw_ret (e_ret (ret_of rfl rfl (by simp [RB]) rfl rfl))

theorem runs_195 (l : List InsV) (hl : l.length < 2 ^ 63) (f : Nat) (fn : Func) (caps : List T) (p : InsV → Bool) (hf : Tryz.prog.funcs[f]? = some fn) (hbody : fn.body.isNone = false) (hname : (fn.name == "runtime.NumGoroutine") = false)
    (hp : ∀ x : InsV, Runs Tryz.prog f [.agg [.v (.int .i64 x.kind), .v (.int .i64 x.op.kind), .v (.str x.op.path), .v (.str x.op.to), .v (.str x.op.data), .v (.int .i64 x.n)], .one (.ref caps)] [.one (.v (.bool (p x)))] []) :
    Runs Tryz.prog 195 [.one (.v (.list false 6 (l.map insRow))), .one (.fn f [caps])] [.one (.v (.int .i64 (idxOf p l 0)))] [] := by
  refine runs_tab (tab := [(0, .c (.list false 6 (l.map insRow))), (1, .fn f [caps])]) (rts := []) (n := 19) (k := 2) Tryz.func195 rfl rfl (by simp) rfl (fun t => ?_) rfl ?_
  · rcases t with _ | _ | t <;> rfl
  (refine vw_go rfl ?_; simp only [go_sem, setCells, setIn])
  refine vw_seq ?_
  (refine vw_go rfl ?_; simp only [go_sem, setCells, setIn])
  refine vw_block ?_
  refine vw_loop_tab (α := Nat) (fun x => l.length - x) (fun x => ⟨tabE [(0, .c (.list false 6 (l.map insRow))), (1, .fn f [caps]), (7, .c (.int .i64 l.length)), (8, .c (.int .i64 x))], tabS [], 2⟩)
    (fun x => x ≤ l.length ∧ idxOf p (l.drop x) x = idxOf p l 0) (x := 0) ?round ?h0 ?hn
  case h0 => exact ⟨Nat.zero_le _, rfl⟩
  case hn => (refine norm_to [] rfl ?_ ?_ <;> simp only [go_sem])
  rintro i ⟨hi, hm⟩
  (refine vw_go rfl ?_; simp only [go_sem, setCells, setIn])
  refine vw_seq ?_
  refine vw_cond (t := decide ((i : Int) < l.length)) rfl (fun h => ?_) (fun h => ?_)
  · refine vw_skip (n_then ?_)
    rcases get_or l i with ⟨x, hx, hlt⟩ | ⟨_, hge⟩
    case inr => simp only [decide_eq_true_eq] at h; omega
    have c1 : (0:Int) ≤ (i:Int) := by omega
    have c2 : (i:Int) < (l.length : Int) := by omega
    rw [drop_of hx] at hm
    refine vw_seq ?_
    refine vw_block ?_
    (refine vw_go rfl ?_; simp only [go_sem, setCells, setIn])
    (refine vw_go rfl ?_; simp only [c1, c2, Int.toNat_natCast, getD_map_of hx, insRow, go_sem, setCells, setIn])
    refine ⟨_, _, call_rd [0] hf (hp x) rfl rfl rfl hbody hname rfl rfl rfl rfl rfl rfl rfl rfl, ?_⟩
    simp only [runH, runX, go_sem, setCells, setIn]
    refine vw_cond (t := p x) rfl (fun h => ?_) (fun h => ?_)
    · (refine vw_go rfl ?_; simp only [go_sem, setCells, setIn])
      simp only [idxOf, h, if_true] at hm
      rw [← hm]
      exact vw_ret (r_block (r_then (r_then (r_block (r_then (e_ret (ret_of rfl rfl (by simp [RB]) rfl rfl)))))))
    · refine vw_skip (n_block (n_then ?_))
      have w2 : IntKind.wrap .i64 ((i:Int) + 1) = ((i + 1 : Nat) : Int) := by rw [wrap_i64 (by omega) (by omega)]; rfl
      (refine vw_last rfl ?_; simp only [w2, go_sem, setCells, setIn])
      refine (n_then ?_)
      simp only [idxOf, h, Bool.false_eq_true, if_false] at hm
      refine ⟨i + 1, by omega, ⟨hlt, hm⟩, ?_⟩
      (refine norm_to [] rfl ?_ ?_ <;> simp only [go_sem])
  · refine vw_exit (x_then (x_then (x_block (n_then ?_))))
    (refine vw_go rfl ?_; simp only [go_sem, setCells, setIn])
    simp only [decide_eq_false_iff_not] at h
    have : i = l.length := by omega
    subst this
    simp only [List.drop_length, idxOf] at hm
    rw [← hm]
    exact vw_ret (e_ret (ret_of rfl rfl (by simp [RB]) rfl rfl))


theorem runs_152 (l : List InsV) (hl : l.length < 2 ^ 63) (f : Nat) (fn : Func) (caps : List T) (p : InsV → Bool) (hf : Tryz.prog.funcs[f]? = some fn) (hbody : fn.body.isNone = false) (hname : (fn.name == "runtime.NumGoroutine") = false)
    (hp : ∀ x : InsV, Runs Tryz.prog f [.agg [.v (.int .i64 x.kind), .v (.int .i64 x.op.kind), .v (.str x.op.path), .v (.str x.op.to), .v (.str x.op.data), .v (.int .i64 x.n)], .one (.ref caps)] [.one (.v (.bool (p x)))] []) :
    Runs Tryz.prog 152 [.one (.v (.list false 6 (l.map insRow))), .one (.fn f [caps])] [.one (.v (.bool (l.any p)))] [] := by
  refine runs_tab (tab := [(0, .c (.list false 6 (l.map insRow))), (1, .fn f [caps])]) (rts := []) (n := 9) (k := 2) Tryz.func152 rfl rfl (by simp) rfl (fun t => ?_) rfl ?_
  · rcases t with _ | _ | t <;> rfl
  (refine vw_go rfl ?_; simp only [go_sem, setCells, setIn])
  (refine vw_go rfl ?_; simp only [go_sem, setCells, setIn])
  (refine ⟨_, _, call_rx [0, 0] Tryz.func195 (runs_195 l hl f fn caps p hf hbody hname hp) rfl rfl rfl rfl rfl rfl rfl (by simp [lendAll, lendC, seek, fresh, nav, rcells, RT.cells, VV.cells, tabE_cons, tabS_cons, ev, take_map_len, insRow_r1, insRow_clean]) rfl (by simp [rcells, RT.cells, CT.clean, T.clean, insRow_r1, insRow_clean]) rfl rfl, ?_⟩)
  simp only [runH, runX, go_sem, setCells, setIn]
  rw [← idxOf_any p l 0]
  exact vw_ret (e_ret (ret_of rfl rfl (by simp [RB]) rfl rfl))

theorem runs_102 (l : List InsV) (hl : l.length < 2 ^ 63) :
    Runs Tryz.prog 102 [.one (.v (.list false 6 (l.map insRow)))] [.one (.v (.bool (inB l.length 1 20 && !l.any (fun x => !insOk x l.length))))] [] := by
  refine runs_tab (tab := [(0, .c (.list false 6 (l.map insRow)))]) (rts := []) (n := 12) (k := 1) Tryz.func102 rfl rfl (by simp) rfl (fun t => ?_) rfl ?_
  · rcases t with _ | t <;> rfl
  (refine vw_go rfl ?_; simp only [go_sem, setCells, setIn])
  (refine vw_go rfl ?_; simp only [go_sem, setCells, setIn])
  (refine ⟨_, _, call_rd [0, 0, 0] Tryz.func45 (runs_45 l.length 1 20) rfl rfl rfl rfl rfl rfl rfl rfl rfl rfl rfl rfl rfl, ?_⟩)
  cases hin : inB l.length 1 20
  · simp only [runH, runX, hin, go_sem, setCells, setIn]
    exact vw_ret (e_ret (ret_of rfl rfl (by simp [RB]) rfl rfl))
  · simp only [runH, runX, hin, go_sem, setCells, setIn]
    (refine ⟨_, _, mk_ok (rows := [[.list false 6 (l.map insRow)]]) (cs := [.ref [.list false 6 (l.map insRow)]]) [1] rfl (by simp [lendAll, lendC, seek, fresh, nav, tabE_cons, tabS_cons, ev, insRow_r1]) rfl rfl, ?_⟩)
    simp only [runH, runX, go_sem, setCells, setIn]
    (refine ⟨_, _, call_rx [0, 0] Tryz.func152 (runs_152 l hl 153 Tryz.f153 [.list false 6 (l.map insRow)] (fun x => !insOk x l.length) Tryz.func153 rfl rfl (fun x => runs_153 x l)) rfl rfl rfl rfl rfl rfl rfl (by simp [lendAll, lendC, seek, fresh, nav, rcells, RT.cells, VV.cells, tabE_cons, tabS_cons, ev, take_map_len, insRow_r1, insRow_clean]) rfl (by simp [rcells, RT.cells, CT.clean, T.clean, insRow_r1, insRow_clean]) rfl rfl, ?_⟩)
    simp only [runH, runX, go_sem, setCells, setIn]
    exact vw_ret (e_ret (ret_of rfl rfl (by simp [RB]) rfl rfl))

def badS (x : InsV) (m : Int) : Bool := !inB x.kind 1 5 || (!(decide (x.kind = 1) || opZ x.op) || (!((decide (x.kind = 3) || decide (x.kind = 4)) && inB x.n 0 (m - 1)) && !decide (x.n = 0)))

theorem badS_iff (x : InsV) (m : Int) (hm : 1 ≤ m) : badS x m = !insOk x m := by
  unfold badS insOk inB
  by_cases h1 : x.kind = 1
  · simp [h1]
  · by_cases h3 : x.kind = 3 ∨ x.kind = 4
    · rw [if_neg h1, if_pos h3]
      have hk : (decide (1 ≤ x.kind) && decide (x.kind ≤ 5)) = true := by simp; omega
      have hk2 : (decide (x.kind = 3) || decide (x.kind = 4)) = true := by simpa using h3
      rw [hk, hk2]
      simp only [h1, decide_false, Bool.false_or, Bool.not_true, Bool.true_and]
      cases opZ x.op
      · rfl
      · simp only [Bool.not_true, Bool.false_or, Bool.true_and]
        by_cases a : 0 ≤ x.n
        · by_cases b : x.n < m
          · have : x.n ≤ m - 1 := by omega
            simp [a, b, this]
          · have h' : ¬ x.n ≤ m - 1 := by omega
            have h'' : ¬ x.n = 0 := by omega
            simp [a, b, h', h'']
        · have h'' : ¬ x.n = 0 := by omega
          simp [a, h'']
    · rw [if_neg h1, if_neg h3]
      have hk2 : (decide (x.kind = 3) || decide (x.kind = 4)) = false := by simpa using h3
      rw [hk2]
      by_cases h2 : x.kind = 2 ∨ x.kind = 5
      · rw [if_pos h2]
        have hk : (decide (1 ≤ x.kind) && decide (x.kind ≤ 5)) = true := by simp; omega
        rw [hk]
        simp only [h1, decide_false, Bool.false_or, Bool.not_true, Bool.false_and, Bool.not_false, Bool.true_and]
        cases opZ x.op <;> simp
      · rw [if_neg h2]
        have hk : (decide (1 ≤ x.kind) && decide (x.kind ≤ 5)) = false := by
          simp; omega
        rw [hk]
        rfl
end Go.Proofs.YtppbonbghmdhhaaGreat
