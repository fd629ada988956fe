/- SystemOk of both. -/
import Derived.Test.YtppbonbghmdhhaaGreatPLWhole
import Derived.Test.YtppbonbghmdhhaaGreatPFSys
namespace Go.Proofs.YtppbonbghmdhhaaGreat
open Go.VM Go
set_option maxRecDepth 100000
set_option linter.unusedSimpArgs false
set_option linter.unusedVariables false
attribute [local congr] vw_congr runV_congr runH_congr runW_congr runX_congr

theorem runs_47 (x : PartV) (hx : x.ok) : Runs Tryz.prog 47 [.agg [.v (.list false 6 (x.code.map insRow)), .v (.int .i64 x.at_), .v (.list false 2 (x.seen.map tellRow)), .v (.bool x.over)]] [.one (.v (.bool (!partOk x)))] [] := by
  refine runs_tab (tab := [(0, .agg [.c (.list false 6 (x.code.map insRow)), .c (.int .i64 x.at_), .c (.list false 2 (x.seen.map tellRow)), .c (.bool x.over)])]) (rts := []) (n := 6) (k := 4) Tryz.func47 rfl rfl (by simp) rfl (fun t => ?_) rfl ?_
  · cases t <;> rfl
  (refine vw_go rfl ?_; simp only [go_sem, setCells, setIn])
  (refine vw_go rfl ?_; simp only [go_sem, setCells, setIn])
  (refine ⟨_, _, call_rx [0] Tryz.func48 (runs_48 x hx) rfl rfl rfl rfl rfl rfl rfl (by simp [lendAll, lendC, seek, fresh, nav, rcells, RT.cells, VV.cells, tabE_cons, tabS_cons, ev, take_map_len, sRow_r1, sRow_comp, sRow_clean, nRow_r1, nRow_comp, nRow_clean, partRow_r1, partRow_comp, partRowO_r1, partRowO_comp, partRowO_clean, portRow_r1, portRow_comp, portRowO_r1, portRowO_comp, portRowO_clean, insRow_r1, tellRow_r1, opRow_r1]) rfl (by simp [rcells, RT.cells, CT.clean, T.clean, sRow_r1, sRow_comp, sRow_clean, nRow_r1, nRow_comp, nRow_clean, partRow_r1, partRow_comp, partRowO_r1, partRowO_comp, partRowO_clean, portRow_r1, portRow_comp, portRowO_r1, portRowO_comp, portRowO_clean, insRow_r1, tellRow_r1, opRow_r1]) rfl rfl, ?_⟩)
  simp only [runH, runX, go_sem, setCells, setIn]
  exact vw_ret (e_ret (ret_of rfl rfl (by simp [RB]) rfl rfl))

theorem runs_50 (x : PortV) : Runs Tryz.prog 50 [.agg [.v (.list false 4 (x.asks.map opRow)), .v (.list false 2 (x.tells.map tellRow))]] [.one (.v (.bool (!portOk x)))] [] := by
  refine runs_tab (tab := [(0, .agg [.c (.list false 4 (x.asks.map opRow)), .c (.list false 2 (x.tells.map tellRow))])]) (rts := []) (n := 6) (k := 2) Tryz.func50 rfl rfl (by simp) rfl (fun t => ?_) rfl ?_
  · cases t <;> rfl
  (refine vw_go rfl ?_; simp only [go_sem, setCells, setIn])
  (refine vw_go rfl ?_; simp only [go_sem, setCells, setIn])
  (refine ⟨_, _, call_rx [0] Tryz.func51 (runs_51 x) rfl rfl rfl rfl rfl rfl rfl (by simp [lendAll, lendC, seek, fresh, nav, rcells, RT.cells, VV.cells, tabE_cons, tabS_cons, ev, take_map_len, sRow_r1, sRow_comp, sRow_clean, nRow_r1, nRow_comp, nRow_clean, partRow_r1, partRow_comp, partRowO_r1, partRowO_comp, partRowO_clean, portRow_r1, portRow_comp, portRowO_r1, portRowO_comp, portRowO_clean, insRow_r1, tellRow_r1, opRow_r1]) rfl (by simp [rcells, RT.cells, CT.clean, T.clean, sRow_r1, sRow_comp, sRow_clean, nRow_r1, nRow_comp, nRow_clean, partRow_r1, partRow_comp, partRowO_r1, partRowO_comp, partRowO_clean, portRow_r1, portRow_comp, portRowO_r1, portRowO_comp, portRowO_clean, insRow_r1, tellRow_r1, opRow_r1]) rfl rfl, ?_⟩)
  simp only [runH, runX, go_sem, setCells, setIn]
  exact vw_ret (e_ret (ret_of rfl rfl (by simp [RB]) rfl rfl))

theorem runs_101 (l : List PartV) (hl : l.length < 2 ^ 63) (f : Nat) (fn : Func) (p : PartV → Bool) (hf : Tryz.prog.funcs[f]? = some fn) (hbody : fn.body.isNone = false) (hname : (fn.name == "runtime.NumGoroutine") = false)
    (hp : ∀ x ∈ l, Runs Tryz.prog f [.agg [.v (.list false 6 (x.code.map insRow)), .v (.int .i64 x.at_), .v (.list false 2 (x.seen.map tellRow)), .v (.bool x.over)]] [.one (.v (.bool (p x)))] []) :
    Runs Tryz.prog 101 [.one (.v (.list false 4 (l.map partRow))), .one (.fn f [])] [.one (.v (.int .i64 (idxOf p l 0)))] [] := by
  refine runs_tab (tab := [(0, .c (.list false 4 (l.map partRow))), (1, .fn f [])]) (rts := []) (n := 19) (k := 2) Tryz.func101 rfl rfl (by simp) rfl (fun t => ?_) rfl ?_
  · rcases t with _ | _ | t <;> rfl
  (refine vw_go rfl ?_; simp only [go_sem, setCells, setIn])
  refine vw_seq ?_
  (refine vw_go rfl ?_; simp only [go_sem, setCells, setIn])
  refine vw_block ?_
  refine vw_loop_tab (α := Nat) (fun x => l.length - x) (fun x => ⟨tabE [(0, .c (.list false 4 (l.map partRow))), (1, .fn f []), (7, .c (.int .i64 l.length)), (8, .c (.int .i64 x))], tabS [], 2⟩)
    (fun x => x ≤ l.length ∧ idxOf p (l.drop x) x = idxOf p l 0) (x := 0) ?round ?h0 ?hn
  case h0 => exact ⟨Nat.zero_le _, rfl⟩
  case hn => (refine norm_to [] rfl ?_ ?_ <;> simp only [go_sem])
  rintro i ⟨hi, hm⟩
  (refine vw_go rfl ?_; simp only [go_sem, setCells, setIn])
  refine vw_seq ?_
  refine vw_cond (t := decide ((i : Int) < l.length)) rfl (fun h => ?_) (fun h => ?_)
  · refine vw_skip (n_then ?_)
    rcases get_or l i with ⟨x, hx, hlt⟩ | ⟨_, hge⟩
    case inr => simp only [decide_eq_true_eq] at h; omega
    have c1 : (0:Int) ≤ (i:Int) := by omega
    have c2 : (i:Int) < (l.length : Int) := by omega
    rw [drop_of hx] at hm
    refine vw_seq ?_
    refine vw_block ?_
    (refine vw_go rfl ?_; simp only [go_sem, setCells, setIn])
    (refine vw_go rfl ?_; simp only [c1, c2, Int.toNat_natCast, getD_map_of hx, partRow, go_sem, setCells, setIn])
    refine ⟨_, _, call_rx [0] hf (hp x (List.mem_of_getElem? hx)) rfl rfl rfl hbody hname rfl rfl (by simp [lendAll, lendC, seek, fresh, nav, rcells, RT.cells, VV.cells, tabE_cons, tabS_cons, ev, take_map_len, sRow_r1, sRow_comp, sRow_clean, nRow_r1, nRow_comp, nRow_clean, partRow_r1, partRow_comp, partRowO_r1, partRowO_comp, partRowO_clean, portRow_r1, portRow_comp, portRowO_r1, portRowO_comp, portRowO_clean, insRow_r1, tellRow_r1, opRow_r1]) rfl (by simp [rcells, RT.cells, CT.clean, T.clean, sRow_r1, sRow_comp, sRow_clean, nRow_r1, nRow_comp, nRow_clean, partRow_r1, partRow_comp, partRowO_r1, partRowO_comp, partRowO_clean, portRow_r1, portRow_comp, portRowO_r1, portRowO_comp, portRowO_clean, insRow_r1, tellRow_r1, opRow_r1]) rfl rfl, ?_⟩
    simp only [runH, runX, go_sem, setCells, setIn]
    refine vw_cond (t := p x) rfl (fun h => ?_) (fun h => ?_)
    · (refine vw_go rfl ?_; simp only [go_sem, setCells, setIn])
      simp only [idxOf, h, if_true] at hm
      rw [← hm]
      exact vw_ret (r_block (r_then (r_then (r_block (r_then (e_ret (ret_of rfl rfl (by simp [RB]) rfl rfl)))))))
    · refine vw_skip (n_block (n_then ?_))
      have w2 : IntKind.wrap .i64 ((i:Int) + 1) = ((i + 1 : Nat) : Int) := by rw [wrap_i64 (by omega) (by omega)]; rfl
      (refine vw_last rfl ?_; simp only [w2, go_sem, setCells, setIn])
      refine (n_then ?_)
      simp only [idxOf, h, Bool.false_eq_true, if_false] at hm
      refine ⟨i + 1, by omega, ⟨hlt, hm⟩, ?_⟩
      (refine norm_to [] rfl ?_ ?_ <;> simp only [go_sem])
  · refine vw_exit (x_then (x_then (x_block (n_then ?_))))
    (refine vw_go rfl ?_; simp only [go_sem, setCells, setIn])
    simp only [decide_eq_false_iff_not] at h
    have : i = l.length := by omega
    subst this
    simp only [List.drop_length, idxOf] at hm
    rw [← hm]
    exact vw_ret (e_ret (ret_of rfl rfl (by simp [RB]) rfl rfl))

theorem runs_46 (l : List PartV) (hl : l.length < 2 ^ 63) (f : Nat) (fn : Func) (p : PartV → Bool) (hf : Tryz.prog.funcs[f]? = some fn) (hbody : fn.body.isNone = false) (hname : (fn.name == "runtime.NumGoroutine") = false)
    (hp : ∀ x ∈ l, Runs Tryz.prog f [.agg [.v (.list false 6 (x.code.map insRow)), .v (.int .i64 x.at_), .v (.list false 2 (x.seen.map tellRow)), .v (.bool x.over)]] [.one (.v (.bool (p x)))] []) :
    Runs Tryz.prog 46 [.one (.v (.list false 4 (l.map partRow))), .one (.fn f [])] [.one (.v (.bool (l.any p)))] [] := by
  refine runs_tab (tab := [(0, .c (.list false 4 (l.map partRow))), (1, .fn f [])]) (rts := []) (n := 9) (k := 2) Tryz.func46 rfl rfl (by simp) rfl (fun t => ?_) rfl ?_
  · rcases t with _ | _ | t <;> rfl
  (refine vw_go rfl ?_; simp only [go_sem, setCells, setIn])
  (refine vw_go rfl ?_; simp only [go_sem, setCells, setIn])
  (refine ⟨_, _, call_rx [0, 0] Tryz.func101 (runs_101 l hl f fn p hf hbody hname hp) rfl rfl rfl rfl rfl rfl rfl (by simp [lendAll, lendC, seek, fresh, nav, rcells, RT.cells, VV.cells, tabE_cons, tabS_cons, ev, take_map_len, sRow_r1, sRow_comp, sRow_clean, nRow_r1, nRow_comp, nRow_clean, partRow_r1, partRow_comp, partRowO_r1, partRowO_comp, partRowO_clean, portRow_r1, portRow_comp, portRowO_r1, portRowO_comp, portRowO_clean, insRow_r1, tellRow_r1, opRow_r1]) rfl (by simp [rcells, RT.cells, CT.clean, T.clean, sRow_r1, sRow_comp, sRow_clean, nRow_r1, nRow_comp, nRow_clean, partRow_r1, partRow_comp, partRowO_r1, partRowO_comp, partRowO_clean, portRow_r1, portRow_comp, portRowO_r1, portRowO_comp, portRowO_clean, insRow_r1, tellRow_r1, opRow_r1]) rfl rfl, ?_⟩)
  simp only [runH, runX, idxOf_any, go_sem, setCells, setIn]
  exact vw_ret (e_ret (ret_of rfl rfl (by simp [RB]) rfl rfl))


theorem runs_103 (l : List PortV) (hl : l.length < 2 ^ 63) (f : Nat) (fn : Func) (p : PortV → Bool) (hf : Tryz.prog.funcs[f]? = some fn) (hbody : fn.body.isNone = false) (hname : (fn.name == "runtime.NumGoroutine") = false)
    (hp : ∀ x ∈ l, Runs Tryz.prog f [.agg [.v (.list false 4 (x.asks.map opRow)), .v (.list false 2 (x.tells.map tellRow))]] [.one (.v (.bool (p x)))] []) :
    Runs Tryz.prog 103 [.one (.v (.list false 2 (l.map portRow))), .one (.fn f [])] [.one (.v (.int .i64 (idxOf p l 0)))] [] := by
  refine runs_tab (tab := [(0, .c (.list false 2 (l.map portRow))), (1, .fn f [])]) (rts := []) (n := 19) (k := 2) Tryz.func103 rfl rfl (by simp) rfl (fun t => ?_) rfl ?_
  · rcases t with _ | _ | t <;> rfl
  (refine vw_go rfl ?_; simp only [go_sem, setCells, setIn])
  refine vw_seq ?_
  (refine vw_go rfl ?_; simp only [go_sem, setCells, setIn])
  refine vw_block ?_
  refine vw_loop_tab (α := Nat) (fun x => l.length - x) (fun x => ⟨tabE [(0, .c (.list false 2 (l.map portRow))), (1, .fn f []), (7, .c (.int .i64 l.length)), (8, .c (.int .i64 x))], tabS [], 2⟩)
    (fun x => x ≤ l.length ∧ idxOf p (l.drop x) x = idxOf p l 0) (x := 0) ?round ?h0 ?hn
  case h0 => exact ⟨Nat.zero_le _, rfl⟩
  case hn => (refine norm_to [] rfl ?_ ?_ <;> simp only [go_sem])
  rintro i ⟨hi, hm⟩
  (refine vw_go rfl ?_; simp only [go_sem, setCells, setIn])
  refine vw_seq ?_
  refine vw_cond (t := decide ((i : Int) < l.length)) rfl (fun h => ?_) (fun h => ?_)
  · refine vw_skip (n_then ?_)
    rcases get_or l i with ⟨x, hx, hlt⟩ | ⟨_, hge⟩
    case inr => simp only [decide_eq_true_eq] at h; omega
    have c1 : (0:Int) ≤ (i:Int) := by omega
    have c2 : (i:Int) < (l.length : Int) := by omega
    rw [drop_of hx] at hm
    refine vw_seq ?_
    refine vw_block ?_
    (refine vw_go rfl ?_; simp only [go_sem, setCells, setIn])
    (refine vw_go rfl ?_; simp only [c1, c2, Int.toNat_natCast, getD_map_of hx, portRow, go_sem, setCells, setIn])
    refine ⟨_, _, call_rx [0] hf (hp x (List.mem_of_getElem? hx)) rfl rfl rfl hbody hname rfl rfl (by simp [lendAll, lendC, seek, fresh, nav, rcells, RT.cells, VV.cells, tabE_cons, tabS_cons, ev, take_map_len, sRow_r1, sRow_comp, sRow_clean, nRow_r1, nRow_comp, nRow_clean, partRow_r1, partRow_comp, partRowO_r1, partRowO_comp, partRowO_clean, portRow_r1, portRow_comp, portRowO_r1, portRowO_comp, portRowO_clean, insRow_r1, tellRow_r1, opRow_r1]) rfl (by simp [rcells, RT.cells, CT.clean, T.clean, sRow_r1, sRow_comp, sRow_clean, nRow_r1, nRow_comp, nRow_clean, partRow_r1, partRow_comp, partRowO_r1, partRowO_comp, partRowO_clean, portRow_r1, portRow_comp, portRowO_r1, portRowO_comp, portRowO_clean, insRow_r1, tellRow_r1, opRow_r1]) rfl rfl, ?_⟩
    simp only [runH, runX, go_sem, setCells, setIn]
    refine vw_cond (t := p x) rfl (fun h => ?_) (fun h => ?_)
    · (refine vw_go rfl ?_; simp only [go_sem, setCells, setIn])
      simp only [idxOf, h, if_true] at hm
      rw [← hm]
      exact vw_ret (r_block (r_then (r_then (r_block (r_then (e_ret (ret_of rfl rfl (by simp [RB]) rfl rfl)))))))
    · refine vw_skip (n_block (n_then ?_))
      have w2 : IntKind.wrap .i64 ((i:Int) + 1) = ((i + 1 : Nat) : Int) := by rw [wrap_i64 (by omega) (by omega)]; rfl
      (refine vw_last rfl ?_; simp only [w2, go_sem, setCells, setIn])
      refine (n_then ?_)
      simp only [idxOf, h, Bool.false_eq_true, if_false] at hm
      refine ⟨i + 1, by omega, ⟨hlt, hm⟩, ?_⟩
      (refine norm_to [] rfl ?_ ?_ <;> simp only [go_sem])
  · refine vw_exit (x_then (x_then (x_block (n_then ?_))))
    (refine vw_go rfl ?_; simp only [go_sem, setCells, setIn])
    simp only [decide_eq_false_iff_not] at h
    have : i = l.length := by omega
    subst this
    simp only [List.drop_length, idxOf] at hm
    rw [← hm]
    exact vw_ret (e_ret (ret_of rfl rfl (by simp [RB]) rfl rfl))

theorem runs_49 (l : List PortV) (hl : l.length < 2 ^ 63) (f : Nat) (fn : Func) (p : PortV → Bool) (hf : Tryz.prog.funcs[f]? = some fn) (hbody : fn.body.isNone = false) (hname : (fn.name == "runtime.NumGoroutine") = false)
    (hp : ∀ x ∈ l, Runs Tryz.prog f [.agg [.v (.list false 4 (x.asks.map opRow)), .v (.list false 2 (x.tells.map tellRow))]] [.one (.v (.bool (p x)))] []) :
    Runs Tryz.prog 49 [.one (.v (.list false 2 (l.map portRow))), .one (.fn f [])] [.one (.v (.bool (l.any p)))] [] := by
  refine runs_tab (tab := [(0, .c (.list false 2 (l.map portRow))), (1, .fn f [])]) (rts := []) (n := 9) (k := 2) Tryz.func49 rfl rfl (by simp) rfl (fun t => ?_) rfl ?_
  · rcases t with _ | _ | t <;> rfl
  (refine vw_go rfl ?_; simp only [go_sem, setCells, setIn])
  (refine vw_go rfl ?_; simp only [go_sem, setCells, setIn])
  (refine ⟨_, _, call_rx [0, 0] Tryz.func103 (runs_103 l hl f fn p hf hbody hname hp) rfl rfl rfl rfl rfl rfl rfl (by simp [lendAll, lendC, seek, fresh, nav, rcells, RT.cells, VV.cells, tabE_cons, tabS_cons, ev, take_map_len, sRow_r1, sRow_comp, sRow_clean, nRow_r1, nRow_comp, nRow_clean, partRow_r1, partRow_comp, partRowO_r1, partRowO_comp, partRowO_clean, portRow_r1, portRow_comp, portRowO_r1, portRowO_comp, portRowO_clean, insRow_r1, tellRow_r1, opRow_r1]) rfl (by simp [rcells, RT.cells, CT.clean, T.clean, sRow_r1, sRow_comp, sRow_clean, nRow_r1, nRow_comp, nRow_clean, partRow_r1, partRow_comp, partRowO_r1, partRowO_comp, partRowO_clean, portRow_r1, portRow_comp, portRowO_r1, portRowO_comp, portRowO_clean, insRow_r1, tellRow_r1, opRow_r1]) rfl rfl, ?_⟩)
  simp only [runH, runX, idxOf_any, go_sem, setCells, setIn]
  exact vw_ret (e_ret (ret_of rfl rfl (by simp [RB]) rfl rfl))


def sysOk (x : SysV) : Bool := wholeF x.ftl && (decide (x.parts.length = 2) && (decide (x.ports.length = 2) && (inB x.tick 0 400 && (!x.parts.any (fun y => !partOk y) && !x.ports.any (fun y => !portOk y)))))

theorem runs_9 (x : SysV) (hs : x.small) (hx : x.ok) : Runs Tryz.prog 9 [.agg [.v (.list false 1 (x.ftl.pages.map sRow)), .v (.list false 1 (x.ftl.wear.map nRow)), .v (.list false 1 (x.ftl.map.map nRow)), .v (.int .i64 x.ftl.seq), .v (.list false 4 (x.parts.map partRow)), .v (.list false 2 (x.ports.map portRow)), .v (.int .i64 x.tick)]] [.one (.v (.bool (sysOk x)))] [] := by
  refine runs_tab (tab := [(0, .agg [.c (.list false 1 (x.ftl.pages.map sRow)), .c (.list false 1 (x.ftl.wear.map nRow)), .c (.list false 1 (x.ftl.map.map nRow)), .c (.int .i64 x.ftl.seq), .c (.list false 4 (x.parts.map partRow)), .c (.list false 2 (x.ports.map portRow)), .c (.int .i64 x.tick)])]) (rts := []) (n := 35) (k := 7) Tryz.func9 rfl rfl (by simp) rfl (fun t => ?_) rfl ?_
  · cases t <;> rfl
  have r0 := runs_44 x.ftl hs.ftl
  unfold sysOk
  (refine vw_go rfl ?_; simp only [go_sem, setCells, setIn])
  refine vw_seq ?_
  (refine vw_go rfl ?_; simp only [go_sem, setCells, setIn])
  (refine ⟨_, _, call_rx [0] Tryz.func44 (r0) rfl rfl rfl rfl rfl rfl rfl (by simp [lendAll, lendC, seek, fresh, nav, rcells, RT.cells, VV.cells, tabE_cons, tabS_cons, ev, take_map_len, sRow_r1, sRow_comp, sRow_clean, nRow_r1, nRow_comp, nRow_clean, partRow_r1, partRow_comp, partRowO_r1, partRowO_comp, partRowO_clean, portRow_r1, portRow_comp, portRowO_r1, portRowO_comp, portRowO_clean, insRow_r1, tellRow_r1, opRow_r1]) rfl (by simp [rcells, RT.cells, CT.clean, T.clean, sRow_r1, sRow_comp, sRow_clean, nRow_r1, nRow_comp, nRow_clean, partRow_r1, partRow_comp, partRowO_r1, partRowO_comp, partRowO_clean, portRow_r1, portRow_comp, portRowO_r1, portRowO_comp, portRowO_clean, insRow_r1, tellRow_r1, opRow_r1]) rfl rfl, ?_⟩)
  generalize wholeF x.ftl = ok
  cases ok
  case false =>
    simp only [runH, runX, go_sem, setCells, setIn]
    (refine vw_cond (t := true) rfl (fun _ => ?_) (fun h => nomatch h))
    (refine vw_go rfl ?_; simp only [go_sem, setCells, setIn])
    exact vw_ret (r_then (e_ret (ret_of rfl rfl (by simp [RB]) rfl rfl)))
  by_cases h1 : x.parts.length = 2
  case neg =>
    have i1 : ¬ ((x.parts.length : Int) = 2) := by omega
    rw [decide_eq_false h1]
    simp only [runH, runX, i1, go_sem, setCells, setIn]
    (refine vw_cond (t := true) rfl (fun _ => ?_) (fun h => nomatch h))
    (refine vw_go rfl ?_; simp only [go_sem, setCells, setIn])
    exact vw_ret (r_then (e_ret (ret_of rfl rfl (by simp [RB]) rfl rfl)))
  have i1 : ((x.parts.length : Int) = 2) := by omega
  rw [decide_eq_true h1]
  by_cases h2 : x.ports.length = 2
  case neg =>
    have i2 : ¬ ((x.ports.length : Int) = 2) := by omega
    rw [decide_eq_false h2]
    simp only [runH, runX, i1, i2, go_sem, setCells, setIn]
    (refine vw_cond (t := true) rfl (fun _ => ?_) (fun h => nomatch h))
    (refine vw_go rfl ?_; simp only [go_sem, setCells, setIn])
    exact vw_ret (r_then (e_ret (ret_of rfl rfl (by simp [RB]) rfl rfl)))
  have i2 : ((x.ports.length : Int) = 2) := by omega
  rw [decide_eq_true h2]
  simp only [runH, runX, i1, i2, go_sem, setCells, setIn]
  (refine ⟨_, _, call_rd [0, 0, 0] Tryz.func45 (runs_45 x.tick 0 400) rfl rfl rfl rfl rfl rfl rfl rfl rfl rfl rfl rfl rfl, ?_⟩)
  cases inB x.tick 0 400
  · simp only [runH, runX, go_sem, setCells, setIn]
    (refine vw_cond (t := true) rfl (fun _ => ?_) (fun h => nomatch h))
    (refine vw_go rfl ?_; simp only [go_sem, setCells, setIn])
    exact vw_ret (r_then (e_ret (ret_of rfl rfl (by simp [RB]) rfl rfl)))
  simp only [runH, runX, go_sem, setCells, setIn]
  (refine vw_cond (t := false) rfl (fun h => nomatch h) (fun _ => ?_))
  refine vw_skip (n_then ?_)
  have rP := runs_46 x.parts hx.2.1.1 47 Tryz.f47 (fun y => !partOk y) Tryz.func47 rfl rfl (fun y hy => runs_47 y (hx.2.1.2 y hy))
  have rQ := runs_49 x.ports hx.2.2.1 50 Tryz.f50 (fun y => !portOk y) Tryz.func50 rfl rfl (fun y hy => runs_50 y)
  (refine vw_go rfl ?_; simp only [go_sem, setCells, setIn])
  (refine ⟨_, _, call_rx [0, 0] Tryz.func46 (rP) rfl rfl rfl rfl rfl rfl rfl (by simp [lendAll, lendC, seek, fresh, nav, rcells, RT.cells, VV.cells, tabE_cons, tabS_cons, ev, take_map_len, sRow_r1, sRow_comp, sRow_clean, nRow_r1, nRow_comp, nRow_clean, partRow_r1, partRow_comp, partRowO_r1, partRowO_comp, partRowO_clean, portRow_r1, portRow_comp, portRowO_r1, portRowO_comp, portRowO_clean, insRow_r1, tellRow_r1, opRow_r1]) rfl (by simp [rcells, RT.cells, CT.clean, T.clean, sRow_r1, sRow_comp, sRow_clean, nRow_r1, nRow_comp, nRow_clean, partRow_r1, partRow_comp, partRowO_r1, partRowO_comp, partRowO_clean, portRow_r1, portRow_comp, portRowO_r1, portRowO_comp, portRowO_clean, insRow_r1, tellRow_r1, opRow_r1]) rfl rfl, ?_⟩)
  cases x.parts.any (fun y => !partOk y)
  case true =>
    simp only [runH, runX, go_sem, setCells, setIn]
    exact vw_ret (e_ret (ret_of rfl rfl (by simp [RB]) rfl rfl))
  simp only [runH, runX, go_sem, setCells, setIn]
  (refine ⟨_, _, call_rx [0, 0] Tryz.func49 (rQ) rfl rfl rfl rfl rfl rfl rfl (by simp [lendAll, lendC, seek, fresh, nav, rcells, RT.cells, VV.cells, tabE_cons, tabS_cons, ev, take_map_len, sRow_r1, sRow_comp, sRow_clean, nRow_r1, nRow_comp, nRow_clean, partRow_r1, partRow_comp, partRowO_r1, partRowO_comp, partRowO_clean, portRow_r1, portRow_comp, portRowO_r1, portRowO_comp, portRowO_clean, insRow_r1, tellRow_r1, opRow_r1]) rfl (by simp [rcells, RT.cells, CT.clean, T.clean, sRow_r1, sRow_comp, sRow_clean, nRow_r1, nRow_comp, nRow_clean, partRow_r1, partRow_comp, partRowO_r1, partRowO_comp, partRowO_clean, portRow_r1, portRow_comp, portRowO_r1, portRowO_comp, portRowO_clean, insRow_r1, tellRow_r1, opRow_r1]) rfl rfl, ?_⟩)
  simp only [runH, runX, go_sem, setCells, setIn]
  exact vw_ret (e_ret (ret_of rfl rfl (by simp [RB]) rfl rfl))

theorem any_mem {α : Type} {l : List α} {p : α → Bool} {i : Nat} {a : α} (h : l[i]? = some a) (hp : p a = true) : l.any p = true := List.any_eq_true.2 ⟨a, List.mem_of_getElem? h, hp⟩
theorem any_next {α : Type} {l : List α} {p : α → Bool} {i : Nat} {a : α} (h : l[i]? = some a) (h0 : (l.take i).any p = false) (hp : p a = false) : (l.take (i + 1)).any p = false := by
  rw [List.take_add_one, h, List.any_append, h0]
  simp [hp]

theorem runs_7 (x : SysV) (hs : x.small) (hx : x.ok) : Runs Tryz.prog 7 [.agg [.v (.list false 1 (x.ftl.pages.map sRow)), .v (.list false 1 (x.ftl.wear.map nRow)), .v (.list false 1 (x.ftl.map.map nRow)), .v (.int .i64 x.ftl.seq), .v (.list false 4 (x.parts.map partRow)), .v (.list false 2 (x.ports.map portRow)), .v (.int .i64 x.tick)]] [.one (.v (.bool (sysOk x)))] [] := by
  refine runs_tab (tab := [(0, .agg [.c (.list false 1 (x.ftl.pages.map sRow)), .c (.list false 1 (x.ftl.wear.map nRow)), .c (.list false 1 (x.ftl.map.map nRow)), .c (.int .i64 x.ftl.seq), .c (.list false 4 (x.parts.map partRow)), .c (.list false 2 (x.ports.map portRow)), .c (.int .i64 x.tick)])]) (rts := []) (n := 46) (k := 7) Tryz.func7 rfl rfl (by simp) rfl (fun t => ?_) rfl ?_
  · cases t <;> rfl
  have r0 := runs_37 x.ftl hs.ftl
  unfold sysOk
  (refine vw_go rfl ?_; simp only [go_sem, setCells, setIn])
  refine vw_seq ?_
  (refine vw_go rfl ?_; simp only [go_sem, setCells, setIn])
  (refine ⟨_, _, call_rx [0] Tryz.func37 (r0) rfl rfl rfl rfl rfl rfl rfl (by simp [lendAll, lendC, seek, fresh, nav, rcells, RT.cells, VV.cells, tabE_cons, tabS_cons, ev, take_map_len, sRow_r1, sRow_comp, sRow_clean, nRow_r1, nRow_comp, nRow_clean, partRow_r1, partRow_comp, partRowO_r1, partRowO_comp, partRowO_clean, portRow_r1, portRow_comp, portRowO_r1, portRowO_comp, portRowO_clean, insRow_r1, tellRow_r1, opRow_r1]) rfl (by simp [rcells, RT.cells, CT.clean, T.clean, sRow_r1, sRow_comp, sRow_clean, nRow_r1, nRow_comp, nRow_clean, partRow_r1, partRow_comp, partRowO_r1, partRowO_comp, partRowO_clean, portRow_r1, portRow_comp, portRowO_r1, portRowO_comp, portRowO_clean, insRow_r1, tellRow_r1, opRow_r1]) rfl rfl, ?_⟩)
  generalize wholeF x.ftl = ok
  cases ok
  case false =>
    simp only [runH, runX, go_sem, setCells, setIn]
    (refine vw_cond (t := true) rfl (fun _ => ?_) (fun h => nomatch h))
    (refine vw_go rfl ?_; simp only [go_sem, setCells, setIn])
    exact vw_ret (r_then (e_ret (ret_of rfl rfl (by simp [RB]) rfl rfl)))
  by_cases h1 : x.parts.length = 2
  case neg =>
    have i1 : ¬ ((x.parts.length : Int) = 2) := by omega
    rw [decide_eq_false h1]
    simp only [runH, runX, i1, go_sem, setCells, setIn]
    (refine vw_cond (t := true) rfl (fun _ => ?_) (fun h => nomatch h))
    (refine vw_go rfl ?_; simp only [go_sem, setCells, setIn])
    exact vw_ret (r_then (e_ret (ret_of rfl rfl (by simp [RB]) rfl rfl)))
  have i1 : ((x.parts.length : Int) = 2) := by omega
  rw [decide_eq_true h1]
  by_cases h2 : x.ports.length = 2
  case neg =>
    have i2 : ¬ ((x.ports.length : Int) = 2) := by omega
    rw [decide_eq_false h2]
    simp only [runH, runX, i1, i2, go_sem, setCells, setIn]
    (refine vw_cond (t := true) rfl (fun _ => ?_) (fun h => nomatch h))
    (refine vw_go rfl ?_; simp only [go_sem, setCells, setIn])
    exact vw_ret (r_then (e_ret (ret_of rfl rfl (by simp [RB]) rfl rfl)))
  have i2 : ((x.ports.length : Int) = 2) := by omega
  rw [decide_eq_true h2]
  simp only [runH, runX, i1, i2, go_sem, setCells, setIn]
  (refine ⟨_, _, call_rd [0, 0, 0] Tryz.func38 (runs_38 x.tick 0 400) rfl rfl rfl rfl rfl rfl rfl rfl rfl rfl rfl rfl rfl, ?_⟩)
  cases inB x.tick 0 400
  · simp only [runH, runX, go_sem, setCells, setIn]
    (refine vw_cond (t := true) rfl (fun _ => ?_) (fun h => nomatch h))
    (refine vw_go rfl ?_; simp only [go_sem, setCells, setIn])
    exact vw_ret (r_then (e_ret (ret_of rfl rfl (by simp [RB]) rfl rfl)))
  simp only [runH, runX, go_sem, setCells, setIn]
  (refine vw_cond (t := false) rfl (fun h => nomatch h) (fun _ => ?_))
  refine vw_skip (n_then ?_)
  refine vw_seq ?_
  (refine vw_go rfl ?_; simp only [go_sem, setCells, setIn])
  refine vw_block ?_
  refine vw_loop_tab (α := Nat) (fun i => 2 - i) (fun i => ⟨tabE [(1, .ptr 7 [] 0 0 0), (3, .c (.int .i64 i))], tabS [(7, some ⟨true, 7, [[.list false 1 (x.ftl.pages.map sRow), .list false 1 (x.ftl.wear.map nRow), .list false 1 (x.ftl.map.map nRow), .int .i64 x.ftl.seq, .list false 4 (x.parts.map partRow), .list false 2 (x.ports.map portRow), .int .i64 x.tick]], []⟩)], 8⟩)
    (fun i => i ≤ 2 ∧ (x.parts.take i).any (fun y => !partOk y) = false ∧ (x.ports.take i).any (fun y => !portOk y) = false) (x := 0) ?round ?h0 ?hn
  case h0 => exact ⟨by decide, rfl, rfl⟩
  case hn =>
    (refine norm_to [(7, 7)] rfl ?_ ?_ <;> simp only [go_sem])
  rintro i ⟨hi, ha, hb⟩
  refine vw_seq ?_
  by_cases hc : (i : Int) < 2
  case neg =>
    rw [List.take_of_length_le (by omega)] at ha hb
    rw [ha, hb]
    (refine vw_go rfl ?_; simp only [hc, go_sem, setCells, setIn])
    (refine vw_cond (t := false) rfl (fun h => nomatch h) (fun _ => ?_))
    refine vw_exit (x_then (x_then (x_block (n_then ?_))))
    (refine vw_go rfl ?_; simp only [go_sem, setCells, setIn])
    exact vw_ret (e_ret (ret_of rfl rfl (by simp [RB]) rfl rfl))
  obtain ⟨p, hp⟩ : ∃ p, x.parts[i]? = some p := ⟨_, List.getElem?_eq_getElem (by omega)⟩
  obtain ⟨q, hq⟩ : ∃ p, x.ports[i]? = some p := ⟨_, List.getElem?_eq_getElem (by omega)⟩
  have rp := runs_39 p (hx.2.1.2 p (List.mem_of_getElem? hp))
  have rq := runs_40 q
  have ap : partOk p = false → x.parts.any (fun y => !partOk y) = true := fun h => any_mem hp (by simp [h])
  have aq : portOk q = false → x.ports.any (fun y => !portOk y) = true := fun h => any_mem hq (by simp [h])
  have np : partOk p = true → (x.parts.take (i + 1)).any (fun y => !partOk y) = false := fun h => any_next hp ha (by simp [h])
  have nq : portOk q = true → (x.ports.take (i + 1)).any (fun y => !portOk y) = false := fun h => any_next hq hb (by simp [h])
  generalize partOk p = a at rp ap np
  generalize portOk q = b at rq aq nq
  have d0 : (0:Int) ≤ (i : Int) := by omega
  have d1 : (i : Int) < x.parts.length := by omega
  have d2 : (i : Int) < x.ports.length := by omega
  have d3 : i < x.parts.length := by omega
  have d4 : i < x.ports.length := by omega
  have w3 : IntKind.wrap .i64 ((i:Int) + 1) = ((i + 1 : Nat) : Int) := by rw [wrap_i64 (by omega) (by omega)]; rfl
  (refine vw_go rfl ?_; simp only [hc, go_sem, setCells, setIn])
  (refine vw_cond (t := true) rfl (fun _ => ?_) (fun h => nomatch h))
  refine vw_skip (n_then ?_)
  refine vw_seq ?_
  refine vw_block ?_
  (refine vw_go rfl ?_; simp only [d0, d1, d3, Int.toNat_natCast, getD_map_of hp, partRow, go_sem, setCells, setIn])
  (refine ⟨_, _, call_rx [0] Tryz.func39 (rp) rfl rfl rfl rfl rfl rfl rfl (by simp [lendAll, lendC, seek, fresh, nav, rcells, RT.cells, VV.cells, tabE_cons, tabS_cons, ev, take_map_len, sRow_r1, sRow_comp, sRow_clean, nRow_r1, nRow_comp, nRow_clean, partRow_r1, partRow_comp, partRowO_r1, partRowO_comp, partRowO_clean, portRow_r1, portRow_comp, portRowO_r1, portRowO_comp, portRowO_clean, insRow_r1, tellRow_r1, opRow_r1]) rfl (by simp [rcells, RT.cells, CT.clean, T.clean, sRow_r1, sRow_comp, sRow_clean, nRow_r1, nRow_comp, nRow_clean, partRow_r1, partRow_comp, partRowO_r1, partRowO_comp, partRowO_clean, portRow_r1, portRow_comp, portRowO_r1, portRowO_comp, portRowO_clean, insRow_r1, tellRow_r1, opRow_r1]) rfl rfl, ?_⟩)
  cases a
  · rw [ap rfl]
    simp only [runH, runX, go_sem, setCells, setIn]
    (refine vw_cond (t := true) rfl (fun _ => ?_) (fun h => nomatch h))
    (refine vw_go rfl ?_; simp only [go_sem, setCells, setIn])
    exact vw_ret (r_block (r_then (r_then (r_block (r_then (e_ret (ret_of rfl rfl (by simp [RB]) rfl rfl)))))))
  simp only [runH, runX, d0, d2, d4, Int.toNat_natCast, getD_map_of hq, portRow, go_sem, setCells, setIn]
  (refine ⟨_, _, call_rx [0] Tryz.func40 (rq) rfl rfl rfl rfl rfl rfl rfl (by simp [lendAll, lendC, seek, fresh, nav, rcells, RT.cells, VV.cells, tabE_cons, tabS_cons, ev, take_map_len, sRow_r1, sRow_comp, sRow_clean, nRow_r1, nRow_comp, nRow_clean, partRow_r1, partRow_comp, partRowO_r1, partRowO_comp, partRowO_clean, portRow_r1, portRow_comp, portRowO_r1, portRowO_comp, portRowO_clean, insRow_r1, tellRow_r1, opRow_r1]) rfl (by simp [rcells, RT.cells, CT.clean, T.clean, sRow_r1, sRow_comp, sRow_clean, nRow_r1, nRow_comp, nRow_clean, partRow_r1, partRow_comp, partRowO_r1, partRowO_comp, partRowO_clean, portRow_r1, portRow_comp, portRowO_r1, portRowO_comp, portRowO_clean, insRow_r1, tellRow_r1, opRow_r1]) rfl rfl, ?_⟩)
  cases b
  · rw [aq rfl]
    simp only [runH, runX, go_sem, setCells, setIn]
    (refine vw_cond (t := true) rfl (fun _ => ?_) (fun h => nomatch h))
    (refine vw_go rfl ?_; simp only [go_sem, setCells, setIn])
    exact vw_ret (r_block (r_then (r_then (r_block (r_then (e_ret (ret_of rfl rfl (by simp [RB]) rfl rfl)))))))
  simp only [runH, runX, go_sem, setCells, setIn]
  (refine vw_cond (t := false) rfl (fun h => nomatch h) (fun _ => ?_))
  refine vw_skip (n_block (n_then ?_))
  (refine vw_last rfl ?_; simp only [w3, go_sem, setCells, setIn])
  refine (n_then ?_)
  refine ⟨i + 1, by omega, ⟨by omega, np rfl, nq rfl⟩, ?_⟩
  (refine norm_to [(7, 7)] rfl ?_ ?_ <;> simp only [go_sem])
end Go.Proofs.YtppbonbghmdhhaaGreat
