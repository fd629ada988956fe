/- The library's IndexFunc, ContainsFunc, Index, Contains, Clone, Equal of texts and of numbers. Printed by slf.py. -/
import Derived.Test.YtppbonbghmdhhaaGreatPFMark
namespace Go.Proofs.YtppbonbghmdhhaaGreat
open Go.VM Go
set_option maxRecDepth 100000
set_option linter.unusedSimpArgs false
set_option linter.unusedVariables false
attribute [local congr] vw_congr runV_congr runH_congr runW_congr runX_congr
abbrev nRow (n : Int) : List T := [.int .i64 n]
theorem nRow_r1 (x : Int) : (nRow x).map T.toRO = nRow x := by simp
theorem nRow_comp : List.map T.toRO ∘ nRow = nRow := funext nRow_r1
theorem sRow_comp : List.map T.toRO ∘ sRow = sRow := funext sRow_r1
theorem nRow_clean (l : List Int) : cleanRs (l.map nRow) = true := clean_map (fun x => rfl) l
theorem nRow_noOwn (l : List Int) : ((l.map nRow).all fun r => r.all plainT) = true := by
  rw [List.all_map, List.all_eq_true]; intro x _; rfl
theorem runs_176 (l : List ByteArray) (hl : l.length < 2 ^ 63) (f : Nat) (fn : Func) (p : ByteArray → Bool) (hf : Tryz.prog.funcs[f]? = some fn) (hbody : fn.body.isNone = false) (hname : (fn.name == "runtime.NumGoroutine") = false)
    (hp : ∀ x ∈ l, Runs Tryz.prog f [.one (.v (.str x))] [.one (.v (.bool (p x)))] []) :
    Runs Tryz.prog 176 [.one (.v (.list false 1 (l.map sRow))), .one (.fn f [])] [.one (.v (.int .i64 (idxOf p l 0)))] [] := by
  refine runs_tab (tab := [(0, .c (.list false 1 (l.map sRow))), (1, .fn f [])]) (rts := []) (n := 19) (k := 2) Tryz.func176 rfl rfl (by simp) rfl (fun t => ?_) rfl ?_
  · rcases t with _ | _ | t <;> rfl
  (refine vw_go rfl ?_; simp only [go_sem, setCells, setIn])
  refine vw_seq ?_
  (refine vw_go rfl ?_; simp only [go_sem, setCells, setIn])
  refine vw_block ?_
  refine vw_loop_tab (α := Nat) (fun x => l.length - x) (fun x => ⟨tabE [(0, .c (.list false 1 (l.map sRow))), (1, .fn f []), (7, .c (.int .i64 l.length)), (8, .c (.int .i64 x))], tabS [], 2⟩)
    (fun x => x ≤ l.length ∧ idxOf p (l.drop x) x = idxOf p l 0) (x := 0) ?round ?h0 ?hn
  case h0 => exact ⟨Nat.zero_le _, rfl⟩
  case hn => (refine norm_to [] rfl ?_ ?_ <;> simp only [go_sem])
  rintro i ⟨hi, hm⟩
  (refine vw_go rfl ?_; simp only [go_sem, setCells, setIn])
  refine vw_seq ?_
  refine vw_cond (t := decide ((i : Int) < l.length)) rfl (fun h => ?_) (fun h => ?_)
  · refine vw_skip (n_then ?_)
    rcases get_or l i with ⟨x, hx, hlt⟩ | ⟨_, hge⟩
    case inr => simp only [decide_eq_true_eq] at h; omega
    have c1 : (0:Int) ≤ (i:Int) := by omega
    have c2 : (i:Int) < (l.length : Int) := by omega
    rw [drop_of hx] at hm
    refine vw_seq ?_
    refine vw_block ?_
    (refine vw_go rfl ?_; simp only [go_sem, setCells, setIn])
    (refine vw_go rfl ?_; simp only [c1, c2, Int.toNat_natCast, getD_map_of hx, sRow, go_sem, setCells, setIn])
    refine ⟨_, _, call_rd [0] hf (hp x (List.mem_of_getElem? hx)) rfl rfl rfl hbody hname rfl rfl rfl rfl rfl rfl rfl rfl, ?_⟩
    simp only [runH, runX, go_sem, setCells, setIn]
    refine vw_cond (t := p x) rfl (fun h => ?_) (fun h => ?_)
    · (refine vw_go rfl ?_; simp only [go_sem, setCells, setIn])
      simp only [idxOf, h, if_true] at hm
      rw [← hm]
      exact vw_ret (r_block (r_then (r_then (r_block (r_then (e_ret (ret_of rfl rfl (by simp [RB]) rfl rfl)))))))
    · refine vw_skip (n_block (n_then ?_))
      have w2 : IntKind.wrap .i64 ((i:Int) + 1) = ((i + 1 : Nat) : Int) := by rw [wrap_i64 (by omega) (by omega)]; rfl
      (refine vw_last rfl ?_; simp only [w2, go_sem, setCells, setIn])
      refine (n_then ?_)
      simp only [idxOf, h, Bool.false_eq_true, if_false] at hm
      refine ⟨i + 1, by omega, ⟨hlt, hm⟩, ?_⟩
      (refine norm_to [] rfl ?_ ?_ <;> simp only [go_sem])
  · refine vw_exit (x_then (x_then (x_block (n_then ?_))))
    (refine vw_go rfl ?_; simp only [go_sem, setCells, setIn])
    simp only [decide_eq_false_iff_not] at h
    have : i = l.length := by omega
    subst this
    simp only [List.drop_length, idxOf] at hm
    rw [← hm]
    exact vw_ret (e_ret (ret_of rfl rfl (by simp [RB]) rfl rfl))

theorem runs_129 (l : List ByteArray) (hl : l.length < 2 ^ 63) (f : Nat) (fn : Func) (p : ByteArray → Bool) (hf : Tryz.prog.funcs[f]? = some fn) (hbody : fn.body.isNone = false) (hname : (fn.name == "runtime.NumGoroutine") = false)
    (hp : ∀ x ∈ l, Runs Tryz.prog f [.one (.v (.str x))] [.one (.v (.bool (p x)))] []) :
    Runs Tryz.prog 129 [.one (.v (.list false 1 (l.map sRow))), .one (.fn f [])] [.one (.v (.bool (l.any p)))] [] := by
  refine runs_tab (tab := [(0, .c (.list false 1 (l.map sRow))), (1, .fn f [])]) (rts := []) (n := 9) (k := 2) Tryz.func129 rfl rfl (by simp) rfl (fun t => ?_) rfl ?_
  · rcases t with _ | _ | t <;> rfl
  (refine vw_go rfl ?_; simp only [go_sem, setCells, setIn])
  (refine vw_go rfl ?_; simp only [go_sem, setCells, setIn])
  (refine ⟨_, _, call_rd [0, 0] Tryz.func176 (runs_176 l hl f fn p hf hbody hname hp) rfl rfl rfl rfl rfl rfl rfl rfl (by simp [rcells, RT.cells, sRow_r1]) rfl rfl rfl rfl, ?_⟩)
  simp only [runH, runX, idxOf_any, go_sem, setCells, setIn]
  exact vw_ret (e_ret (ret_of rfl rfl (by simp [RB]) rfl rfl))

theorem runs_177 (l : List Int) (hl : l.length < 2 ^ 63) (f : Nat) (fn : Func) (p : Int → Bool) (hf : Tryz.prog.funcs[f]? = some fn) (hbody : fn.body.isNone = false) (hname : (fn.name == "runtime.NumGoroutine") = false)
    (hp : ∀ x ∈ l, Runs Tryz.prog f [.one (.v (.int .i64 x))] [.one (.v (.bool (p x)))] []) :
    Runs Tryz.prog 177 [.one (.v (.list false 1 (l.map nRow))), .one (.fn f [])] [.one (.v (.int .i64 (idxOf p l 0)))] [] := by
  refine runs_tab (tab := [(0, .c (.list false 1 (l.map nRow))), (1, .fn f [])]) (rts := []) (n := 19) (k := 2) Tryz.func177 rfl rfl (by simp) rfl (fun t => ?_) rfl ?_
  · rcases t with _ | _ | t <;> rfl
  (refine vw_go rfl ?_; simp only [go_sem, setCells, setIn])
  refine vw_seq ?_
  (refine vw_go rfl ?_; simp only [go_sem, setCells, setIn])
  refine vw_block ?_
  refine vw_loop_tab (α := Nat) (fun x => l.length - x) (fun x => ⟨tabE [(0, .c (.list false 1 (l.map nRow))), (1, .fn f []), (7, .c (.int .i64 l.length)), (8, .c (.int .i64 x))], tabS [], 2⟩)
    (fun x => x ≤ l.length ∧ idxOf p (l.drop x) x = idxOf p l 0) (x := 0) ?round ?h0 ?hn
  case h0 => exact ⟨Nat.zero_le _, rfl⟩
  case hn => (refine norm_to [] rfl ?_ ?_ <;> simp only [go_sem])
  rintro i ⟨hi, hm⟩
  (refine vw_go rfl ?_; simp only [go_sem, setCells, setIn])
  refine vw_seq ?_
  refine vw_cond (t := decide ((i : Int) < l.length)) rfl (fun h => ?_) (fun h => ?_)
  · refine vw_skip (n_then ?_)
    rcases get_or l i with ⟨x, hx, hlt⟩ | ⟨_, hge⟩
    case inr => simp only [decide_eq_true_eq] at h; omega
    have c1 : (0:Int) ≤ (i:Int) := by omega
    have c2 : (i:Int) < (l.length : Int) := by omega
    rw [drop_of hx] at hm
    refine vw_seq ?_
    refine vw_block ?_
    (refine vw_go rfl ?_; simp only [go_sem, setCells, setIn])
    (refine vw_go rfl ?_; simp only [c1, c2, Int.toNat_natCast, getD_map_of hx, nRow, go_sem, setCells, setIn])
    refine ⟨_, _, call_rd [0] hf (hp x (List.mem_of_getElem? hx)) rfl rfl rfl hbody hname rfl rfl rfl rfl rfl rfl rfl rfl, ?_⟩
    simp only [runH, runX, go_sem, setCells, setIn]
    refine vw_cond (t := p x) rfl (fun h => ?_) (fun h => ?_)
    · (refine vw_go rfl ?_; simp only [go_sem, setCells, setIn])
      simp only [idxOf, h, if_true] at hm
      rw [← hm]
      exact vw_ret (r_block (r_then (r_then (r_block (r_then (e_ret (ret_of rfl rfl (by simp [RB]) rfl rfl)))))))
    · refine vw_skip (n_block (n_then ?_))
      have w2 : IntKind.wrap .i64 ((i:Int) + 1) = ((i + 1 : Nat) : Int) := by rw [wrap_i64 (by omega) (by omega)]; rfl
      (refine vw_last rfl ?_; simp only [w2, go_sem, setCells, setIn])
      refine (n_then ?_)
      simp only [idxOf, h, Bool.false_eq_true, if_false] at hm
      refine ⟨i + 1, by omega, ⟨hlt, hm⟩, ?_⟩
      (refine norm_to [] rfl ?_ ?_ <;> simp only [go_sem])
  · refine vw_exit (x_then (x_then (x_block (n_then ?_))))
    (refine vw_go rfl ?_; simp only [go_sem, setCells, setIn])
    simp only [decide_eq_false_iff_not] at h
    have : i = l.length := by omega
    subst this
    simp only [List.drop_length, idxOf] at hm
    rw [← hm]
    exact vw_ret (e_ret (ret_of rfl rfl (by simp [RB]) rfl rfl))

theorem runs_131 (l : List Int) (hl : l.length < 2 ^ 63) (f : Nat) (fn : Func) (p : Int → Bool) (hf : Tryz.prog.funcs[f]? = some fn) (hbody : fn.body.isNone = false) (hname : (fn.name == "runtime.NumGoroutine") = false)
    (hp : ∀ x ∈ l, Runs Tryz.prog f [.one (.v (.int .i64 x))] [.one (.v (.bool (p x)))] []) :
    Runs Tryz.prog 131 [.one (.v (.list false 1 (l.map nRow))), .one (.fn f [])] [.one (.v (.bool (l.any p)))] [] := by
  refine runs_tab (tab := [(0, .c (.list false 1 (l.map nRow))), (1, .fn f [])]) (rts := []) (n := 9) (k := 2) Tryz.func131 rfl rfl (by simp) rfl (fun t => ?_) rfl ?_
  · rcases t with _ | _ | t <;> rfl
  (refine vw_go rfl ?_; simp only [go_sem, setCells, setIn])
  (refine vw_go rfl ?_; simp only [go_sem, setCells, setIn])
  (refine ⟨_, _, call_rd [0, 0] Tryz.func177 (runs_177 l hl f fn p hf hbody hname hp) rfl rfl rfl rfl rfl rfl rfl rfl (by simp [rcells, RT.cells, nRow_r1]) rfl rfl rfl rfl, ?_⟩)
  simp only [runH, runX, idxOf_any, go_sem, setCells, setIn]
  exact vw_ret (e_ret (ret_of rfl rfl (by simp [RB]) rfl rfl))

theorem runs_234 (l : List Int) (hl : l.length < 2 ^ 63) (y : Int) :
    Runs Tryz.prog 234 [.one (.v (.list false 1 (l.map nRow))), .one (.v (.int .i64 y))] [.one (.v (.int .i64 (idxOf (fun x => decide (y = x)) l 0)))] [] := by
  refine runs_tab (tab := [(0, .c (.list false 1 (l.map nRow))), (1, .c (.int .i64 y))]) (rts := []) (n := 19) (k := 2) Tryz.func234 rfl rfl (by simp) rfl (fun t => ?_) rfl ?_
  · rcases t with _ | _ | t <;> rfl
  (refine vw_go rfl ?_; simp only [go_sem, setCells, setIn])
  refine vw_seq ?_
  (refine vw_go rfl ?_; simp only [go_sem, setCells, setIn])
  refine vw_block ?_
  refine vw_loop_tab (α := Nat) (fun x => l.length - x) (fun x => ⟨tabE [(0, .c (.list false 1 (l.map nRow))), (1, .c (.int .i64 y)), (7, .c (.int .i64 l.length)), (8, .c (.int .i64 x))], tabS [], 2⟩)
    (fun x => x ≤ l.length ∧ idxOf (fun x => decide (y = x)) (l.drop x) x = idxOf (fun x => decide (y = x)) l 0) (x := 0) ?round ?h0 ?hn
  case h0 => exact ⟨Nat.zero_le _, rfl⟩
  case hn => (refine norm_to [] rfl ?_ ?_ <;> simp only [go_sem])
  rintro i ⟨hi, hm⟩
  (refine vw_go rfl ?_; simp only [go_sem, setCells, setIn])
  refine vw_seq ?_
  refine vw_cond (t := decide ((i : Int) < l.length)) rfl (fun h => ?_) (fun h => ?_)
  · refine vw_skip (n_then ?_)
    rcases get_or l i with ⟨x, hx, hlt⟩ | ⟨_, hge⟩
    case inr => simp only [decide_eq_true_eq] at h; omega
    have c1 : (0:Int) ≤ (i:Int) := by omega
    have c2 : (i:Int) < (l.length : Int) := by omega
    rw [drop_of hx] at hm
    refine vw_seq ?_
    refine vw_block ?_
    (refine vw_go rfl ?_; simp only [go_sem, setCells, setIn])
    (refine vw_go rfl ?_; simp only [c1, c2, Int.toNat_natCast, getD_map_of hx, nRow, go_sem, setCells, setIn])
    refine vw_cond (t := decide (y = x)) rfl (fun h => ?_) (fun h => ?_)
    · (refine vw_go rfl ?_; simp only [go_sem, setCells, setIn])
      simp only [idxOf, h, if_true] at hm
      rw [← hm]
      exact vw_ret (r_block (r_then (r_then (r_block (r_then (e_ret (ret_of rfl rfl (by simp [RB]) rfl rfl)))))))
    · refine vw_skip (n_block (n_then ?_))
      have w2 : IntKind.wrap .i64 ((i:Int) + 1) = ((i + 1 : Nat) : Int) := by rw [wrap_i64 (by omega) (by omega)]; rfl
      (refine vw_last rfl ?_; simp only [w2, go_sem, setCells, setIn])
      refine (n_then ?_)
      simp only [idxOf, h, Bool.false_eq_true, if_false] at hm
      refine ⟨i + 1, by omega, ⟨hlt, hm⟩, ?_⟩
      (refine norm_to [] rfl ?_ ?_ <;> simp only [go_sem])
  · refine vw_exit (x_then (x_then (x_block (n_then ?_))))
    simp only [decide_eq_false_iff_not] at h
    have : i = l.length := by omega
    subst this
    simp only [List.drop_length, idxOf] at hm
    (refine vw_go rfl ?_; simp only [go_sem, setCells, setIn])
    rw [← hm]
    exact vw_ret (e_ret (ret_of rfl rfl (by simp [RB]) rfl rfl))

theorem runs_137 (l m : List Int) (hl : l.length < 2 ^ 62) (hm : m.length < 2 ^ 62) :
    Runs Tryz.prog 137 [.one (.v (.list false 1 (l.map nRow))), .one (.v (.list false 1 (m.map nRow)))] [.one (.v (.bool (decide (l = m))))] [] := by
  refine runs_tab (tab := [(0, .c (.list false 1 (l.map nRow))), (1, .c (.list false 1 (m.map nRow)))]) (rts := []) (n := 26) (k := 2) Tryz.func137 rfl rfl (by simp) rfl (fun t => ?_) rfl ?_
  · rcases t with _ | _ | t <;> rfl
  (refine vw_go rfl ?_; simp only [go_sem, setCells, setIn])
  refine vw_seq ?_
  by_cases hn : l.length = m.length
  case neg =>
    have hn' : ((l.length : Int) = (m.length : Int)) = False := eq_false (by omega)
    (refine vw_go rfl ?_; simp only [hn', go_sem, setCells, setIn])
    (refine vw_cond (t := true) rfl (fun _ => ?_) (fun h => nomatch h))
    (refine vw_go rfl ?_; simp only [go_sem, setCells, setIn])
    rw [show decide (l = m) = false from decide_eq_false (fun e => hn (by rw [e]))]
    exact vw_ret (r_then (e_ret (ret_of rfl rfl (by simp [RB]) rfl rfl)))
  have hn' : (l.length : Int) = (m.length : Int) := by omega
  (refine vw_go rfl ?_; simp only [hn', go_sem, setCells, setIn])
  (refine vw_cond (t := false) rfl (fun h => nomatch h) (fun _ => ?_))
  refine vw_skip (n_then ?_)
  refine vw_seq ?_
  (refine vw_go rfl ?_; simp only [hn', go_sem, setCells, setIn])
  refine vw_block ?_
  refine vw_loop_tab (α := Nat) (fun x => m.length - x) (fun x => ⟨tabE [(0, .c (.list false 1 (l.map nRow))), (1, .c (.list false 1 (m.map nRow))), (12, .c (.int .i64 m.length)), (13, .c (.int .i64 x))], tabS [], 2⟩)
    (fun x => x ≤ m.length ∧ l.take x = m.take x) (x := 0) ?round ?h0 ?hn
  case h0 => exact ⟨Nat.zero_le _, rfl⟩
  case hn => (refine norm_to [] rfl ?_ ?_ <;> simp only [go_sem])
  rintro i ⟨hi, he⟩
  (refine vw_go rfl ?_; simp only [go_sem, setCells, setIn])
  refine vw_seq ?_
  refine vw_cond (t := decide ((i : Int) < m.length)) rfl (fun h => ?_) (fun h => ?_)
  · refine vw_skip (n_then ?_)
    rcases get_or m i with ⟨y, hy, hlt⟩ | ⟨_, hge⟩
    case inr => simp only [decide_eq_true_eq] at h; omega
    rcases get_or l i with ⟨x, hx, hlt2⟩ | ⟨_, hge⟩
    case inr => omega
    have c1 : (0:Int) ≤ (i:Int) := by omega
    have c2 : (i:Int) < (m.length : Int) := by omega
    have w2 : IntKind.wrap .i64 ((i:Int) + 1) = ((i + 1 : Nat) : Int) := by rw [wrap_i64 (by omega) (by omega)]; rfl
    refine vw_seq ?_
    refine vw_block ?_
    (refine vw_go rfl ?_; simp only [go_sem, setCells, setIn])
    (refine vw_draw mixed rfl rfl ?_; simp only [c1, c2, hn', Int.toNat_natCast, getD_map_of hx, getD_map_of hy, nRow, go_sem, setCells, setIn])
    refine ⟨by unfold allOk; kernel_rfl, ?_⟩
    refine vw_cond (t := !decide (x = y)) rfl (fun h => ?_) (fun h => ?_)
    · have h' : ¬ x = y := by simpa using h
      (refine vw_go rfl ?_; simp only [go_sem, setCells, setIn])
      rw [show decide (l = m) = false from decide_eq_false (fun e => h' (by rw [e] at hx; rw [hx] at hy; exact Option.some.inj hy))]
      exact vw_ret (r_block (r_then (r_then (r_block (r_then (e_ret (ret_of rfl rfl (by simp [RB]) rfl rfl)))))))
    · have h' : x = y := by simpa using h
      refine vw_skip (n_block (n_then ?_))
      (refine vw_last rfl ?_; simp only [w2, go_sem, setCells, setIn])
      refine (n_then ?_)
      refine ⟨i + 1, by omega, ⟨hlt, by rw [List.take_add_one, List.take_add_one, he, hx, hy, h']⟩, ?_⟩
      (refine norm_to [] rfl ?_ ?_ <;> simp only [go_sem])
  · refine vw_exit (x_then (x_then (x_block (n_then ?_))))
    simp only [decide_eq_false_iff_not] at h
    have : i = m.length := by omega
    subst this
    rw [List.take_length, List.take_of_length_le (by omega)] at he
    (refine vw_go rfl ?_; simp only [go_sem, setCells, setIn])
    rw [show decide (l = m) = true from decide_eq_true he]
    exact vw_ret (e_ret (ret_of rfl rfl (by simp [RB]) rfl rfl))

theorem runs_201 (l : List Int) (hl : l.length ≤ 2 ^ 20) :
    Runs Tryz.prog 201 [.one (.v (.list false 1 (l.map nRow)))] [.one (.v (.list true 1 (l.map nRow)))] [] := by
  refine runs_tab (tab := [(0, .c (.list false 1 (l.map nRow)))]) (rts := []) (n := 8) (k := 1) Tryz.func201 rfl rfl (by simp) rfl (fun t => ?_) rfl ?_
  · rcases t with _ | t <;> rfl
  (refine vw_go rfl ?_; simp only [go_sem, setCells, setIn])
  refine vw_seq ?_
  refine vw_nil rfl Tryz.underlying23 rfl rfl rfl ⟨_, rfl⟩ rfl rfl rfl (fun b hb => ?_)
  simp only [dstE_tab]
  refine vw_cond (t := b) rfl (fun h => ?_) (fun h => ?_)
  · (refine vw_go rfl ?_; simp only [go_sem, setCells, setIn])
    have : l = [] := by
      cases l with
      | nil => rfl
      | cons x l => exact absurd (hb (by simp)) (by rw [h]; decide)
    subst this
    exact vw_ret (r_then (e_ret (ret_by rfl rfl (by simp [RB]) rfl (by simp only [takeCs, takeC, go_sem, setCells, setIn]))))
  refine vw_skip (n_then ?_)
  have B : ¬ (l.length + 1) * (8 + 1) > bigRow := by simp only [bigRow]; omega
  (refine vw_go rfl ?_; simp only [List.replicate_zero, List.flatten_nil, List.range_zero, nRow_noOwn, B, gt_iff_lt, go_sem, setCells, setIn])
  exact vw_ret (e_ret (ret_by rfl rfl (by simp [RB]) rfl (by simp only [takeCs, takeC, go_sem, setCells, setIn])))
end Go.Proofs.YtppbonbghmdhhaaGreat
