/- The library's IndexFunc, ContainsFunc, Index, Contains, Clone, Equal of texts and of numbers. Printed by slf.py. The cursor over a draw's bytes: New, Byte, Below, Once, Pick, PickInt. The laws' first question: is the argument big. -/
import Derived.Test.YtkijdbljnefeaaaGreatDoorPFOp
import Derived.Test.YtkijdbljnefeaaaGreatDoorPFIn
set_option linter.unusedSimpArgs false
set_option linter.unusedVariables false
namespace Go.Proofs.YtkijdbljnefeaaaGreatDoor
open Go.VM Go
set_option maxRecDepth 100000
attribute [local congr] vw_congr runV_congr runH_congr runW_congr runX_congr stuckV_congr stuckX_congr
abbrev nRow (n : Int) : List T := [.int .i64 n]
theorem nRow_r1 (x : Int) : (nRow x).map T.toRO = nRow x := by simp
theorem nRow_comp : List.map T.toRO ∘ nRow = nRow := funext nRow_r1
theorem sRow_comp : List.map T.toRO ∘ sRow = sRow := funext sRow_r1
theorem nRow_clean (l : List Int) : cleanRs (l.map nRow) = true := clean_map (fun x => rfl) l
theorem nRow_noOwn (l : List Int) : ((l.map nRow).all fun r => r.all plainT) = true := by
  rw [List.all_map, List.all_eq_true]; intro x _; rfl
theorem sRow_fine (H : Value → Nat → List (List T) → Prop) (l : List ByteArray) : fineRs H (l.map sRow) = True := eq_true (fineRs_of (sRow_clean l))
theorem runs_57 (l : List ByteArray) (hl : l.length < 2 ^ 63) (f : Nat) (fn : Func) (p : ByteArray → Bool) (hf : Tryz.prog.funcs[f]? = some fn) (hbody : fn.body.isNone = false) (hname : (fn.name == "runtime.NumGoroutine") = false)
    (hp : ∀ x ∈ l, Runs Tryz.prog f [.one (.v (.str x))] [.one (.v (.bool (p x)))] []) :
    Runs Tryz.prog 57 [.one (.v (.list false 1 (l.map sRow))), .one (.fn f [])] [.one (.v (.int .i64 (idxOf p l 0)))] [] := by
  refine runs_tab (tab := [(0, .c (.list false 1 (l.map sRow))), (1, .fn f [])]) (rts := []) (n := 19) (k := 2) Tryz.func57 rfl rfl (by simp) rfl (fun t => ?_) rfl ?_
  · rcases t with _ | _ | t <;> rfl
  refine vw_go rfl ?_; simp only [go_sem,setCells,setIn]
  refine vw_seq ?_
  refine vw_go rfl ?_; simp only [go_sem,setCells,setIn]
  refine vw_block ?_
  refine vw_loop_tab (α := Nat) (fun x => l.length - x) (fun x => ⟨tabE [(0, .c (.list false 1 (l.map sRow))), (1, .fn f []), (7, .c (.int .i64 l.length)), (8, .c (.int .i64 x))], tabS [], 2⟩)
    (fun x => x ≤ l.length ∧ idxOf p (l.drop x) x = idxOf p l 0) (x := 0) ?round ?h0 ?hn
  case h0 => exact ⟨Nat.zero_le _, rfl⟩
  case hn => (refine norm_to [] rfl ?_ ?_ <;> simp only [go_sem])
  rintro i ⟨hi, hm⟩
  refine vw_go rfl ?_; simp only [go_sem,setCells,setIn]
  refine vw_seq ?_
  refine vw_cond (t := decide ((i : Int) < l.length)) rfl (fun h => ?_) (fun h => ?_)
  · refine vw_skip (n_then ?_)
    rcases get_or l i with ⟨x, hx, hlt⟩ | ⟨_, hge⟩
    case inr => simp only [decide_eq_true_eq] at h; omega
    have c1 : (0:Int) ≤ (i:Int) := by omega
    have c2 : (i:Int) < (l.length : Int) := by omega
    rw [drop_of hx] at hm
    refine vw_seq ?_
    refine vw_block ?_
    refine vw_go rfl ?_; simp only [go_sem,setCells,setIn]
    refine vw_go rfl ?_; simp only [c1,c2,Int.toNat_natCast,getD_map_of hx,sRow,go_sem,setCells,setIn]
    refine ⟨_, _, call_rd [0] hf (hp x (List.mem_of_getElem? hx)) rfl rfl rfl hbody hname rfl rfl rfl rfl rfl rfl rfl rfl, ?_⟩
    simp only [runH,runX,go_sem,setCells,setIn]
    refine vw_cond (t := p x) rfl (fun h => ?_) (fun h => ?_)
    · (refine vw_go rfl ?_; simp only [go_sem,setCells,setIn])
      simp only [idxOf,h,if_true] at hm
      rw [← hm]
      exact vw_ret (r_block (r_then (r_then (r_block (r_then (e_ret (ret_of rfl rfl (by simp [RB]) rfl rfl)))))))
    · refine vw_skip (n_block (n_then ?_))
      have w2 : IntKind.wrap .i64 ((i:Int) + 1) = ((i + 1 : Nat) : Int) := by rw [wrap_i64 (by omega) (by omega)]; rfl
      refine vw_last rfl ?_; simp only [w2,go_sem,setCells,setIn]
      refine (n_then ?_)
      simp only [idxOf,h,Bool.false_eq_true,if_false] at hm
      refine ⟨i + 1, by omega, ⟨hlt, hm⟩, ?_⟩
      refine norm_to [] rfl ?_ ?_ <;> simp only [go_sem]
  · refine vw_exit (x_then (x_then (x_block (n_then ?_))))
    refine vw_go rfl ?_; simp only [go_sem,setCells,setIn]
    simp only [decide_eq_false_iff_not] at h
    have : i = l.length := by omega
    subst this
    simp only [List.drop_length,idxOf] at hm
    rw [← hm]
    exact vw_ret (e_ret (ret_of rfl rfl (by simp [RB]) rfl rfl))
theorem runs_36 (l : List ByteArray) (hl : l.length < 2 ^ 63) (f : Nat) (fn : Func) (p : ByteArray → Bool) (hf : Tryz.prog.funcs[f]? = some fn) (hbody : fn.body.isNone = false) (hname : (fn.name == "runtime.NumGoroutine") = false)
    (hp : ∀ x ∈ l, Runs Tryz.prog f [.one (.v (.str x))] [.one (.v (.bool (p x)))] []) :
    Runs Tryz.prog 36 [.one (.v (.list false 1 (l.map sRow))), .one (.fn f [])] [.one (.v (.bool (l.any p)))] [] := by
  refine runs_tab (tab := [(0, .c (.list false 1 (l.map sRow))), (1, .fn f [])]) (rts := []) (n := 9) (k := 2) Tryz.func36 rfl rfl (by simp) rfl (fun t => ?_) rfl ?_
  · rcases t with _ | _ | t <;> rfl
  refine vw_go rfl ?_; simp only [go_sem,setCells,setIn]
  refine vw_go rfl ?_; simp only [go_sem,setCells,setIn]
  refine ⟨_, _, call_rd [0, 0] Tryz.func57 (runs_57 l hl f fn p hf hbody hname hp) rfl rfl rfl rfl rfl rfl rfl rfl (by simp [rcells,RT.cells,sRow_r1]) rfl rfl rfl rfl, ?_⟩
  simp only [runH,runX,idxOf_any,go_sem,setCells,setIn]
  exact vw_ret (e_ret (ret_of rfl rfl (by simp [RB]) rfl rfl))
theorem runs_54 (l : List ByteArray) (hl : l.length < 2 ^ 63) (y : ByteArray) :
    Runs Tryz.prog 54 [.one (.v (.list false 1 (l.map sRow))), .one (.v (.str y))] [.one (.v (.int .i64 (idxOf (fun x => decide (y = x)) l 0)))] [] := by
  refine runs_tab (tab := [(0, .c (.list false 1 (l.map sRow))), (1, .c (.str y))]) (rts := []) (n := 19) (k := 2) Tryz.func54 rfl rfl (by simp) rfl (fun t => ?_) rfl ?_
  · rcases t with _ | _ | t <;> rfl
  refine vw_go rfl ?_; simp only [go_sem,setCells,setIn]
  refine vw_seq ?_
  refine vw_go rfl ?_; simp only [go_sem,setCells,setIn]
  refine vw_block ?_
  refine vw_loop_tab (α := Nat) (fun x => l.length - x) (fun x => ⟨tabE [(0, .c (.list false 1 (l.map sRow))), (1, .c (.str y)), (7, .c (.int .i64 l.length)), (8, .c (.int .i64 x))], tabS [], 2⟩)
    (fun x => x ≤ l.length ∧ idxOf (fun x => decide (y = x)) (l.drop x) x = idxOf (fun x => decide (y = x)) l 0) (x := 0) ?round ?h0 ?hn
  case h0 => exact ⟨Nat.zero_le _, rfl⟩
  case hn => (refine norm_to [] rfl ?_ ?_ <;> simp only [go_sem])
  rintro i ⟨hi, hm⟩
  refine vw_go rfl ?_; simp only [go_sem,setCells,setIn]
  refine vw_seq ?_
  refine vw_cond (t := decide ((i : Int) < l.length)) rfl (fun h => ?_) (fun h => ?_)
  · refine vw_skip (n_then ?_)
    rcases get_or l i with ⟨x, hx, hlt⟩ | ⟨_, hge⟩
    case inr => simp only [decide_eq_true_eq] at h; omega
    have c1 : (0:Int) ≤ (i:Int) := by omega
    have c2 : (i:Int) < (l.length : Int) := by omega
    rw [drop_of hx] at hm
    refine vw_seq ?_
    refine vw_block ?_
    refine vw_go rfl ?_; simp only [go_sem,setCells,setIn]
    refine vw_go rfl ?_; simp only [c1,c2,Int.toNat_natCast,getD_map_of hx,sRow,go_sem,setCells,setIn]
    refine vw_cond (t := decide (y = x)) rfl (fun h => ?_) (fun h => ?_)
    · (refine vw_go rfl ?_; simp only [go_sem,setCells,setIn])
      simp only [idxOf,h,if_true] at hm
      rw [← hm]
      exact vw_ret (r_block (r_then (r_then (r_block (r_then (e_ret (ret_of rfl rfl (by simp [RB]) rfl rfl)))))))
    · refine vw_skip (n_block (n_then ?_))
      have w2 : IntKind.wrap .i64 ((i:Int) + 1) = ((i + 1 : Nat) : Int) := by rw [wrap_i64 (by omega) (by omega)]; rfl
      refine vw_last rfl ?_; simp only [w2,go_sem,setCells,setIn]
      refine (n_then ?_)
      simp only [idxOf,h,Bool.false_eq_true,if_false] at hm
      refine ⟨i + 1, by omega, ⟨hlt, hm⟩, ?_⟩
      refine norm_to [] rfl ?_ ?_ <;> simp only [go_sem]
  · refine vw_exit (x_then (x_then (x_block (n_then ?_))))
    simp only [decide_eq_false_iff_not] at h
    have : i = l.length := by omega
    subst this
    simp only [List.drop_length,idxOf] at hm
    refine vw_go rfl ?_; simp only [go_sem,setCells,setIn]
    rw [← hm]
    exact vw_ret (e_ret (ret_of rfl rfl (by simp [RB]) rfl rfl))
theorem runs_97 (l : List Int) (hl : l.length < 2 ^ 63) (f : Nat) (fn : Func) (p : Int → Bool) (hf : Tryz.prog.funcs[f]? = some fn) (hbody : fn.body.isNone = false) (hname : (fn.name == "runtime.NumGoroutine") = false)
    (hp : ∀ x ∈ l, Runs Tryz.prog f [.one (.v (.int .i64 x))] [.one (.v (.bool (p x)))] []) :
    Runs Tryz.prog 97 [.one (.v (.list false 1 (l.map nRow))), .one (.fn f [])] [.one (.v (.int .i64 (idxOf p l 0)))] [] := by
  refine runs_tab (tab := [(0, .c (.list false 1 (l.map nRow))), (1, .fn f [])]) (rts := []) (n := 19) (k := 2) Tryz.func97 rfl rfl (by simp) rfl (fun t => ?_) rfl ?_
  · rcases t with _ | _ | t <;> rfl
  refine vw_go rfl ?_; simp only [go_sem,setCells,setIn]
  refine vw_seq ?_
  refine vw_go rfl ?_; simp only [go_sem,setCells,setIn]
  refine vw_block ?_
  refine vw_loop_tab (α := Nat) (fun x => l.length - x) (fun x => ⟨tabE [(0, .c (.list false 1 (l.map nRow))), (1, .fn f []), (7, .c (.int .i64 l.length)), (8, .c (.int .i64 x))], tabS [], 2⟩)
    (fun x => x ≤ l.length ∧ idxOf p (l.drop x) x = idxOf p l 0) (x := 0) ?round ?h0 ?hn
  case h0 => exact ⟨Nat.zero_le _, rfl⟩
  case hn => (refine norm_to [] rfl ?_ ?_ <;> simp only [go_sem])
  rintro i ⟨hi, hm⟩
  refine vw_go rfl ?_; simp only [go_sem,setCells,setIn]
  refine vw_seq ?_
  refine vw_cond (t := decide ((i : Int) < l.length)) rfl (fun h => ?_) (fun h => ?_)
  · refine vw_skip (n_then ?_)
    rcases get_or l i with ⟨x, hx, hlt⟩ | ⟨_, hge⟩
    case inr => simp only [decide_eq_true_eq] at h; omega
    have c1 : (0:Int) ≤ (i:Int) := by omega
    have c2 : (i:Int) < (l.length : Int) := by omega
    rw [drop_of hx] at hm
    refine vw_seq ?_
    refine vw_block ?_
    refine vw_go rfl ?_; simp only [go_sem,setCells,setIn]
    refine vw_go rfl ?_; simp only [c1,c2,Int.toNat_natCast,getD_map_of hx,nRow,go_sem,setCells,setIn]
    refine ⟨_, _, call_rd [0] hf (hp x (List.mem_of_getElem? hx)) rfl rfl rfl hbody hname rfl rfl rfl rfl rfl rfl rfl rfl, ?_⟩
    simp only [runH,runX,go_sem,setCells,setIn]
    refine vw_cond (t := p x) rfl (fun h => ?_) (fun h => ?_)
    · (refine vw_go rfl ?_; simp only [go_sem,setCells,setIn])
      simp only [idxOf,h,if_true] at hm
      rw [← hm]
      exact vw_ret (r_block (r_then (r_then (r_block (r_then (e_ret (ret_of rfl rfl (by simp [RB]) rfl rfl)))))))
    · refine vw_skip (n_block (n_then ?_))
      have w2 : IntKind.wrap .i64 ((i:Int) + 1) = ((i + 1 : Nat) : Int) := by rw [wrap_i64 (by omega) (by omega)]; rfl
      refine vw_last rfl ?_; simp only [w2,go_sem,setCells,setIn]
      refine (n_then ?_)
      simp only [idxOf,h,Bool.false_eq_true,if_false] at hm
      refine ⟨i + 1, by omega, ⟨hlt, hm⟩, ?_⟩
      refine norm_to [] rfl ?_ ?_ <;> simp only [go_sem]
  · refine vw_exit (x_then (x_then (x_block (n_then ?_))))
    refine vw_go rfl ?_; simp only [go_sem,setCells,setIn]
    simp only [decide_eq_false_iff_not] at h
    have : i = l.length := by omega
    subst this
    simp only [List.drop_length,idxOf] at hm
    rw [← hm]
    exact vw_ret (e_ret (ret_of rfl rfl (by simp [RB]) rfl rfl))
theorem runs_70 (l : List Int) (hl : l.length < 2 ^ 63) (f : Nat) (fn : Func) (p : Int → Bool) (hf : Tryz.prog.funcs[f]? = some fn) (hbody : fn.body.isNone = false) (hname : (fn.name == "runtime.NumGoroutine") = false)
    (hp : ∀ x ∈ l, Runs Tryz.prog f [.one (.v (.int .i64 x))] [.one (.v (.bool (p x)))] []) :
    Runs Tryz.prog 70 [.one (.v (.list false 1 (l.map nRow))), .one (.fn f [])] [.one (.v (.bool (l.any p)))] [] := by
  refine runs_tab (tab := [(0, .c (.list false 1 (l.map nRow))), (1, .fn f [])]) (rts := []) (n := 9) (k := 2) Tryz.func70 rfl rfl (by simp) rfl (fun t => ?_) rfl ?_
  · rcases t with _ | _ | t <;> rfl
  refine vw_go rfl ?_; simp only [go_sem,setCells,setIn]
  refine vw_go rfl ?_; simp only [go_sem,setCells,setIn]
  refine ⟨_, _, call_rd [0, 0] Tryz.func97 (runs_97 l hl f fn p hf hbody hname hp) rfl rfl rfl rfl rfl rfl rfl rfl (by simp [rcells,RT.cells,nRow_r1]) rfl rfl rfl rfl, ?_⟩
  simp only [runH,runX,idxOf_any,go_sem,setCells,setIn]
  exact vw_ret (e_ret (ret_of rfl rfl (by simp [RB]) rfl rfl))
theorem runs_49 (l : List Int) (hl : l.length < 2 ^ 63) (y : Int) :
    Runs Tryz.prog 49 [.one (.v (.list false 1 (l.map nRow))), .one (.v (.int .i64 y))] [.one (.v (.int .i64 (idxOf (fun x => decide (y = x)) l 0)))] [] := by
  refine runs_tab (tab := [(0, .c (.list false 1 (l.map nRow))), (1, .c (.int .i64 y))]) (rts := []) (n := 19) (k := 2) Tryz.func49 rfl rfl (by simp) rfl (fun t => ?_) rfl ?_
  · rcases t with _ | _ | t <;> rfl
  refine vw_go rfl ?_; simp only [go_sem,setCells,setIn]
  refine vw_seq ?_
  refine vw_go rfl ?_; simp only [go_sem,setCells,setIn]
  refine vw_block ?_
  refine vw_loop_tab (α := Nat) (fun x => l.length - x) (fun x => ⟨tabE [(0, .c (.list false 1 (l.map nRow))), (1, .c (.int .i64 y)), (7, .c (.int .i64 l.length)), (8, .c (.int .i64 x))], tabS [], 2⟩)
    (fun x => x ≤ l.length ∧ idxOf (fun x => decide (y = x)) (l.drop x) x = idxOf (fun x => decide (y = x)) l 0) (x := 0) ?round ?h0 ?hn
  case h0 => exact ⟨Nat.zero_le _, rfl⟩
  case hn => (refine norm_to [] rfl ?_ ?_ <;> simp only [go_sem])
  rintro i ⟨hi, hm⟩
  refine vw_go rfl ?_; simp only [go_sem,setCells,setIn]
  refine vw_seq ?_
  refine vw_cond (t := decide ((i : Int) < l.length)) rfl (fun h => ?_) (fun h => ?_)
  · refine vw_skip (n_then ?_)
    rcases get_or l i with ⟨x, hx, hlt⟩ | ⟨_, hge⟩
    case inr => simp only [decide_eq_true_eq] at h; omega
    have c1 : (0:Int) ≤ (i:Int) := by omega
    have c2 : (i:Int) < (l.length : Int) := by omega
    rw [drop_of hx] at hm
    refine vw_seq ?_
    refine vw_block ?_
    refine vw_go rfl ?_; simp only [go_sem,setCells,setIn]
    refine vw_go rfl ?_; simp only [c1,c2,Int.toNat_natCast,getD_map_of hx,nRow,go_sem,setCells,setIn]
    refine vw_cond (t := decide (y = x)) rfl (fun h => ?_) (fun h => ?_)
    · (refine vw_go rfl ?_; simp only [go_sem,setCells,setIn])
      simp only [idxOf,h,if_true] at hm
      rw [← hm]
      exact vw_ret (r_block (r_then (r_then (r_block (r_then (e_ret (ret_of rfl rfl (by simp [RB]) rfl rfl)))))))
    · refine vw_skip (n_block (n_then ?_))
      have w2 : IntKind.wrap .i64 ((i:Int) + 1) = ((i + 1 : Nat) : Int) := by rw [wrap_i64 (by omega) (by omega)]; rfl
      refine vw_last rfl ?_; simp only [w2,go_sem,setCells,setIn]
      refine (n_then ?_)
      simp only [idxOf,h,Bool.false_eq_true,if_false] at hm
      refine ⟨i + 1, by omega, ⟨hlt, hm⟩, ?_⟩
      refine norm_to [] rfl ?_ ?_ <;> simp only [go_sem]
  · refine vw_exit (x_then (x_then (x_block (n_then ?_))))
    simp only [decide_eq_false_iff_not] at h
    have : i = l.length := by omega
    subst this
    simp only [List.drop_length,idxOf] at hm
    refine vw_go rfl ?_; simp only [go_sem,setCells,setIn]
    rw [← hm]
    exact vw_ret (e_ret (ret_of rfl rfl (by simp [RB]) rfl rfl))
theorem runs_23 (l : List Int) (hl : l.length < 2 ^ 63) (y : Int) :
    Runs Tryz.prog 23 [.one (.v (.list false 1 (l.map nRow))), .one (.v (.int .i64 y))] [.one (.v (.bool (l.any (fun x => decide (y = x)))))] [] := by
  refine runs_tab (tab := [(0, .c (.list false 1 (l.map nRow))), (1, .c (.int .i64 y))]) (rts := []) (n := 9) (k := 2) Tryz.func23 rfl rfl (by simp) rfl (fun t => ?_) rfl ?_
  · rcases t with _ | _ | t <;> rfl
  refine vw_go rfl ?_; simp only [go_sem,setCells,setIn]
  refine vw_go rfl ?_; simp only [go_sem,setCells,setIn]
  refine ⟨_, _, call_rd [0, 0] Tryz.func49 (runs_49 l hl y) rfl rfl rfl rfl rfl rfl rfl rfl (by simp [rcells,RT.cells,nRow_r1]) rfl rfl rfl rfl, ?_⟩
  simp only [runH,runX,idxOf_any,go_sem,setCells,setIn]
  exact vw_ret (e_ret (ret_of rfl rfl (by simp [RB]) rfl rfl))
theorem runs_48 (l m : List Int) (hl : l.length < 2 ^ 62) (hm : m.length < 2 ^ 62) :
    Runs Tryz.prog 48 [.one (.v (.list false 1 (l.map nRow))), .one (.v (.list false 1 (m.map nRow)))] [.one (.v (.bool (decide (l = m))))] [] := by
  refine runs_tab (tab := [(0, .c (.list false 1 (l.map nRow))), (1, .c (.list false 1 (m.map nRow)))]) (rts := []) (n := 26) (k := 2) Tryz.func48 rfl rfl (by simp) rfl (fun t => ?_) rfl ?_
  · rcases t with _ | _ | t <;> rfl
  refine vw_go rfl ?_; simp only [go_sem,setCells,setIn]
  refine vw_seq ?_
  by_cases hn : l.length = m.length
  case neg =>
    have hn' : ((l.length : Int) = (m.length : Int)) = False := eq_false (by omega)
    refine vw_go rfl ?_; simp only [hn',go_sem,setCells,setIn]
    refine vw_cond (t := true) rfl (fun _ => ?_) (fun h => nomatch h)
    refine vw_go rfl ?_; simp only [go_sem,setCells,setIn]
    rw [show decide (l = m) = false from decide_eq_false (fun e => hn (by rw [e]))]
    exact vw_ret (r_then (e_ret (ret_of rfl rfl (by simp [RB]) rfl rfl)))
  have hn' : (l.length : Int) = (m.length : Int) := by omega
  refine vw_go rfl ?_; simp only [hn',go_sem,setCells,setIn]
  refine vw_cond (t := false) rfl (fun h => nomatch h) (fun _ => ?_)
  refine vw_skip (n_then ?_)
  refine vw_seq ?_
  refine vw_go rfl ?_; simp only [hn',go_sem,setCells,setIn]
  refine vw_block ?_
  refine vw_loop_tab (α := Nat) (fun x => m.length - x) (fun x => ⟨tabE [(0, .c (.list false 1 (l.map nRow))), (1, .c (.list false 1 (m.map nRow))), (12, .c (.int .i64 m.length)), (13, .c (.int .i64 x))], tabS [], 2⟩)
    (fun x => x ≤ m.length ∧ l.take x = m.take x) (x := 0) ?round ?h0 ?hn
  case h0 => exact ⟨Nat.zero_le _, rfl⟩
  case hn => (refine norm_to [] rfl ?_ ?_ <;> simp only [go_sem])
  rintro i ⟨hi, he⟩
  refine vw_go rfl ?_; simp only [go_sem,setCells,setIn]
  refine vw_seq ?_
  refine vw_cond (t := decide ((i : Int) < m.length)) rfl (fun h => ?_) (fun h => ?_)
  · refine vw_skip (n_then ?_)
    rcases get_or m i with ⟨y, hy, hlt⟩ | ⟨_, hge⟩
    case inr => simp only [decide_eq_true_eq] at h; omega
    rcases get_or l i with ⟨x, hx, hlt2⟩ | ⟨_, hge⟩
    case inr => omega
    have c1 : (0:Int) ≤ (i:Int) := by omega
    have c2 : (i:Int) < (m.length : Int) := by omega
    have w2 : IntKind.wrap .i64 ((i:Int) + 1) = ((i + 1 : Nat) : Int) := by rw [wrap_i64 (by omega) (by omega)]; rfl
    refine vw_seq ?_
    refine vw_block ?_
    refine vw_go rfl ?_; simp only [go_sem,setCells,setIn]
    refine vw_draw mixed rfl rfl ?_; simp only [c1,c2,hn',Int.toNat_natCast,getD_map_of hx,getD_map_of hy,nRow,go_sem,setCells,setIn]
    refine ⟨by unfold allOk; kernel_rfl, ?_⟩
    refine vw_cond (t := !decide (x = y)) rfl (fun h => ?_) (fun h => ?_)
    · have h' : ¬ x = y := by simpa using h
      refine vw_go rfl ?_; simp only [go_sem,setCells,setIn]
      rw [show decide (l = m) = false from decide_eq_false (fun e => h' (by rw [e] at hx; rw [hx] at hy; exact Option.some.inj hy))]
      exact vw_ret (r_block (r_then (r_then (r_block (r_then (e_ret (ret_of rfl rfl (by simp [RB]) rfl rfl)))))))
    · have h' : x = y := by simpa using h
      refine vw_skip (n_block (n_then ?_))
      refine vw_last rfl ?_; simp only [w2,go_sem,setCells,setIn]
      refine (n_then ?_)
      refine ⟨i + 1, by omega, ⟨hlt, by rw [List.take_add_one, List.take_add_one, he, hx, hy, h']⟩, ?_⟩
      refine norm_to [] rfl ?_ ?_ <;> simp only [go_sem]
  · refine vw_exit (x_then (x_then (x_block (n_then ?_))))
    simp only [decide_eq_false_iff_not] at h
    have : i = m.length := by omega
    subst this
    rw [List.take_length, List.take_of_length_le (by omega)] at he
    refine vw_go rfl ?_; simp only [go_sem,setCells,setIn]
    rw [show decide (l = m) = true from decide_eq_true he]
    exact vw_ret (e_ret (ret_of rfl rfl (by simp [RB]) rfl rfl))
theorem runs_99 (l : List Int) (hl : l.length ≤ 2 ^ 20) :
    Runs Tryz.prog 99 [.one (.v (.list false 1 (l.map nRow)))] [.one (.v (.list true 1 (l.map nRow)))] [] := by
  refine runs_tab (tab := [(0, .c (.list false 1 (l.map nRow)))]) (rts := []) (n := 8) (k := 1) Tryz.func99 rfl rfl (by simp) rfl (fun t => ?_) rfl ?_
  · rcases t with _ | t <;> rfl
  refine vw_go rfl ?_; simp only [go_sem,setCells,setIn]
  refine vw_seq ?_
  refine vw_nil rfl Tryz.underlying27 rfl rfl rfl ⟨_, rfl⟩ rfl rfl rfl (fun b hb => ?_)
  simp only [dstE_tab]
  refine vw_cond (t := b) rfl (fun h => ?_) (fun h => ?_)
  · (refine vw_go rfl ?_; simp only [go_sem,setCells,setIn])
    have : l = [] := by
      cases l with
      | nil => rfl
      | cons x l => exact absurd (hb (by simp)) (by rw [h]; decide)
    subst this
    exact vw_ret (r_then (e_ret (ret_by rfl rfl (by simp [RB]) rfl (by simp only [takeCs,takeC,go_sem,setCells,setIn]))))
  refine vw_skip (n_then ?_)
  have B : ¬ (l.length + 1) * (8 + 1) > bigRow := by simp only [bigRow]; omega
  refine vw_go rfl ?_; simp only [List.replicate_zero,List.flatten_nil,List.range_zero,nRow_noOwn,B,gt_iff_lt,go_sem,setCells,setIn]
  exact vw_ret (e_ret (ret_by rfl rfl (by simp [RB]) rfl (by simp only [takeCs,takeC,go_sem,setCells,setIn])))
end Go.Proofs.YtkijdbljnefeaaaGreatDoor
namespace Go.Proofs.YtkijdbljnefeaaaGreatDoor
open Go.VM Go
set_option maxRecDepth 100000
attribute [local congr] vw_congr runV_congr runH_congr runW_congr runX_congr stuckV_congr stuckX_congr
structure Cur where
  i : Nat
  h : Int
def andV (a b : Int) : Int := IntKind.wrap .i64 (BitVec.ofInt 64 a &&& BitVec.ofInt 64 b).toNat
def xorV (a b : Int) : Int := IntKind.wrap .i64 (BitVec.ofInt 64 a ^^^ BitVec.ofInt 64 b).toNat
theorem andV_255 (a : Int) : 0 ≤ andV a 255 ∧ andV a 255 ≤ 255 := by
  have h : (BitVec.ofInt 64 a &&& BitVec.ofInt 64 255).toNat ≤ 255 := by
    rw [BitVec.toNat_and]
    exact Nat.le_trans Nat.and_le_right (by decide)
  unfold andV
  rw [wrap_i64 (by omega) (by omega)]
  omega
def curH (h : Int) : Int := IntKind.wrap .i64 (IntKind.wrap .i64 (h * 6364136223846793005) + 1442695040888963407)
def curX (h : Int) : Int := andV (xorV (h.fdiv (2 ^ min 33 64)) (h.fdiv (2 ^ min 45 64))) 255
def byteC (L : List UInt8) (c : Cur) : Cur := ⟨if c.i < L.length then c.i + 1 else c.i, curH c.h⟩
def byteV (L : List UInt8) (c : Cur) : Int := if c.i < L.length then andV (IntKind.wrap .i64 (curX (curH c.h) + (L.getD c.i 0).toNat)) 255 else curX (curH c.h)
theorem byteV_in (L : List UInt8) (c : Cur) : 0 ≤ byteV L c ∧ byteV L c ≤ 255 := by
  unfold byteV
  split
  · exact andV_255 _
  · exact andV_255 _
theorem runs_45 (v : Value) (L : List UInt8) (hL : L.length < 2 ^ 60) (c : Cur) (C : Cur) (hC : C = byteC L c) :
    Runs Tryz.prog 45 [.one (.box [.held v 1 (L.map bRow), .int .i64 c.i, .int .i64 c.h])] [.one (.v (.int .i64 (byteV L c)))] [(0, ⟨true, 3, [[.held v 1 (L.map bRow), .int .i64 C.i, .int .i64 C.h]], []⟩)] := by
  refine runs_tabB (tab := [(0, .ptr 0 [] 0 0 0)]) (rts := [(0, some ⟨true, 3, [[.held v 1 (L.map bRow), .int .i64 c.i, .int .i64 c.h]], []⟩)]) (n := 58) (k := 1) Tryz.func45 rfl rfl (by simp) rfl (fun t => ?_) rfl ?_
  · rcases t with _ | t <;> rfl
  refine vw_go rfl ?_; simp only [go_sem,setCells,setIn]
  refine vw_go rfl ?_; simp only [go_sem,setCells,setIn]
  refine vw_draw mixed rfl rfl ?_; simp only [go_sem,setCells,setIn]
  refine ⟨by unfold allOk; kernel_rfl, ?_⟩
  refine vw_seq ?_
  refine vw_draw mixed rfl rfl ?_; simp only [go_sem,setCells,setIn]
  refine ⟨by unfold allOk; kernel_rfl, ?_⟩
  subst hC
  have hb : IntKind.wrap .i64 ((c.i : Int) + 1) = ((c.i + 1 : Nat) : Int) ∨ ¬ c.i < L.length := by
    by_cases h : c.i < L.length
    · left; rw [wrap_i64 (by omega) (by omega)]; rfl
    · exact .inr h
  by_cases hc : c.i < L.length
  · have hi : (c.i : Int) < L.length := by omega
    have h0 : (0:Int) ≤ (c.i : Int) := by omega
    have w1 : IntKind.wrap .i64 ((c.i : Int) + 1) = ((c.i + 1 : Nat) : Int) := by rcases hb with h | h; exact h; exact absurd hc h
    obtain ⟨y, hy⟩ : ∃ y, L[c.i]? = some y := ⟨_, List.getElem?_eq_getElem hc⟩
    refine vw_cond (t := true) (by simp [ev,tabE_cons,hi]) (fun _ => ?_) (fun h => nomatch h)
    refine vw_draw mixed rfl rfl ?_; simp only [h0,hi,Int.toNat_natCast,getD_map_of hy,bRow,go_sem,setCells,setIn]
    refine ⟨by unfold allOk; kernel_rfl, ?_⟩
    have w2 : IntKind.wrap .i64 (y.toNat : Int) = (y.toNat : Int) := by have := y.toNat_lt; exact wrap_i64 (by omega) (by omega)
    refine vw_last rfl ?_; simp only [w1,w2,go_sem,setCells,setIn]
    refine (n_then ?_)
    have e1 : byteV L c = andV (IntKind.wrap .i64 (curX (curH c.h) + (y.toNat : Int))) 255 := by unfold byteV; rw [if_pos hc, getD_of hy]
    have e2 : byteC L c = ⟨c.i + 1, curH c.h⟩ := by unfold byteC; rw [if_pos hc]
    rw [e1, e2]
    refine vw_go rfl ?_; simp only [go_sem,setCells,setIn]
    exact vw_ret (e_ret (ret_b rfl rfl (by simp [RB]) rfl rfl ⟨⟨by simp, _, rfl, rfl, rfl, rfl⟩, trivial⟩))
  · have hi : ¬ (c.i : Int) < L.length := by omega
    refine vw_cond (t := false) (by simp [ev,tabE_cons,hi]) (fun h => nomatch h) (fun _ => ?_)
    refine vw_skip (n_then ?_)
    have e1 : byteV L c = curX (curH c.h) := by unfold byteV; rw [if_neg hc]
    have e2 : byteC L c = ⟨c.i, curH c.h⟩ := by unfold byteC; rw [if_neg hc]
    rw [e1, e2]
    refine vw_go rfl ?_; simp only [go_sem,setCells,setIn]
    exact vw_ret (e_ret (ret_b rfl rfl (by simp [RB]) rfl rfl ⟨⟨by simp, _, rfl, rfl, rfl, rfl⟩, trivial⟩))
def belV (L : List UInt8) (c : Cur) (n : Nat) : Int := (byteV L c).tmod n
theorem belV_in (L : List UInt8) (c : Cur) {n : Nat} (h : 0 < n) : 0 ≤ belV L c n ∧ belV L c n < n := by
  have := byteV_in L c
  unfold belV
  rw [Int.tmod_eq_emod_of_nonneg this.1]
  exact ⟨Int.emod_nonneg _ (by omega), Int.emod_lt_of_pos _ (by omega)⟩
theorem runs_21 (v : Value) (L : List UInt8) (hL : L.length < 2 ^ 60) (c : Cur) (n : Nat) (h0 : 0 < n) (h1 : n ≤ 256) :
    Runs Tryz.prog 21 [.one (.box [.held v 1 (L.map bRow), .int .i64 c.i, .int .i64 c.h]), .one (.v (.int .i64 n))] [.one (.v (.int .i64 (belV L c n)))] [(0, ⟨true, 3, [[.held v 1 (L.map bRow), .int .i64 (byteC L c).i, .int .i64 (byteC L c).h]], []⟩)] := by
  refine runs_tabB (tab := [(0, .ptr 0 [] 0 0 0), (1, .c (.int .i64 n))]) (rts := [(0, some ⟨true, 3, [[.held v 1 (L.map bRow), .int .i64 c.i, .int .i64 c.h]], []⟩)]) (n := 37) (k := 2) Tryz.func21 rfl rfl (by simp) rfl (fun t => ?_) rfl ?_
  · rcases t with _ | _ | t <;> rfl
  refine vw_go rfl ?_; simp only [go_sem,setCells,setIn]
  refine vw_seq ?_
  refine vw_go rfl ?_; simp only [go_sem,setCells,setIn]
  have g0 : ¬ (n : Int) ≤ 0 := by omega
  have g1 : (n : Int) ≤ 256 := by omega
  have g2 : ¬ (n : Int) = 0 := by omega
  refine vw_cond (t := false) (by simp [ev,tabE_cons]; omega) (fun h => nomatch h) (fun _ => ?_)
  refine vw_skip (n_then ?_)
  refine vw_seq ?_
  refine vw_go rfl ?_; simp only [go_sem,setCells,setIn]
  refine vw_cond (t := true) (by simp [ev,tabE_cons]; omega) (fun _ => ?_) (fun h => nomatch h)
  have rB := runs_45 v L hL c _ rfl
  refine vw_go rfl ?_; simp only [go_sem,setCells,setIn]
  refine ⟨_, _, call_pt [0] 0 Tryz.func45 (rB) rfl rfl rfl rfl rfl rfl rfl rfl (by simp [lendAll,lendC,seek,fresh,nav,rcells,RT.cells,VV.cells,tabE_cons,tabS_cons,St.put,ev,lit,take_map_len]) rfl rfl (by simp [rcells,RT.cells,CT.fine,T.fine]) (by exact ⟨.inr ⟨0, _, _, rfl, .head _, .head _⟩, trivial, trivial, trivial⟩) rfl rfl, ?_⟩
  simp only [runH,runX,g2,go_sem,setCells,setIn]
  unfold belV
  exact vw_ret (r_then (e_ret (ret_b rfl rfl (by simp [RB]) rfl rfl ⟨⟨by simp, _, rfl, rfl, rfl, rfl⟩, trivial⟩)))
theorem runs_27 (v : Value) (L : List UInt8) (hL : L.length < 2 ^ 60) (c : Cur) (n : Nat) (h0 : 0 < n) (h1 : n ≤ 256) :
    Runs Tryz.prog 27 [.one (.box [.held v 1 (L.map bRow), .int .i64 c.i, .int .i64 c.h]), .one (.v (.int .i64 n))] [.one (.v (.bool (decide (belV L c n = 0))))] [(0, ⟨true, 3, [[.held v 1 (L.map bRow), .int .i64 (byteC L c).i, .int .i64 (byteC L c).h]], []⟩)] := by
  refine runs_tabB (tab := [(0, .ptr 0 [] 0 0 0), (1, .c (.int .i64 n))]) (rts := [(0, some ⟨true, 3, [[.held v 1 (L.map bRow), .int .i64 c.i, .int .i64 c.h]], []⟩)]) (n := 9) (k := 2) Tryz.func27 rfl rfl (by simp) rfl (fun t => ?_) rfl ?_
  · rcases t with _ | _ | t <;> rfl
  have rB := runs_21 v L hL c n h0 h1
  refine vw_go rfl ?_; simp only [go_sem,setCells,setIn]
  refine vw_go rfl ?_; simp only [go_sem,setCells,setIn]
  refine ⟨_, _, call_pt [0, 0] 0 Tryz.func21 (rB) rfl rfl rfl rfl rfl rfl rfl rfl (by simp [lendAll,lendC,seek,fresh,nav,rcells,RT.cells,VV.cells,tabE_cons,tabS_cons,St.put,ev,lit,take_map_len]) rfl rfl (by simp [rcells,RT.cells,CT.fine,T.fine]) (by exact ⟨.inr ⟨0, _, _, rfl, .head _, .head _⟩, trivial, trivial, trivial⟩) rfl rfl, ?_⟩
  simp only [runH,runX,go_sem,setCells,setIn]
  exact vw_ret (e_ret (ret_b rfl rfl (by simp [RB]) rfl rfl ⟨⟨by simp, _, rfl, rfl, rfl, rfl⟩, trivial⟩))
def pickV {α : Type} (L : List UInt8) (c : Cur) (l : List α) (d : α) : α := l.getD (belV L c l.length).toNat d
theorem pickV_mem {α : Type} (L : List UInt8) (c : Cur) {l : List α} (d : α) (h : 0 < l.length) : pickV L c l d ∈ l := by
  have := belV_in L c h
  unfold pickV
  rw [List.getD_eq_getElem?_getD, List.getElem?_eq_getElem (by omega)]
  exact List.getElem_mem _
theorem runs_29 (v : Value) (L : List UInt8) (hL : L.length < 2 ^ 60) (c : Cur) (l : List ByteArray) (h0 : 0 < l.length) (h1 : l.length ≤ 256) :
    Runs Tryz.prog 29 [.one (.box [.held v 1 (L.map bRow), .int .i64 c.i, .int .i64 c.h]), .one (.v (.list false 1 (l.map sRow)))] [.one (.v (.str (pickV L c l ⟨#[]⟩)))] [(0, ⟨true, 3, [[.held v 1 (L.map bRow), .int .i64 (byteC L c).i, .int .i64 (byteC L c).h]], []⟩)] := by
  refine runs_tabB (tab := [(0, .ptr 0 [] 0 0 0), (1, .c (.list false 1 (l.map sRow)))]) (rts := [(0, some ⟨true, 3, [[.held v 1 (L.map bRow), .int .i64 c.i, .int .i64 c.h]], []⟩)]) (n := 12) (k := 2) Tryz.func29 rfl rfl (by simp) rfl (fun t => ?_) rfl ?_
  · rcases t with _ | _ | t <;> rfl
  have rB := runs_21 v L hL c l.length h0 h1
  have hb := belV_in L c h0
  have hy : l[(belV L c l.length).toNat]? = some (pickV L c l ⟨#[]⟩) := by
    unfold pickV
    rw [List.getD_eq_getElem?_getD, List.getElem?_eq_getElem (by omega)]; rfl
  refine vw_go rfl ?_; simp only [go_sem,setCells,setIn]
  refine vw_go rfl ?_; simp only [go_sem,setCells,setIn]
  refine ⟨_, _, call_pt [0, 0] 0 Tryz.func21 (rB) rfl rfl rfl rfl rfl rfl rfl rfl (by simp [lendAll,lendC,seek,fresh,nav,rcells,RT.cells,VV.cells,tabE_cons,tabS_cons,St.put,ev,lit,take_map_len]) rfl rfl (by simp [rcells,RT.cells,CT.fine,T.fine]) (by exact ⟨.inr ⟨0, _, _, rfl, .head _, .head _⟩, trivial, trivial, trivial⟩) rfl rfl, ?_⟩
  simp only [runH,runX,hb.1,hb.2,getD_map_of hy,sRow,go_sem,setCells,setIn]
  exact vw_ret (e_ret (ret_b rfl rfl (by simp [RB]) rfl rfl ⟨⟨by simp, _, rfl, rfl, rfl, rfl⟩, trivial⟩))
theorem runs_43 (v : Value) (L : List UInt8) (hL : L.length < 2 ^ 60) (c : Cur) (l : List Int) (h0 : 0 < l.length) (h1 : l.length ≤ 256) :
    Runs Tryz.prog 43 [.one (.box [.held v 1 (L.map bRow), .int .i64 c.i, .int .i64 c.h]), .one (.v (.list false 1 (l.map nRow)))] [.one (.v (.int .i64 (pickV L c l 0)))] [(0, ⟨true, 3, [[.held v 1 (L.map bRow), .int .i64 (byteC L c).i, .int .i64 (byteC L c).h]], []⟩)] := by
  refine runs_tabB (tab := [(0, .ptr 0 [] 0 0 0), (1, .c (.list false 1 (l.map nRow)))]) (rts := [(0, some ⟨true, 3, [[.held v 1 (L.map bRow), .int .i64 c.i, .int .i64 c.h]], []⟩)]) (n := 12) (k := 2) Tryz.func43 rfl rfl (by simp) rfl (fun t => ?_) rfl ?_
  · rcases t with _ | _ | t <;> rfl
  have rB := runs_21 v L hL c l.length h0 h1
  have hb := belV_in L c h0
  have hy : l[(belV L c l.length).toNat]? = some (pickV L c l 0) := by
    unfold pickV
    rw [List.getD_eq_getElem?_getD, List.getElem?_eq_getElem (by omega)]; rfl
  refine vw_go rfl ?_; simp only [go_sem,setCells,setIn]
  refine vw_go rfl ?_; simp only [go_sem,setCells,setIn]
  refine ⟨_, _, call_pt [0, 0] 0 Tryz.func21 (rB) rfl rfl rfl rfl rfl rfl rfl rfl (by simp [lendAll,lendC,seek,fresh,nav,rcells,RT.cells,VV.cells,tabE_cons,tabS_cons,St.put,ev,lit,take_map_len]) rfl rfl (by simp [rcells,RT.cells,CT.fine,T.fine]) (by exact ⟨.inr ⟨0, _, _, rfl, .head _, .head _⟩, trivial, trivial, trivial⟩) rfl rfl, ?_⟩
  simp only [runH,runX,hb.1,hb.2,getD_map_of hy,nRow,go_sem,setCells,setIn]
  exact vw_ret (e_ret (ret_b rfl rfl (by simp [RB]) rfl rfl ⟨⟨by simp, _, rfl, rfl, rfl, rfl⟩, trivial⟩))
def hashG (L : List UInt8) : Nat → Nat → Int → Int
  | 0, _, h => h
  | n + 1, i, h => hashG L n (i + 1) (andV (IntKind.wrap .i64 (IntKind.wrap .i64 (IntKind.wrap .i64 (h * 131) + ((L.getD i 0).toNat : Int)) + 7)) 1073741823)
def newC (L : List UInt8) : Cur := ⟨0, hashG L (min L.length 4000) 0 (19109 + L.length)⟩
theorem runs_19 (v : Value) (L : List UInt8) (hL : L.length < 2 ^ 60) (C : Cur) (hC : C = newC L) :
    Runs Tryz.prog 19 [.one (.v (.held v 1 (L.map bRow)))] [.one (.box [.held v 1 (L.map bRow), .int .i64 C.i, .int .i64 C.h])] [] := by
  refine runs_tab (tab := [(0, .c (.held v 1 (L.map bRow)))]) (rts := []) (n := 32) (k := 1) Tryz.func19 rfl rfl (by simp) rfl (fun t => ?_) rfl ?_
  · rcases t with _ | t <;> rfl
  have w0 : IntKind.wrap .i64 (19109 + (L.length : Int)) = 19109 + (L.length : Int) := wrap_i64 (by omega) (by omega)
  refine vw_go rfl ?_; simp only [go_sem,setCells,setIn]
  refine vw_go rfl ?_; simp only [w0,go_sem,setCells,setIn]
  refine vw_seq ?_
  refine vw_go rfl ?_; simp only [go_sem,setCells,setIn]
  refine vw_block ?_
  refine vw_loop_tab (α := Nat × Int) (fun x => L.length - x.1) (fun x => ⟨tabE [(0, .c (.held v 1 (L.map bRow))), (3, .c (.int .i64 x.2)), (4, .c (.int .i64 x.1))], tabS [], 1⟩)
    (fun x => x.1 ≤ min L.length 4000 ∧ hashG L (min L.length 4000 - x.1) x.1 x.2 = C.h) (x := (0, 19109 + L.length)) ?round ?h0 ?hn
  case h0 => exact ⟨Nat.zero_le _, by rw [hC]; rfl⟩
  case hn => (refine norm_to [] rfl ?_ ?_ <;> simp only [go_sem])
  rintro ⟨i, h⟩ ⟨hi, hh⟩
  simp only at hi hh
  have c0 : (0:Int) ≤ (i : Int) := by omega
  by_cases hc : i < min L.length 4000
  case neg =>
    obtain rfl : i = min L.length 4000 := by omega
    rw [Nat.sub_self] at hh
    have h2 : hashG L 0 (min L.length 4000) h = h := rfl
    rw [h2] at hh
    subst hh
    have e0 : C.i = 0 := by rw [hC]; rfl
    refine vw_seq ?_
    by_cases hl : ((min L.length 4000 : Nat) : Int) < L.length
    · have hl2 : ¬ ((min L.length 4000 : Nat) : Int) < 4000 := by omega
      refine vw_go rfl ?_; simp only [hl,hl2,go_sem,setCells,setIn]
      refine vw_cond (t := false) rfl (fun h => nomatch h) (fun _ => ?_)
      refine vw_exit (x_then (x_then (x_block (n_then ?_))))
      refine vw_go rfl ?_; simp only [e0,go_sem,setCells,setIn]
      exact vw_ret (e_ret (ret_of rfl rfl (by simp [RB]) rfl rfl))
    · (refine vw_go rfl ?_; simp only [hl,go_sem,setCells,setIn])
      refine vw_cond (t := false) rfl (fun h => nomatch h) (fun _ => ?_)
      refine vw_exit (x_then (x_then (x_block (n_then ?_))))
      refine vw_go rfl ?_; simp only [e0,go_sem,setCells,setIn]
      exact vw_ret (e_ret (ret_of rfl rfl (by simp [RB]) rfl rfl))
  have hi1 : (i : Int) < L.length := by omega
  have hi2 : (i : Int) < 4000 := by omega
  obtain ⟨y, hy⟩ : ∃ y, L[i]? = some y := ⟨_, List.getElem?_eq_getElem (by omega)⟩
  have w2 : IntKind.wrap .i64 (y.toNat : Int) = (y.toNat : Int) := by have := y.toNat_lt; exact wrap_i64 (by omega) (by omega)
  have w3 : IntKind.wrap .i64 ((i:Int) + 1) = ((i + 1 : Nat) : Int) := by rw [wrap_i64 (by omega) (by omega)]; rfl
  refine vw_seq ?_
  refine vw_go rfl ?_; simp only [hi1,hi2,go_sem,setCells,setIn]
  refine vw_cond (t := true) rfl (fun _ => ?_) (fun h => nomatch h)
  refine vw_skip (n_then ?_)
  refine vw_seq ?_
  refine vw_block ?_
  refine vw_last rfl ?_; simp only [c0,hi1,Int.toNat_natCast,getD_map_of hy,bRow,w2,go_sem,setCells,setIn]
  refine (n_block (n_then ?_))
  refine vw_last rfl ?_; simp only [w3,go_sem,setCells,setIn]
  refine (n_then ?_)
  refine ⟨(i + 1, andV (IntKind.wrap .i64 (IntKind.wrap .i64 (IntKind.wrap .i64 (h * 131) + (y.toNat : Int)) + 7)) 1073741823), by simp only; omega, ⟨by simp only; omega, ?_⟩, ?_⟩
  · rw [show min L.length 4000 - i = (min L.length 4000 - (i + 1)) + 1 from by omega, hashG, getD_of hy] at hh
    exact hh
  unfold andV
  refine norm_to [] rfl ?_ ?_ <;> simp only [go_sem]
  rfl
end Go.Proofs.YtkijdbljnefeaaaGreatDoor
namespace Go.Proofs.YtkijdbljnefeaaaGreatDoor
open Go.VM Go
set_option maxRecDepth 100000
attribute [-go_sem] runW_cons
attribute [local congr] vw_congr runV_congr runH_congr runW_congr runX_congr stuckV_congr stuckX_congr
theorem typed_bytes {k : Nat} {ts : List T} (h : typed Tryz.prog (k + 4) 22 ts) : ∃ l : List UInt8, ts = [.list false 1 (l.map bRow)] ∧ l.length < 2 ^ 63 := by
  simp only [typed,Tryz.underlying22,Tryz.underlying5,cellsOf_5] at h
  obtain ⟨rows, rfl, hlen, hrows⟩ := h
  obtain ⟨l, rfl, hl⟩ := map_of (f := bRow) (Q := fun _ => True) (rows := rows) (fun r hr => by
    obtain ⟨i, rfl, hs⟩ := hrows r hr
    simp only [Lit.wf,Bool.and_eq_true,decide_eq_true_eq] at hs
    have h0 : IntKind.min .u8 = 0 := by decide
    have h1 : IntKind.max .u8 = 255 := by decide
    rw [h0, h1] at hs
    refine ⟨UInt8.ofNat i.toNat, ?_, trivial⟩
    have e : ((UInt8.ofNat i.toNat).toNat : Int) = i := by
      rw [UInt8.toNat_ofNat']; omega
    simp only [bRow,e])
  exact ⟨l, rfl, by simpa using hlen⟩
theorem runs_4 (L : List UInt8) (hL : L.length < 2 ^ 63) : Runs Tryz.prog 4 [.one (.v (.list false 1 (L.map bRow)))] [.one (.v (.bool (decide (1048576 < (L.length : Int)))))] [] := by
  refine runs_tab (tab := [(0, .c (.list false 1 (L.map bRow)))]) (rts := []) (n := 6) (k := 1) Tryz.func4 rfl rfl (by simp) rfl (fun t => ?_) rfl ?_
  · rcases t with _ | t <;> rfl
  refine vw_go rfl ?_; simp only [go_sem,setCells,setIn]
  refine vw_go rfl ?_; simp only [go_sem,setCells,setIn]
  exact vw_ret (e_ret (ret_of rfl rfl (by simp [RB]) rfl rfl))
end Go.Proofs.YtkijdbljnefeaaaGreatDoor
