/- ItemsOk of both, and its law. -/
import Derived.Test.YtoenfbbadfcfpaaGreatDoorPFItem2
import Derived.Test.YtoenfbbadfcfpaaGreatDoorPFAskS
set_option linter.unusedSimpArgs false
set_option linter.unusedVariables false
namespace Go.Proofs.YtoenfbbadfcfpaaGreatDoor
open Go.VM
set_option maxRecDepth 100000
attribute [local congr] vw_congr runV_congr runH_congr runW_congr runX_congr stuckV_congr stuckX_congr
def hasPath (q : ByteArray) (x : It3) : Bool := decide (x.1 = q)
theorem runs_28 (l : List It3) (q : ByteArray) (hl : l.length < 2 ^ 63) :
    Runs Tryz.prog 28 [.one (.v (.list false 3 (l.map iRow))), .one (.v (.str q))] [.one (.v (.int .i64 (idxOf (hasPath q) l 0)))] [] := by
  refine runs_tab (tab := [(0, .c (.list false 3 (l.map iRow))), (1, .c (.str q))]) (rts := []) (n := 20) (k := 2) Tryz.func28 rfl rfl (by simp) rfl (fun t => ?_) rfl ?_
  · rcases t with _ | _ | t <;> rfl
  refine vw_go rfl ?_; simp only [go_sem, setCells, setIn]
  refine vw_seq ?_
  refine vw_go rfl ?_; simp only [go_sem, setCells, setIn]
  refine vw_block ?_
  refine vw_loop_tab (α := Nat) (fun x => l.length - x) (fun x => ⟨tabE [(0, .c (.list false 3 (l.map iRow))), (1, .c (.str q)), (5, .c (.int .i64 x))], tabS [], 2⟩)
    (fun x => x ≤ l.length ∧ idxOf (hasPath q) (l.drop x) x = idxOf (hasPath q) l 0) (x := 0) ?round ?h0 ?hn
  case h0 => exact ⟨Nat.zero_le _, rfl⟩
  case hn => (refine norm_to [] rfl ?_ ?_ <;> simp only [go_sem])
  rintro i ⟨hi, hm⟩
  refine vw_seq ?_
  refine vw_go rfl ?_; simp only [go_sem, setCells, setIn]
  refine vw_cond (t := decide ((i : Int) < l.length)) rfl (fun h => ?_) (fun h => ?_)
  · refine vw_skip (n_then ?_)
    rcases get_or l i with ⟨x, hx, hlt⟩ | ⟨_, hge⟩
    case inr => simp only [decide_eq_true_eq] at h; omega
    have c1 : (0:Int) ≤ (i:Int) := by omega
    have c2 : (i:Int) < (l.length : Int) := by omega
    rw [drop_of hx] at hm
    refine vw_seq ?_
    refine vw_block ?_
    refine vw_go rfl ?_; simp only [c1, c2, Int.toNat_natCast, getD_map_of hx, iRow, go_sem, setCells, setIn]
    refine vw_cond (t := hasPath q x) rfl (fun h => ?_) (fun h => ?_)
    · (refine vw_go rfl ?_; simp only [go_sem, setCells, setIn])
      simp only [idxOf, h, if_true] at hm
      rw [← hm]
      exact vw_ret (r_block (r_then (r_then (r_block (r_then (e_ret (ret_of rfl rfl (by simp [RB]) rfl rfl)))))))
    · refine vw_skip (n_block (n_then ?_))
      have w2 : IntKind.wrap .i64 ((i:Int) + 1) = ((i + 1 : Nat) : Int) := by rw [wrap_i64 (by omega) (by omega)]; rfl
      refine vw_last rfl ?_; simp only [w2, go_sem, setCells, setIn]
      refine (n_then ?_)
      simp only [idxOf, h, Bool.false_eq_true, if_false] at hm
      refine ⟨i + 1, by omega, ⟨hlt, hm⟩, ?_⟩
      refine norm_to [] rfl ?_ ?_ <;> simp only [go_sem]
  · refine vw_exit (x_then (x_then (x_block (n_then ?_))))
    refine vw_go rfl ?_; simp only [go_sem, setCells, setIn]
    simp only [decide_eq_false_iff_not] at h
    have : i = l.length := by omega
    subst this
    simp only [List.drop_length, idxOf] at hm
    rw [← hm]
    exact vw_ret (e_ret (ret_of rfl rfl (by simp [RB]) rfl rfl))
theorem runs_60 (x : It3) (q : ByteArray) : Runs Tryz.prog 60 [.agg [.v (.str x.1), .v (.bool x.2.1), .v (.str x.2.2)], .one (.ref [.str q])] [.one (.v (.bool (hasPath q x)))] [] := by
  refine runs_tab (tab := [(0, .agg [.c (.str x.1), .c (.bool x.2.1), .c (.str x.2.2)]), (1, .rop [.str q])]) (rts := []) (n := 8) (k := 4) Tryz.func60 rfl rfl (by simp) rfl (fun t => ?_) rfl ?_
  · rcases t with _ | _ | t <;> rfl
  refine vw_go rfl ?_; simp only [go_sem, setCells, setIn]
  refine vw_go rfl ?_; simp only [go_sem, setCells, setIn]
  exact vw_ret (e_ret (ret_of rfl rfl (by simp [RB]) rfl rfl))
theorem runs_59 (l : List It3) (hl : l.length < 2 ^ 63) (f : Nat) (fn : Func) (caps : List T) (p : It3 → Bool) (hf : Tryz.prog.funcs[f]? = some fn) (hbody : fn.body.isNone = false) (hname : (fn.name == "runtime.NumGoroutine") = false)
    (hp : ∀ x : It3, Runs Tryz.prog f [.agg [.v (.str x.1), .v (.bool x.2.1), .v (.str x.2.2)], .one (.ref caps)] [.one (.v (.bool (p x)))] []) :
    Runs Tryz.prog 59 [.one (.v (.list false 3 (l.map iRow))), .one (.fn f [caps])] [.one (.v (.int .i64 (idxOf p l 0)))] [] := by
  refine runs_tab (tab := [(0, .c (.list false 3 (l.map iRow))), (1, .fn f [caps])]) (rts := []) (n := 19) (k := 2) Tryz.func59 rfl rfl (by simp) rfl (fun t => ?_) rfl ?_
  · rcases t with _ | _ | t <;> rfl
  refine vw_go rfl ?_; simp only [go_sem, setCells, setIn]
  refine vw_seq ?_
  refine vw_go rfl ?_; simp only [go_sem, setCells, setIn]
  refine vw_block ?_
  refine vw_loop_tab (α := Nat) (fun x => l.length - x) (fun x => ⟨tabE [(0, .c (.list false 3 (l.map iRow))), (1, .fn f [caps]), (7, .c (.int .i64 l.length)), (8, .c (.int .i64 x))], tabS [], 2⟩)
    (fun x => x ≤ l.length ∧ idxOf p (l.drop x) x = idxOf p l 0) (x := 0) ?round ?h0 ?hn
  case h0 => exact ⟨Nat.zero_le _, rfl⟩
  case hn => (refine norm_to [] rfl ?_ ?_ <;> simp only [go_sem])
  rintro i ⟨hi, hm⟩
  refine vw_go rfl ?_; simp only [go_sem, setCells, setIn]
  refine vw_seq ?_
  refine vw_cond (t := decide ((i : Int) < l.length)) rfl (fun h => ?_) (fun h => ?_)
  · refine vw_skip (n_then ?_)
    rcases get_or l i with ⟨x, hx, hlt⟩ | ⟨_, hge⟩
    case inr => simp only [decide_eq_true_eq] at h; omega
    have c1 : (0:Int) ≤ (i:Int) := by omega
    have c2 : (i:Int) < (l.length : Int) := by omega
    rw [drop_of hx] at hm
    refine vw_seq ?_
    refine vw_block ?_
    refine vw_go rfl ?_; simp only [go_sem, setCells, setIn]
    refine vw_go rfl ?_; simp only [c1, c2, Int.toNat_natCast, getD_map_of hx, iRow, go_sem, setCells, setIn]
    refine ⟨_, _, call_rd [0] hf (hp x) rfl rfl rfl hbody hname rfl rfl rfl rfl rfl rfl rfl rfl, ?_⟩
    simp only [runH, runX, go_sem, setCells, setIn]
    refine vw_cond (t := p x) rfl (fun h => ?_) (fun h => ?_)
    · (refine vw_go rfl ?_; simp only [go_sem, setCells, setIn])
      simp only [idxOf, h, if_true] at hm
      rw [← hm]
      exact vw_ret (r_block (r_then (r_then (r_block (r_then (e_ret (ret_of rfl rfl (by simp [RB]) rfl rfl)))))))
    · refine vw_skip (n_block (n_then ?_))
      have w2 : IntKind.wrap .i64 ((i:Int) + 1) = ((i + 1 : Nat) : Int) := by rw [wrap_i64 (by omega) (by omega)]; rfl
      refine vw_last rfl ?_; simp only [w2, go_sem, setCells, setIn]
      refine (n_then ?_)
      simp only [idxOf, h, Bool.false_eq_true, if_false] at hm
      refine ⟨i + 1, by omega, ⟨hlt, hm⟩, ?_⟩
      refine norm_to [] rfl ?_ ?_ <;> simp only [go_sem]
  · refine vw_exit (x_then (x_then (x_block (n_then ?_))))
    refine vw_go rfl ?_; simp only [go_sem, setCells, setIn]
    simp only [decide_eq_false_iff_not] at h
    have : i = l.length := by omega
    subst this
    simp only [List.drop_length, idxOf] at hm
    rw [← hm]
    exact vw_ret (e_ret (ret_of rfl rfl (by simp [RB]) rfl rfl))
theorem runs_27 (l : List It3) (q : ByteArray) (hl : l.length < 2 ^ 63) :
    Runs Tryz.prog 27 [.one (.v (.list false 3 (l.map iRow))), .one (.v (.str q))] [.one (.v (.int .i64 (idxOf (hasPath q) l 0)))] [] := by
  refine runs_tab (tab := [(0, .c (.list false 3 (l.map iRow))), (1, .c (.str q))]) (rts := []) (n := 8) (k := 2) Tryz.func27 rfl rfl (by simp) rfl (fun t => ?_) rfl ?_
  · rcases t with _ | _ | t <;> rfl
  refine vw_go rfl ?_; simp only [go_sem, setCells, setIn]
  refine vw_go rfl ?_; simp only [go_sem, setCells, setIn]
  refine ⟨_, _, mk_ok [2] rfl rfl rfl rfl, ?_⟩
  simp only [runH, runX, go_sem, setCells, setIn]
  refine ⟨_, _, call_rd [0, 0] Tryz.func59 (runs_59 l hl 60 Tryz.f60 [.str q] (hasPath q) Tryz.func60 rfl rfl (fun x => runs_60 x q)) rfl rfl rfl rfl rfl rfl rfl rfl (by simp [rcells, RT.cells, iRow_r1]) rfl rfl rfl rfl, ?_⟩
  simp only [runH, runX, go_sem, setCells, setIn]
  exact vw_ret (e_ret (ret_of rfl rfl (by simp [RB]) rfl rfl))
end Go.Proofs.YtoenfbbadfcfpaaGreatDoor
namespace Go.Proofs.YtoenfbbadfcfpaaGreatDoor
open Go.VM
set_option maxRecDepth 100000
attribute [local congr] vw_congr runV_congr runH_congr runW_congr runX_congr stuckV_congr stuckX_congr
theorem idxOf_at {α : Type} (p : α → Bool) : ∀ (l : List α) (i : Nat), idxOf p l i = -1 ∨ ∃ (j : Nat) (x : α), idxOf p l i = ((i + j : Nat) : Int) ∧ l[j]? = some x
  | [], i => .inl rfl
  | x :: l, i => by
    by_cases h : p x = true
    · exact .inr ⟨0, x, by simp only [idxOf, h, if_true]; rfl, rfl⟩
    · have h' : p x = false := by simpa using h
      rcases idxOf_at p l (i + 1) with e | ⟨j, y, e, hy⟩
      · exact .inl (by simp only [idxOf, h', Bool.false_eq_true, if_false, e])
      · exact .inr ⟨j + 1, y, by simp only [idxOf, h', Bool.false_eq_true, if_false, e]; congr 1; omega, hy⟩
def dirAt (l : List It3) (i : Nat) : Bool := match l[i]? with | some x => x.2.1 | none => false
def isFold (l : List It3) (q : ByteArray) : Bool := decide (q = ⟨#[]⟩) || (decide (0 ≤ idxOf (hasPath q) l 0) && dirAt l (idxOf (hasPath q) l 0).toNat)
def itemBad (l : List It3) (i : Nat) (x : It3) : Bool := !(splitF x.1).2.2 || (decide ((60:Int) < x.2.2.size) || ((x.2.1 && !decide (x.2.2 = ⟨#[]⟩)) || (!decide (idxOf (hasPath x.1) l 0 = (i : Int)) || !isFold l (splitF x.1).1)))
def okFrom (l : List It3) : List It3 → Nat → Bool
  | [], _ => true
  | x :: r, i => !itemBad l i x && okFrom l r (i + 1)
def itemsOk (l : List It3) : Bool := okFrom l l 0 && decide ((l.length : Int) ≤ 11)
theorem runs_58 (l : List It3) (q : ByteArray) (hl : l.length < 2 ^ 62) : ∃ c : Int, ((c = 0) ↔ isFold l q = true) ∧ Runs Tryz.prog 58 [.one (.v (.list false 3 (l.map iRow))), .one (.v (.str q))] [.one (.v (.int .i64 c))] [] := by
  have hF := runs_28 l q (by omega)
  by_cases hz : q = ⟨#[]⟩
  · refine ⟨0, ⟨fun _ => by simp [isFold, hz], fun _ => rfl⟩, ?_⟩
    refine runs_tab (tab := [(0, .c (.list false 3 (l.map iRow))), (1, .c (.str q))]) (rts := []) (n := 21) (k := 2) Tryz.func58 rfl rfl (by simp) rfl (fun t => ?_) rfl ?_
    · rcases t with _ | _ | t <;> rfl
    have hz' : decide (q = ⟨#[]⟩) = true := by simp [hz]
    refine vw_go rfl ?_; simp only [go_sem, setCells, setIn]
    refine vw_seq ?_
    refine vw_go rfl ?_; simp only [hz', go_sem, setCells, setIn]
    refine vw_cond (t := true) rfl (fun h => ?_) (fun h => ?_)
    case refine_2 => cases h
    refine vw_go rfl ?_; simp only [go_sem, setCells, setIn]
    exact vw_ret (r_then (e_ret (ret_of rfl rfl (by simp [RB]) rfl rfl)))
  have hz' : decide (q = ⟨#[]⟩) = false := by simp [hz]
  rcases idxOf_at (hasPath q) l 0 with e | ⟨j, x, e, hx⟩
  · refine ⟨2, ⟨fun h => absurd h (by decide), fun h => by simp [isFold, hz, e] at h⟩, ?_⟩
    rw [e] at hF
    refine runs_tab (tab := [(0, .c (.list false 3 (l.map iRow))), (1, .c (.str q))]) (rts := []) (n := 21) (k := 2) Tryz.func58 rfl rfl (by simp) rfl (fun t => ?_) rfl ?_
    · rcases t with _ | _ | t <;> rfl
    refine vw_go rfl ?_; simp only [go_sem, setCells, setIn]
    refine vw_seq ?_
    refine vw_go rfl ?_; simp only [hz', go_sem, setCells, setIn]
    refine vw_cond (t := false) rfl (fun h => ?_) (fun h => ?_)
    · cases h
    refine vw_skip (n_then ?_)
    refine vw_go rfl ?_; simp only [go_sem, setCells, setIn]
    refine ⟨_, _, call_rx [0, 0] Tryz.func28 (hF) rfl rfl rfl rfl rfl rfl rfl (by simp [lendAll, lendC, seek, fresh, nav, rcells, RT.cells, VV.cells, tabE_cons, tabS_cons, ev, take_map_len, iRow_r1, iRow_clean]) rfl (by simp [rcells, RT.cells, CT.clean, T.clean, iRow_r1, iRow_clean]) rfl rfl, ?_⟩
    simp only [runH, runX, go_sem, setCells, setIn]
    refine vw_seq ?_
    refine vw_block ?_
    refine vw_go rfl ?_; simp only [go_sem, setCells, setIn]
    refine vw_cond (t := true) rfl (fun h => ?_) (fun h => ?_)
    case refine_2 => cases h
    refine vw_go rfl ?_; simp only [go_sem, setCells, setIn]
    exact vw_ret (r_block (r_then (e_ret (ret_of rfl rfl (by simp [RB]) rfl rfl))))
  · rw [Nat.zero_add] at e
    rw [e] at hF
    have hlt := lt_of_getl hx
    have hd : isFold l q = x.2.1 := by
      simp only [isFold, hz', e, Bool.false_or, Int.toNat_natCast, dirAt, hx]
      simp
    refine ⟨if x.2.1 = true then 0 else 4, ?_, ?_⟩
    · rw [hd]
      cases x.2.1 <;> simp
    refine runs_tab (tab := [(0, .c (.list false 3 (l.map iRow))), (1, .c (.str q))]) (rts := []) (n := 21) (k := 2) Tryz.func58 rfl rfl (by simp) rfl (fun t => ?_) rfl ?_
    · rcases t with _ | _ | t <;> rfl
    have c1 : (0:Int) ≤ (j:Int) := by omega
    have c2 : (j:Int) < (l.length : Int) := by omega
    have c3 : ((j:Int) < 0) = False := eq_false (by omega)
    refine vw_go rfl ?_; simp only [go_sem, setCells, setIn]
    refine vw_seq ?_
    refine vw_go rfl ?_; simp only [hz', go_sem, setCells, setIn]
    refine vw_cond (t := false) rfl (fun h => ?_) (fun h => ?_)
    · cases h
    refine vw_skip (n_then ?_)
    refine vw_go rfl ?_; simp only [go_sem, setCells, setIn]
    refine ⟨_, _, call_rx [0, 0] Tryz.func28 (hF) rfl rfl rfl rfl rfl rfl rfl (by simp [lendAll, lendC, seek, fresh, nav, rcells, RT.cells, VV.cells, tabE_cons, tabS_cons, ev, take_map_len, iRow_r1, iRow_clean]) rfl (by simp [rcells, RT.cells, CT.clean, T.clean, iRow_r1, iRow_clean]) rfl rfl, ?_⟩
    simp only [runH, runX, go_sem, setCells, setIn]
    refine vw_seq ?_
    refine vw_block ?_
    refine vw_go rfl ?_; simp only [c3, go_sem, setCells, setIn]
    refine vw_cond (t := false) rfl (fun h => ?_) (fun h => ?_)
    · cases h
    refine vw_go rfl ?_; simp only [c1, c2, Int.toNat_natCast, getD_map_of hx, iRow, go_sem, setCells, setIn]
    refine vw_cond (t := !x.2.1) rfl (fun h => ?_) (fun h => ?_)
    · (refine vw_go rfl ?_; simp only [go_sem, setCells, setIn])
      rw [show (if x.2.1 = true then (0:Int) else 4) = 4 from by rw [if_neg (by simpa using h)]]
      exact vw_ret (r_block (r_then (e_ret (ret_of rfl rfl (by simp [RB]) rfl rfl))))
    · refine vw_skip (n_block (n_then ?_))
      refine vw_go rfl ?_; simp only [go_sem, setCells, setIn]
      rw [show (if x.2.1 = true then (0:Int) else 4) = 0 from by rw [if_pos (by simpa using h)]]
      exact vw_ret (e_ret (ret_of rfl rfl (by simp [RB]) rfl rfl))
theorem runs_56 (l : List It3) (q : ByteArray) (hl : l.length < 2 ^ 62) : Runs Tryz.prog 56 [.one (.v (.list false 3 (l.map iRow))), .one (.v (.str q))] [.one (.v (.bool (isFold l q)))] [] := by
  refine runs_tab (tab := [(0, .c (.list false 3 (l.map iRow))), (1, .c (.str q))]) (rts := []) (n := 22) (k := 2) Tryz.func56 rfl rfl (by simp) rfl (fun t => ?_) rfl ?_
  · rcases t with _ | _ | t <;> rfl
  have hF := runs_27 l q (by omega)
  rcases idxOf_at (hasPath q) l 0 with e | ⟨j, x, e, hx⟩
  · rw [e] at hF
    refine vw_go rfl ?_; simp only [go_sem, setCells, setIn]
    refine vw_go rfl ?_; simp only [go_sem, setCells, setIn]
    refine ⟨_, _, call_rx [0, 0] Tryz.func27 (hF) rfl rfl rfl rfl rfl rfl rfl (by simp [lendAll, lendC, seek, fresh, nav, rcells, RT.cells, VV.cells, tabE_cons, tabS_cons, ev, take_map_len, iRow_r1, iRow_clean]) rfl (by simp [rcells, RT.cells, CT.clean, T.clean, iRow_r1, iRow_clean]) rfl rfl, ?_⟩
    simp only [runH, runX, go_sem, setCells, setIn]
    cases hz : decide (q = ⟨#[]⟩)
    · (refine vw_go rfl ?_; simp only [hz, go_sem, setCells, setIn])
      rw [show isFold l q = false from by simp [isFold, hz, e]]
      exact vw_ret (e_ret (ret_of rfl rfl (by simp [RB]) rfl rfl))
    · (refine vw_go rfl ?_; simp only [hz, go_sem, setCells, setIn])
      rw [show isFold l q = true from by simp only [isFold, hz, Bool.true_or]]
      exact vw_ret (e_ret (ret_of rfl rfl (by simp [RB]) rfl rfl))
  · rw [Nat.zero_add] at e
    rw [e] at hF
    have hlt := lt_of_getl hx
    have c1 : (0:Int) ≤ (j:Int) := by omega
    have c2 : (j:Int) < (l.length : Int) := by omega
    refine vw_go rfl ?_; simp only [go_sem, setCells, setIn]
    refine vw_go rfl ?_; simp only [go_sem, setCells, setIn]
    refine ⟨_, _, call_rx [0, 0] Tryz.func27 (hF) rfl rfl rfl rfl rfl rfl rfl (by simp [lendAll, lendC, seek, fresh, nav, rcells, RT.cells, VV.cells, tabE_cons, tabS_cons, ev, take_map_len, iRow_r1, iRow_clean]) rfl (by simp [rcells, RT.cells, CT.clean, T.clean, iRow_r1, iRow_clean]) rfl rfl, ?_⟩
    simp only [runH, runX, go_sem, setCells, setIn]
    cases hz : decide (q = ⟨#[]⟩)
    · (refine vw_go rfl ?_; simp only [hz, c1, c2, Int.toNat_natCast, getD_map_of hx, iRow, go_sem, setCells, setIn])
      rw [show isFold l q = x.2.1 from by simp only [isFold, hz, e, Bool.false_or, Int.toNat_natCast, dirAt, hx]; simp]
      exact vw_ret (e_ret (ret_of rfl rfl (by simp [RB]) rfl rfl))
    · (refine vw_go rfl ?_; simp only [hz, go_sem, setCells, setIn])
      rw [show isFold l q = true from by simp only [isFold, hz, Bool.true_or]]
      exact vw_ret (e_ret (ret_of rfl rfl (by simp [RB]) rfl rfl))
theorem okFrom_bad {b r : Bool} (h : b = true) : (!b && r) = false := by simp [h]
theorem okFrom_good {b r : Bool} (h : b = false) : (!b && r) = r := by simp [h]
theorem runs_26 (l : List It3) (hb : ∀ x ∈ l, x.1.size ≤ 2 ^ 20) (hl : l.length < 2 ^ 62) : Runs Tryz.prog 26 [.one (.v (.list false 3 (l.map iRow)))] [.one (.v (.bool (itemsOk l)))] [] := by
  refine runs_tab (tab := [(0, .c (.list false 3 (l.map iRow)))]) (rts := []) (n := 59) (k := 1) Tryz.func26 rfl rfl (by simp) rfl (fun t => ?_) rfl ?_
  · rcases t with _ | t <;> rfl
  refine vw_go rfl ?_; simp only [go_sem, setCells, setIn]
  refine vw_seq ?_
  refine vw_go rfl ?_; simp only [go_sem, setCells, setIn]
  refine vw_block ?_
  refine vw_loop_tab (α := Nat) (fun x => l.length - x) (fun x => ⟨tabE [(0, .c (.list false 3 (l.map iRow))), (3, .c (.int .i64 x))], tabS [], 1⟩)
    (fun x => x ≤ l.length ∧ okFrom l (l.drop x) x = okFrom l l 0) (x := 0) ?round ?h0 ?hn
  case h0 => exact ⟨Nat.zero_le _, rfl⟩
  case hn => (refine norm_to [] rfl ?_ ?_ <;> simp only [go_sem])
  rintro i ⟨hi, hm⟩
  refine vw_seq ?_
  refine vw_go rfl ?_; simp only [go_sem, setCells, setIn]
  refine vw_cond (t := decide ((i : Int) < l.length)) rfl (fun h => ?_) (fun h => ?_)
  · refine vw_skip (n_then ?_)
    rcases get_or l i with ⟨⟨p, d, t⟩, hx, hlt⟩ | ⟨_, hge⟩
    case inr => simp only [decide_eq_true_eq] at h; omega
    have c1 : (0:Int) ≤ (i:Int) := by omega
    have c2 : (i:Int) < (l.length : Int) := by omega
    have w2 : IntKind.wrap .i64 ((i:Int) + 1) = ((i + 1 : Nat) : Int) := by rw [wrap_i64 (by omega) (by omega)]; rfl
    have hps : p.size ≤ 2 ^ 20 := hb _ (List.mem_of_getElem? hx)
    have rS := runs_57 p hps
    have rF := runs_28 l p (by omega)
    rw [drop_of hx, okFrom] at hm
    have hB : itemBad l i (p, d, t) = (!(splitF p).2.2 || (decide ((60:Int) < t.size) || ((d && !decide (t = ⟨#[]⟩)) || (!decide (idxOf (hasPath p) l 0 = (i : Int)) || !isFold l (splitF p).1)))) := rfl
    rw [hB] at hm
    generalize splitF p = W at rS hm
    obtain ⟨a, b, c⟩ := W
    simp only at rS hm
    generalize idxOf (hasPath p) l 0 = j at rF hm
    refine vw_seq ?_
    refine vw_block ?_
    refine vw_go rfl ?_; simp only [c1, c2, Int.toNat_natCast, getD_map_of hx, iRow, go_sem, setCells, setIn]
    refine vw_go rfl ?_; simp only [go_sem, setCells, setIn]
    refine ⟨_, _, call_rd [0] Tryz.func57 (rS) rfl rfl rfl rfl rfl rfl rfl rfl rfl rfl rfl rfl rfl, ?_⟩
    simp only [runH, runX, go_sem, setCells, setIn]
    cases c
    · (refine vw_go rfl ?_; simp only [go_sem, setCells, setIn])
      refine vw_cond (t := true) rfl (fun h => ?_) (fun h => ?_)
      case refine_2 => cases h
      refine vw_go rfl ?_; simp only [go_sem, setCells, setIn]
      rw [okFrom_bad (by simp)] at hm
      rw [show itemsOk l = false from by rw [itemsOk, ← hm, Bool.false_and]]
      exact vw_ret (r_block (r_then (r_then (r_block (r_then (e_ret (ret_of rfl rfl (by simp [RB]) rfl rfl)))))))
    by_cases h60 : (60:Int) < t.size
    · (refine vw_go rfl ?_; simp only [h60, go_sem, setCells, setIn])
      refine vw_cond (t := true) rfl (fun h => ?_) (fun h => ?_)
      case refine_2 => cases h
      refine vw_go rfl ?_; simp only [go_sem, setCells, setIn]
      rw [okFrom_bad (by simp [h60])] at hm
      rw [show itemsOk l = false from by rw [itemsOk, ← hm, Bool.false_and]]
      exact vw_ret (r_block (r_then (r_then (r_block (r_then (e_ret (ret_of rfl rfl (by simp [RB]) rfl rfl)))))))
    cases d
    · skip
      by_cases hj : j = (i : Int)
      case neg =>
        have hj' : decide (j = (i : Int)) = false := by simp [hj]
        refine vw_go rfl ?_; simp only [h60, go_sem, setCells, setIn]
        refine ⟨_, _, call_rx [0, 0] Tryz.func28 (rF) rfl rfl rfl rfl rfl rfl rfl (by simp [lendAll, lendC, seek, fresh, nav, rcells, RT.cells, VV.cells, tabE_cons, tabS_cons, ev, take_map_len, iRow_r1, iRow_clean]) rfl (by simp [rcells, RT.cells, CT.clean, T.clean, iRow_r1, iRow_clean]) rfl rfl, ?_⟩
        simp only [runH, runX, hj', go_sem, setCells, setIn]
        refine vw_cond (t := true) rfl (fun h => ?_) (fun h => ?_)
        case refine_2 => cases h
        refine vw_go rfl ?_; simp only [go_sem, setCells, setIn]
        rw [okFrom_bad (by simp [hj])] at hm
        rw [show itemsOk l = false from by rw [itemsOk, ← hm, Bool.false_and]]
        exact vw_ret (r_block (r_then (r_then (r_block (r_then (e_ret (ret_of rfl rfl (by simp [RB]) rfl rfl)))))))
      have hj' : decide (j = (i : Int)) = true := by simp [hj]
      refine vw_go rfl ?_; simp only [h60, go_sem, setCells, setIn]
      refine ⟨_, _, call_rx [0, 0] Tryz.func28 (rF) rfl rfl rfl rfl rfl rfl rfl (by simp [lendAll, lendC, seek, fresh, nav, rcells, RT.cells, VV.cells, tabE_cons, tabS_cons, ev, take_map_len, iRow_r1, iRow_clean]) rfl (by simp [rcells, RT.cells, CT.clean, T.clean, iRow_r1, iRow_clean]) rfl rfl, ?_⟩
      simp only [runH, runX, hj', go_sem, setCells, setIn]
      obtain ⟨fc, hfc, rD⟩ := runs_58 l a hl
      refine ⟨_, _, call_rx [0, 0] Tryz.func58 (rD) rfl rfl rfl rfl rfl rfl rfl (by simp [lendAll, lendC, seek, fresh, nav, rcells, RT.cells, VV.cells, tabE_cons, tabS_cons, ev, take_map_len, iRow_r1, iRow_clean]) rfl (by simp [rcells, RT.cells, CT.clean, T.clean, iRow_r1, iRow_clean]) rfl rfl, ?_⟩
      cases hf : isFold l a
      · have hfz : decide (fc = 0) = false := by rw [hf] at hfc; simpa using hfc
        simp only [runH, runX, hfz, go_sem, setCells, setIn]
        refine vw_cond (t := true) rfl (fun h => ?_) (fun h => ?_)
        case refine_2 => cases h
        refine vw_go rfl ?_; simp only [go_sem, setCells, setIn]
        rw [okFrom_bad (by simp [hf])] at hm
        rw [show itemsOk l = false from by rw [itemsOk, ← hm, Bool.false_and]]
        exact vw_ret (r_block (r_then (r_then (r_block (r_then (e_ret (ret_of rfl rfl (by simp [RB]) rfl rfl)))))))
      · have hfz : decide (fc = 0) = true := by rw [hf] at hfc; simpa using hfc
        simp only [runH, runX, hfz, go_sem, setCells, setIn]
        refine vw_cond (t := false) rfl (fun h => ?_) (fun h => ?_)
        · cases h
        refine vw_skip (n_block (n_then ?_))
        refine vw_last rfl ?_; simp only [w2, go_sem, setCells, setIn]
        refine (n_then ?_)
        rw [okFrom_good (by simp [h60, hj, hf])] at hm
        refine ⟨i + 1, by omega, ⟨hlt, hm⟩, ?_⟩
        refine norm_to [] rfl ?_ ?_ <;> simp only [go_sem]
    · cases ht : decide (t = ⟨#[]⟩)
      · (refine vw_go rfl ?_; simp only [h60, ht, go_sem, setCells, setIn])
        refine vw_cond (t := true) rfl (fun h => ?_) (fun h => ?_)
        case refine_2 => cases h
        refine vw_go rfl ?_; simp only [go_sem, setCells, setIn]
        rw [okFrom_bad (by simp [ht])] at hm
        rw [show itemsOk l = false from by rw [itemsOk, ← hm, Bool.false_and]]
        exact vw_ret (r_block (r_then (r_then (r_block (r_then (e_ret (ret_of rfl rfl (by simp [RB]) rfl rfl)))))))
      by_cases hj : j = (i : Int)
      case neg =>
        have hj' : decide (j = (i : Int)) = false := by simp [hj]
        refine vw_go rfl ?_; simp only [h60, ht, go_sem, setCells, setIn]
        refine ⟨_, _, call_rx [0, 0] Tryz.func28 (rF) rfl rfl rfl rfl rfl rfl rfl (by simp [lendAll, lendC, seek, fresh, nav, rcells, RT.cells, VV.cells, tabE_cons, tabS_cons, ev, take_map_len, iRow_r1, iRow_clean]) rfl (by simp [rcells, RT.cells, CT.clean, T.clean, iRow_r1, iRow_clean]) rfl rfl, ?_⟩
        simp only [runH, runX, hj', go_sem, setCells, setIn]
        refine vw_cond (t := true) rfl (fun h => ?_) (fun h => ?_)
        case refine_2 => cases h
        refine vw_go rfl ?_; simp only [go_sem, setCells, setIn]
        rw [okFrom_bad (by simp [hj])] at hm
        rw [show itemsOk l = false from by rw [itemsOk, ← hm, Bool.false_and]]
        exact vw_ret (r_block (r_then (r_then (r_block (r_then (e_ret (ret_of rfl rfl (by simp [RB]) rfl rfl)))))))
      have hj' : decide (j = (i : Int)) = true := by simp [hj]
      refine vw_go rfl ?_; simp only [h60, ht, go_sem, setCells, setIn]
      refine ⟨_, _, call_rx [0, 0] Tryz.func28 (rF) rfl rfl rfl rfl rfl rfl rfl (by simp [lendAll, lendC, seek, fresh, nav, rcells, RT.cells, VV.cells, tabE_cons, tabS_cons, ev, take_map_len, iRow_r1, iRow_clean]) rfl (by simp [rcells, RT.cells, CT.clean, T.clean, iRow_r1, iRow_clean]) rfl rfl, ?_⟩
      simp only [runH, runX, hj', go_sem, setCells, setIn]
      obtain ⟨fc, hfc, rD⟩ := runs_58 l a hl
      refine ⟨_, _, call_rx [0, 0] Tryz.func58 (rD) rfl rfl rfl rfl rfl rfl rfl (by simp [lendAll, lendC, seek, fresh, nav, rcells, RT.cells, VV.cells, tabE_cons, tabS_cons, ev, take_map_len, iRow_r1, iRow_clean]) rfl (by simp [rcells, RT.cells, CT.clean, T.clean, iRow_r1, iRow_clean]) rfl rfl, ?_⟩
      cases hf : isFold l a
      · have hfz : decide (fc = 0) = false := by rw [hf] at hfc; simpa using hfc
        simp only [runH, runX, hfz, go_sem, setCells, setIn]
        refine vw_cond (t := true) rfl (fun h => ?_) (fun h => ?_)
        case refine_2 => cases h
        refine vw_go rfl ?_; simp only [go_sem, setCells, setIn]
        rw [okFrom_bad (by simp [hf])] at hm
        rw [show itemsOk l = false from by rw [itemsOk, ← hm, Bool.false_and]]
        exact vw_ret (r_block (r_then (r_then (r_block (r_then (e_ret (ret_of rfl rfl (by simp [RB]) rfl rfl)))))))
      · have hfz : decide (fc = 0) = true := by rw [hf] at hfc; simpa using hfc
        simp only [runH, runX, hfz, go_sem, setCells, setIn]
        refine vw_cond (t := false) rfl (fun h => ?_) (fun h => ?_)
        · cases h
        refine vw_skip (n_block (n_then ?_))
        refine vw_last rfl ?_; simp only [w2, go_sem, setCells, setIn]
        refine (n_then ?_)
        rw [okFrom_good (by simp [h60, hj, hf, ht])] at hm
        refine ⟨i + 1, by omega, ⟨hlt, hm⟩, ?_⟩
        refine norm_to [] rfl ?_ ?_ <;> simp only [go_sem]
  · refine vw_exit (x_then (x_then (x_block (n_then ?_))))
    simp only [decide_eq_false_iff_not] at h
    have : i = l.length := by omega
    subst this
    rw [List.drop_length, okFrom] at hm
    refine vw_go rfl ?_; simp only [go_sem, setCells, setIn]
    rw [show itemsOk l = decide ((l.length : Int) < 12) from by rw [itemsOk, ← hm, Bool.true_and]; exact decide_eq_decide.2 (by omega)]
    exact vw_ret (e_ret (ret_of rfl rfl (by simp [RB]) rfl rfl))
theorem runs_25 (l : List It3) (hb : ∀ x ∈ l, x.1.size ≤ 2 ^ 20) (hl : l.length < 2 ^ 62) : Runs Tryz.prog 25 [.one (.v (.list false 3 (l.map iRow)))] [.one (.v (.bool (itemsOk l)))] [] := by
  refine runs_tab (tab := [(0, .c (.list false 3 (l.map iRow)))]) (rts := []) (n := 57) (k := 1) Tryz.func25 rfl rfl (by simp) rfl (fun t => ?_) rfl ?_
  · rcases t with _ | t <;> rfl
  refine vw_go rfl ?_; simp only [go_sem, setCells, setIn]
  refine vw_seq ?_
  refine vw_go rfl ?_; simp only [go_sem, setCells, setIn]
  refine vw_block ?_
  refine vw_loop_tab (α := Nat) (fun x => l.length - x) (fun x => ⟨tabE [(0, .c (.list false 3 (l.map iRow))), (8, .c (.list false 3 (l.map iRow))), (9, .c (.int .i64 l.length)), (10, .c (.int .i64 x))], tabS [], 1⟩)
    (fun x => x ≤ l.length ∧ okFrom l (l.drop x) x = okFrom l l 0) (x := 0) ?round ?h0 ?hn
  case h0 => exact ⟨Nat.zero_le _, rfl⟩
  case hn => (refine norm_to [] rfl ?_ ?_ <;> simp only [go_sem])
  rintro i ⟨hi, hm⟩
  refine vw_go rfl ?_; simp only [go_sem, setCells, setIn]
  refine vw_seq ?_
  refine vw_cond (t := decide ((i : Int) < l.length)) rfl (fun h => ?_) (fun h => ?_)
  · refine vw_skip (n_then ?_)
    rcases get_or l i with ⟨⟨p, d, t⟩, hx, hlt⟩ | ⟨_, hge⟩
    case inr => simp only [decide_eq_true_eq] at h; omega
    have c1 : (0:Int) ≤ (i:Int) := by omega
    have c2 : (i:Int) < (l.length : Int) := by omega
    have w2 : IntKind.wrap .i64 ((i:Int) + 1) = ((i + 1 : Nat) : Int) := by rw [wrap_i64 (by omega) (by omega)]; rfl
    have hps : p.size ≤ 2 ^ 20 := hb _ (List.mem_of_getElem? hx)
    have rS := runs_55 p hps
    have rF := runs_27 l p (by omega)
    rw [drop_of hx, okFrom] at hm
    have hB : itemBad l i (p, d, t) = (!(splitF p).2.2 || (decide ((60:Int) < t.size) || ((d && !decide (t = ⟨#[]⟩)) || (!decide (idxOf (hasPath p) l 0 = (i : Int)) || !isFold l (splitF p).1)))) := rfl
    rw [hB] at hm
    generalize splitF p = W at rS hm
    obtain ⟨a, b, c⟩ := W
    simp only at rS hm
    generalize idxOf (hasPath p) l 0 = j at rF hm
    refine vw_seq ?_
    refine vw_block ?_
    refine vw_go rfl ?_; simp only [c1, c2, Int.toNat_natCast, getD_map_of hx, iRow, go_sem, setCells, setIn]
    refine vw_go rfl ?_; simp only [go_sem, setCells, setIn]
    refine ⟨_, _, call_rd [0] Tryz.func55 (rS) rfl rfl rfl rfl rfl rfl rfl rfl rfl rfl rfl rfl rfl, ?_⟩
    simp only [runH, runX, go_sem, setCells, setIn]
    cases c
    · (refine vw_go rfl ?_; simp only [go_sem, setCells, setIn])
      refine vw_cond (t := true) rfl (fun h => ?_) (fun h => ?_)
      case refine_2 => cases h
      refine vw_go rfl ?_; simp only [go_sem, setCells, setIn]
      rw [okFrom_bad (by simp)] at hm
      rw [show itemsOk l = false from by rw [itemsOk, ← hm, Bool.false_and]]
      exact vw_ret (r_block (r_then (r_then (r_block (r_then (e_ret (ret_of rfl rfl (by simp [RB]) rfl rfl)))))))
    by_cases h60 : (60:Int) < t.size
    · (refine vw_go rfl ?_; simp only [h60, go_sem, setCells, setIn])
      refine vw_cond (t := true) rfl (fun h => ?_) (fun h => ?_)
      case refine_2 => cases h
      refine vw_go rfl ?_; simp only [go_sem, setCells, setIn]
      rw [okFrom_bad (by simp [h60])] at hm
      rw [show itemsOk l = false from by rw [itemsOk, ← hm, Bool.false_and]]
      exact vw_ret (r_block (r_then (r_then (r_block (r_then (e_ret (ret_of rfl rfl (by simp [RB]) rfl rfl)))))))
    cases d
    · skip
      by_cases hj : j = (i : Int)
      case neg =>
        have hj' : decide (j = (i : Int)) = false := by simp [hj]
        refine vw_go rfl ?_; simp only [h60, go_sem, setCells, setIn]
        refine ⟨_, _, call_rx [0, 0] Tryz.func27 (rF) rfl rfl rfl rfl rfl rfl rfl (by simp [lendAll, lendC, seek, fresh, nav, rcells, RT.cells, VV.cells, tabE_cons, tabS_cons, ev, take_map_len, iRow_r1, iRow_clean]) rfl (by simp [rcells, RT.cells, CT.clean, T.clean, iRow_r1, iRow_clean]) rfl rfl, ?_⟩
        simp only [runH, runX, hj', go_sem, setCells, setIn]
        refine vw_cond (t := true) rfl (fun h => ?_) (fun h => ?_)
        case refine_2 => cases h
        refine vw_go rfl ?_; simp only [go_sem, setCells, setIn]
        rw [okFrom_bad (by simp [hj])] at hm
        rw [show itemsOk l = false from by rw [itemsOk, ← hm, Bool.false_and]]
        exact vw_ret (r_block (r_then (r_then (r_block (r_then (e_ret (ret_of rfl rfl (by simp [RB]) rfl rfl)))))))
      have hj' : decide (j = (i : Int)) = true := by simp [hj]
      refine vw_go rfl ?_; simp only [h60, go_sem, setCells, setIn]
      refine ⟨_, _, call_rx [0, 0] Tryz.func27 (rF) rfl rfl rfl rfl rfl rfl rfl (by simp [lendAll, lendC, seek, fresh, nav, rcells, RT.cells, VV.cells, tabE_cons, tabS_cons, ev, take_map_len, iRow_r1, iRow_clean]) rfl (by simp [rcells, RT.cells, CT.clean, T.clean, iRow_r1, iRow_clean]) rfl rfl, ?_⟩
      simp only [runH, runX, hj', go_sem, setCells, setIn]
      refine ⟨_, _, call_rx [0, 0] Tryz.func56 (runs_56 l a hl) rfl rfl rfl rfl rfl rfl rfl (by simp [lendAll, lendC, seek, fresh, nav, rcells, RT.cells, VV.cells, tabE_cons, tabS_cons, ev, take_map_len, iRow_r1, iRow_clean]) rfl (by simp [rcells, RT.cells, CT.clean, T.clean, iRow_r1, iRow_clean]) rfl rfl, ?_⟩
      cases hf : isFold l a
      · simp only [runH, runX, hf, go_sem, setCells, setIn]
        refine vw_cond (t := true) rfl (fun h => ?_) (fun h => ?_)
        case refine_2 => cases h
        refine vw_go rfl ?_; simp only [go_sem, setCells, setIn]
        rw [okFrom_bad (by simp [hf])] at hm
        rw [show itemsOk l = false from by rw [itemsOk, ← hm, Bool.false_and]]
        exact vw_ret (r_block (r_then (r_then (r_block (r_then (e_ret (ret_of rfl rfl (by simp [RB]) rfl rfl)))))))
      · simp only [runH, runX, hf, go_sem, setCells, setIn]
        refine vw_cond (t := false) rfl (fun h => ?_) (fun h => ?_)
        · cases h
        refine vw_skip (n_block (n_then ?_))
        refine vw_last rfl ?_; simp only [w2, go_sem, setCells, setIn]
        refine (n_then ?_)
        rw [okFrom_good (by simp [h60, hj, hf])] at hm
        refine ⟨i + 1, by omega, ⟨hlt, hm⟩, ?_⟩
        refine norm_to [] rfl ?_ ?_ <;> simp only [go_sem]
    · cases ht : decide (t = ⟨#[]⟩)
      · (refine vw_go rfl ?_; simp only [h60, ht, go_sem, setCells, setIn])
        refine vw_cond (t := true) rfl (fun h => ?_) (fun h => ?_)
        case refine_2 => cases h
        refine vw_go rfl ?_; simp only [go_sem, setCells, setIn]
        rw [okFrom_bad (by simp [ht])] at hm
        rw [show itemsOk l = false from by rw [itemsOk, ← hm, Bool.false_and]]
        exact vw_ret (r_block (r_then (r_then (r_block (r_then (e_ret (ret_of rfl rfl (by simp [RB]) rfl rfl)))))))
      by_cases hj : j = (i : Int)
      case neg =>
        have hj' : decide (j = (i : Int)) = false := by simp [hj]
        refine vw_go rfl ?_; simp only [h60, ht, go_sem, setCells, setIn]
        refine ⟨_, _, call_rx [0, 0] Tryz.func27 (rF) rfl rfl rfl rfl rfl rfl rfl (by simp [lendAll, lendC, seek, fresh, nav, rcells, RT.cells, VV.cells, tabE_cons, tabS_cons, ev, take_map_len, iRow_r1, iRow_clean]) rfl (by simp [rcells, RT.cells, CT.clean, T.clean, iRow_r1, iRow_clean]) rfl rfl, ?_⟩
        simp only [runH, runX, hj', go_sem, setCells, setIn]
        refine vw_cond (t := true) rfl (fun h => ?_) (fun h => ?_)
        case refine_2 => cases h
        refine vw_go rfl ?_; simp only [go_sem, setCells, setIn]
        rw [okFrom_bad (by simp [hj])] at hm
        rw [show itemsOk l = false from by rw [itemsOk, ← hm, Bool.false_and]]
        exact vw_ret (r_block (r_then (r_then (r_block (r_then (e_ret (ret_of rfl rfl (by simp [RB]) rfl rfl)))))))
      have hj' : decide (j = (i : Int)) = true := by simp [hj]
      refine vw_go rfl ?_; simp only [h60, ht, go_sem, setCells, setIn]
      refine ⟨_, _, call_rx [0, 0] Tryz.func27 (rF) rfl rfl rfl rfl rfl rfl rfl (by simp [lendAll, lendC, seek, fresh, nav, rcells, RT.cells, VV.cells, tabE_cons, tabS_cons, ev, take_map_len, iRow_r1, iRow_clean]) rfl (by simp [rcells, RT.cells, CT.clean, T.clean, iRow_r1, iRow_clean]) rfl rfl, ?_⟩
      simp only [runH, runX, hj', go_sem, setCells, setIn]
      refine ⟨_, _, call_rx [0, 0] Tryz.func56 (runs_56 l a hl) rfl rfl rfl rfl rfl rfl rfl (by simp [lendAll, lendC, seek, fresh, nav, rcells, RT.cells, VV.cells, tabE_cons, tabS_cons, ev, take_map_len, iRow_r1, iRow_clean]) rfl (by simp [rcells, RT.cells, CT.clean, T.clean, iRow_r1, iRow_clean]) rfl rfl, ?_⟩
      cases hf : isFold l a
      · simp only [runH, runX, hf, go_sem, setCells, setIn]
        refine vw_cond (t := true) rfl (fun h => ?_) (fun h => ?_)
        case refine_2 => cases h
        refine vw_go rfl ?_; simp only [go_sem, setCells, setIn]
        rw [okFrom_bad (by simp [hf])] at hm
        rw [show itemsOk l = false from by rw [itemsOk, ← hm, Bool.false_and]]
        exact vw_ret (r_block (r_then (r_then (r_block (r_then (e_ret (ret_of rfl rfl (by simp [RB]) rfl rfl)))))))
      · simp only [runH, runX, hf, go_sem, setCells, setIn]
        refine vw_cond (t := false) rfl (fun h => ?_) (fun h => ?_)
        · cases h
        refine vw_skip (n_block (n_then ?_))
        refine vw_last rfl ?_; simp only [w2, go_sem, setCells, setIn]
        refine (n_then ?_)
        rw [okFrom_good (by simp [h60, hj, hf, ht])] at hm
        refine ⟨i + 1, by omega, ⟨hlt, hm⟩, ?_⟩
        refine norm_to [] rfl ?_ ?_ <;> simp only [go_sem]
  · refine vw_exit (x_then (x_then (x_block (n_then ?_))))
    simp only [decide_eq_false_iff_not] at h
    have : i = l.length := by omega
    subst this
    rw [List.drop_length, okFrom] at hm
    refine vw_go rfl ?_; simp only [go_sem, setCells, setIn]
    rw [show itemsOk l = decide ((l.length : Int) ≤ 11) from by rw [itemsOk, ← hm, Bool.true_and]]
    exact vw_ret (e_ret (ret_of rfl rfl (by simp [RB]) rfl rfl))
end Go.Proofs.YtoenfbbadfcfpaaGreatDoor
