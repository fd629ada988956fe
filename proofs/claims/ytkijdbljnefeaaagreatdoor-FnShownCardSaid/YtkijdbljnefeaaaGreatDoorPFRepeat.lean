/- Chips: ChipOk, copies, Mount of both. The library's Repeat of one number, 26 times; Mul64 of 1 and 26. -/
import Derived.Test.YtkijdbljnefeaaaGreatDoorPFBigG
import Derived.Test.YtkijdbljnefeaaaGreatDoorPPRec
set_option linter.unusedSimpArgs false
set_option linter.unusedVariables false
namespace Go.Proofs.YtkijdbljnefeaaaGreatDoor
open Go.VM Go
set_option maxRecDepth 100000
attribute [local congr] vw_congr runV_congr runH_congr runW_congr runX_congr stuckV_congr stuckX_congr
def chipOk (p : List ByteArray) (w : List Int) : Bool := (decide ((p.length : Int) = 60) && decide ((w.length : Int) = 10)) && ((!p.any fun s => decide ((800 : Int) < s.size)) && !w.any fun n => !inB n 0 1000000000)
theorem runs_69 (s : ByteArray) : Runs Tryz.prog 69 [.one (.v (.str s))] [.one (.v (.bool (decide ((800 : Int) < s.size))))] [] := by
  refine runs_tab (tab := [(0, .c (.str s))]) (rts := []) (n := 6) (k := 1) Tryz.func69 rfl rfl (by simp) rfl (fun t => ?_) rfl ?_
  · rcases t with _ | t <;> rfl
  refine vw_go rfl ?_; simp only [go_sem,setCells,setIn]
  refine vw_go rfl ?_; simp only [go_sem,setCells,setIn]
  exact vw_ret (e_ret (ret_of rfl rfl (by simp [RB]) rfl rfl))
theorem runs_71 (n : Int) : Runs Tryz.prog 71 [.one (.v (.int .i64 n))] [.one (.v (.bool (!inB n 0 1000000000)))] [] := by
  refine runs_tab (tab := [(0, .c (.int .i64 n))]) (rts := []) (n := 6) (k := 1) Tryz.func71 rfl rfl (by simp) rfl (fun t => ?_) rfl ?_
  · rcases t with _ | t <;> rfl
  have r1 := runs_24 n 0 1000000000
  refine vw_go rfl ?_; simp only [go_sem,setCells,setIn]
  refine vw_go rfl ?_; simp only [go_sem,setCells,setIn]
  refine ⟨_, _, call_rd [0, 0, 0] Tryz.func24 (r1) rfl rfl rfl rfl rfl rfl rfl rfl rfl rfl rfl rfl rfl, ?_⟩
  simp only [runH,runX,go_sem,setCells,setIn]
  exact vw_ret (e_ret (ret_of rfl rfl (by simp [RB]) rfl rfl))
theorem runs_46 (p : List ByteArray) (w : List Int) (hp : p.length < 2 ^ 62) (hw : w.length < 2 ^ 62) : Runs Tryz.prog 46 [.agg [.v (.list false 1 (p.map sRow)), .v (.list false 1 (w.map nRow))]] [.one (.v (.bool (chipOk p w)))] [] := by
  refine runs_tab (tab := [(0, .agg [.c (.list false 1 (p.map sRow)), .c (.list false 1 (w.map nRow))])]) (rts := []) (n := 25) (k := 2) Tryz.func46 rfl rfl (by simp) rfl (fun t => ?_) rfl ?_
  · rcases t with _ | t <;> rfl
  have r1 := runs_36 p (by omega) 69 Tryz.f69 (fun s => decide ((800 : Int) < s.size)) Tryz.func69 rfl rfl (fun x _ => runs_69 x)
  have r2 := runs_70 w (by omega) 71 Tryz.f71 (fun n => !inB n 0 1000000000) Tryz.func71 rfl rfl (fun x _ => runs_71 x)
  have hR : ∀ a b, (p.any fun s => decide ((800 : Int) < s.size)) = a → (w.any fun n => !inB n 0 1000000000) = b → chipOk p w = ((decide ((p.length : Int) = 60) && decide ((w.length : Int) = 10)) && (!a && !b)) := by
    intro a b h1 h2
    rw [chipOk, h1, h2]
  generalize (p.any fun s => decide ((800 : Int) < s.size)) = a at r1 hR
  generalize (w.any fun n => !inB n 0 1000000000) = b at r2 hR
  have hR' := hR a b rfl rfl
  rw [hR']
  refine vw_go rfl ?_; simp only [go_sem,setCells,setIn]
  by_cases h1 : (p.length : Int) = 60
  case neg =>
    refine vw_go rfl ?_; simp only [h1,go_sem,setCells,setIn]
    exact vw_ret (e_ret (ret_of rfl rfl (by simp [RB]) rfl rfl))
  by_cases h2 : (w.length : Int) = 10
  case neg =>
    refine vw_go rfl ?_; simp only [h1,h2,go_sem,setCells,setIn]
    exact vw_ret (e_ret (ret_of rfl rfl (by simp [RB]) rfl rfl))
  rw [show (decide ((p.length : Int) = 60)) = true from decide_eq_true h1, show (decide ((w.length : Int) = 10)) = true from decide_eq_true h2]
  refine vw_go rfl ?_; simp only [h1,h2,go_sem,setCells,setIn]
  refine ⟨_, _, call_rx [0, 0] Tryz.func36 (r1) rfl rfl rfl rfl rfl rfl rfl (by simp [lendAll,lendC,seek,fresh,nav,rcells,RT.cells,VV.cells,tabE_cons,tabS_cons,ev,take_map_len,sRow_r1,sRow_comp,sRow_clean,nRow_r1,nRow_comp,nRow_clean]) rfl (by simp [rcells,RT.cells,CT.clean,T.clean,sRow_r1,sRow_comp,sRow_clean,nRow_r1,nRow_comp,nRow_clean]) rfl rfl, ?_⟩
  cases a
  · simp only [runH,runX,go_sem,setCells,setIn]
    refine ⟨_, _, call_rx [0, 0] Tryz.func70 (r2) rfl rfl rfl rfl rfl rfl rfl (by simp [lendAll,lendC,seek,fresh,nav,rcells,RT.cells,VV.cells,tabE_cons,tabS_cons,ev,take_map_len,sRow_r1,sRow_comp,sRow_clean,nRow_r1,nRow_comp,nRow_clean]) rfl (by simp [rcells,RT.cells,CT.clean,T.clean,sRow_r1,sRow_comp,sRow_clean,nRow_r1,nRow_comp,nRow_clean]) rfl rfl, ?_⟩
    simp only [runH,runX,go_sem,setCells,setIn]
    exact vw_ret (e_ret (ret_of rfl rfl (by simp [RB]) rfl rfl))
  · simp only [runH,runX,go_sem,setCells,setIn]
    exact vw_ret (e_ret (ret_of rfl rfl (by simp [RB]) rfl rfl))
theorem runs_77 (a b : Int) : Runs Tryz.prog 77 [.one (.v (.int .i64 a)), .one (.v (.int .i64 b))] [.one (.v (.int .i64 (if a < b then a else b)))] [] := by
  refine runs_tab (tab := [(0, .c (.int .i64 a)), (1, .c (.int .i64 b))]) (rts := []) (n := 10) (k := 2) Tryz.func77 rfl rfl (by simp) rfl (fun t => ?_) rfl ?_
  · rcases t with _ | _ | t <;> rfl
  refine vw_go rfl ?_; simp only [go_sem,setCells,setIn]
  refine vw_seq ?_
  by_cases h : a < b
  · (refine vw_go rfl ?_; simp only [h,go_sem,setCells,setIn])
    refine vw_cond (t := true) rfl (fun _ => ?_) (fun h => nomatch h)
    refine vw_go rfl ?_; simp only [go_sem,setCells,setIn]
    exact vw_ret (r_then (e_ret (ret_of rfl rfl (by simp [RB]) rfl rfl)))
  · (refine vw_go rfl ?_; simp only [h,go_sem,setCells,setIn])
    refine vw_cond (t := false) rfl (fun h => nomatch h) (fun _ => ?_)
    refine vw_skip (n_then ?_)
    refine vw_go rfl ?_; simp only [go_sem,setCells,setIn]
    exact vw_ret (e_ret (ret_of rfl rfl (by simp [RB]) rfl rfl))
theorem runs_78 (a b : Int) : Runs Tryz.prog 78 [.one (.v (.int .i64 a)), .one (.v (.int .i64 b))] [.one (.v (.int .i64 (if b < a then a else b)))] [] := by
  refine runs_tab (tab := [(0, .c (.int .i64 a)), (1, .c (.int .i64 b))]) (rts := []) (n := 10) (k := 2) Tryz.func78 rfl rfl (by simp) rfl (fun t => ?_) rfl ?_
  · rcases t with _ | _ | t <;> rfl
  refine vw_go rfl ?_; simp only [go_sem,setCells,setIn]
  refine vw_seq ?_
  by_cases h : b < a
  · (refine vw_go rfl ?_; simp only [h,go_sem,setCells,setIn])
    refine vw_cond (t := true) rfl (fun _ => ?_) (fun h => nomatch h)
    refine vw_go rfl ?_; simp only [go_sem,setCells,setIn]
    exact vw_ret (r_then (e_ret (ret_of rfl rfl (by simp [RB]) rfl rfl)))
  · (refine vw_go rfl ?_; simp only [h,go_sem,setCells,setIn])
    refine vw_cond (t := false) rfl (fun h => nomatch h) (fun _ => ?_)
    refine vw_skip (n_then ?_)
    refine vw_go rfl ?_; simp only [go_sem,setCells,setIn]
    exact vw_ret (e_ret (ret_of rfl rfl (by simp [RB]) rfl rfl))
theorem runs_72 (p : List ByteArray) (w : List Int) (hp : p.length ≤ 2 ^ 20) (hw : w.length ≤ 2 ^ 20) : Runs Tryz.prog 72 [.agg [.v (.list false 1 (p.map sRow)), .v (.list false 1 (w.map nRow))]] [.agg [.v (.list true 1 (p.map sRow)), .v (.list true 1 (w.map nRow))]] [] := by
  refine runs_tab (tab := [(0, .agg [.c (.list false 1 (p.map sRow)), .c (.list false 1 (w.map nRow))])]) (rts := []) (n := 10) (k := 2) Tryz.func72 rfl rfl (by simp) rfl (fun t => ?_) rfl ?_
  · rcases t with _ | t <;> rfl
  refine vw_go rfl ?_; simp only [go_sem,setCells,setIn]
  refine vw_draw mixed rfl rfl ?_; simp only [go_sem,setCells,setIn]
  refine ⟨_, _, _, call_rx_at [0] [2] Tryz.func98 (runs_98 p hp) rfl rfl rfl rfl rfl rfl rfl (fun st1 hst1 => by (try simp only [List.mem_cons,List.not_mem_nil,or_false,false_or,forall_eq_or_imp,forall_eq] at hst1); simp [lendAll,lendC,seek,fresh,nav,rcells,RT.cells,VV.cells,tabE_cons,tabS_cons,ev,take_map_len,hst1,sRow_r1,sRow_comp,sRow_clean,nRow_r1,nRow_comp,nRow_clean]) rfl (by simp [rcells,RT.cells,CT.clean,T.clean,sRow_r1,sRow_comp,sRow_clean,nRow_r1,nRow_comp,nRow_clean]) rfl rfl, ?_⟩
  simp only [runH,runX,go_sem,setCells,setIn]
  refine ⟨_, _, _, call_rx_at [0] [2] Tryz.func99 (runs_99 w hw) rfl rfl rfl rfl rfl rfl rfl (fun st1 hst1 => by (try simp only [List.mem_cons,List.not_mem_nil,or_false,false_or,forall_eq_or_imp,forall_eq] at hst1); simp [lendAll,lendC,seek,fresh,nav,rcells,RT.cells,VV.cells,tabE_cons,tabS_cons,ev,take_map_len,hst1,sRow_r1,sRow_comp,sRow_clean,nRow_r1,nRow_comp,nRow_clean]) rfl (by simp [rcells,RT.cells,CT.clean,T.clean,sRow_r1,sRow_comp,sRow_clean,nRow_r1,nRow_comp,nRow_clean]) rfl rfl, ?_⟩
  simp only [runH,runX,go_sem,setCells,setIn]
  refine ⟨by unfold allOk; kernel_rfl, ?_⟩
  exact vw_ret (e_ret (ret_by rfl rfl (by simp [RB]) rfl (by simp only [takeCs,takeC,go_sem,setCells,setIn])))
theorem runs_75 (p : List ByteArray) (w : List Int) (hp : p.length ≤ 2 ^ 20) (hw : w.length ≤ 2 ^ 20) : Runs Tryz.prog 75 [.agg [.v (.list false 1 (p.map sRow)), .v (.list false 1 (w.map nRow))]] [.agg [.v (.list true 1 (p.map sRow)), .v (.list true 1 (w.map nRow))]] [] := by
  refine runs_tab (tab := [(0, .agg [.c (.list false 1 (p.map sRow)), .c (.list false 1 (w.map nRow))])]) (rts := []) (n := 12) (k := 2) Tryz.func75 rfl rfl (by simp) rfl (fun t => ?_) rfl ?_
  · rcases t with _ | t <;> rfl
  have B1 : ¬ (p.length + 1) * (16 + 1) > bigRow := by simp only [bigRow]; omega
  have B2 : ¬ (w.length + 1) * (8 + 1) > bigRow := by simp only [bigRow]; omega
  refine vw_go rfl ?_; simp only [go_sem,setCells,setIn]
  refine vw_draw mixed rfl rfl ?_; simp only [List.replicate_zero,List.flatten_nil,List.range_zero,nRow_noOwn,sRow_noOwn,B1,B2,gt_iff_lt,go_sem,setCells,setIn]
  refine ⟨by unfold allOk; kernel_rfl, ?_⟩
  exact vw_ret (e_ret (ret_by rfl rfl (by simp [RB]) rfl (by simp only [takeCs,takeC,go_sem,setCells,setIn])))
theorem runs_51 (p : List ByteArray) (w : List Int) (hp : p.length < 2 ^ 62) (hw : w.length < 2 ^ 62) : Runs Tryz.prog 51 [.agg [.v (.list false 1 (p.map sRow)), .v (.list false 1 (w.map nRow))]] [.one (.v (.bool (chipOk p w)))] [] := by
  refine runs_tab (tab := [(0, .agg [.c (.list false 1 (p.map sRow)), .c (.list false 1 (w.map nRow))])]) (rts := []) (n := 43) (k := 2) Tryz.func51 rfl rfl (by simp) rfl (fun t => ?_) rfl ?_
  · rcases t with _ | t <;> rfl
  refine vw_go rfl ?_; simp only [go_sem,setCells,setIn]
  refine vw_seq ?_
  by_cases h1 : (p.length : Int) = 60
  case neg =>
    have hR : chipOk p w = false := by rw [chipOk, decide_eq_false h1]; rfl
    rw [hR]
    refine vw_go rfl ?_; simp only [h1,go_sem,setCells,setIn]
    refine vw_cond (t := true) rfl (fun _ => ?_) (fun h => nomatch h)
    refine vw_go rfl ?_; simp only [go_sem,setCells,setIn]
    exact vw_ret (r_then (e_ret (ret_of rfl rfl (by simp [RB]) rfl rfl)))
  by_cases h2 : (w.length : Int) = 10
  case neg =>
    have hR : chipOk p w = false := by rw [chipOk, decide_eq_false h2, Bool.and_false]; rfl
    rw [hR]
    refine vw_go rfl ?_; simp only [h1,h2,go_sem,setCells,setIn]
    refine vw_cond (t := true) rfl (fun _ => ?_) (fun h => nomatch h)
    refine vw_go rfl ?_; simp only [go_sem,setCells,setIn]
    exact vw_ret (r_then (e_ret (ret_of rfl rfl (by simp [RB]) rfl rfl)))
  have hR : chipOk p w = ((!p.any fun s => decide ((800 : Int) < s.size)) && !w.any fun n => !inB n 0 1000000000) := by rw [chipOk, decide_eq_true h1, decide_eq_true h2]; rfl
  rw [hR]
  generalize hA : (p.any fun s => decide ((800 : Int) < s.size)) = A
  generalize hB : (w.any fun n => !inB n 0 1000000000) = B
  refine vw_go rfl ?_; simp only [h1,h2,go_sem,setCells,setIn]
  refine vw_cond (t := false) rfl (fun h => nomatch h) (fun _ => ?_)
  refine vw_skip (n_then ?_)
  refine vw_seq ?_
  refine vw_go rfl ?_; simp only [go_sem,setCells,setIn]
  refine vw_block ?_
  refine vw_loop_tab (α := Nat) (fun x => p.length - x) (fun x => ⟨tabE [(1, .ptr 2 [] 0 0 0), (3, .c (.int .i64 x))], tabS [(2, some ⟨true, 2, [[.list false 1 (p.map sRow), .list false 1 (w.map nRow)]], []⟩)], 3⟩)
    (fun x => x ≤ p.length ∧ ((p.drop x).any fun s => decide ((800 : Int) < s.size)) = A) (x := 0) ?round ?h0 ?hn
  case h0 => exact ⟨Nat.zero_le _, hA⟩
  case hn => (refine norm_to [(2, 2)] rfl ?_ ?_ <;> simp only [go_sem])
  rintro i ⟨hi, hm⟩
  refine vw_seq ?_
  refine vw_go rfl ?_; simp only [go_sem,setCells,setIn]
  refine vw_cond (t := decide ((i : Int) < p.length)) rfl (fun h => ?_) (fun h => ?_)
  · refine vw_skip (n_then ?_)
    rcases get_or p i with ⟨s, hs, hlt⟩ | ⟨_, hge⟩
    case inr => simp only [decide_eq_true_eq] at h; omega
    have c1 : (0:Int) ≤ (i:Int) := by omega
    have c2 : (i:Int) < (p.length : Int) := by omega
    have w2 : IntKind.wrap .i64 ((i:Int) + 1) = ((i + 1 : Nat) : Int) := by rw [wrap_i64 (by omega) (by omega)]; rfl
    rw [drop_of hs, List.any_cons] at hm
    refine vw_seq ?_
    refine vw_block ?_
    by_cases hz : (800 : Int) < s.size
    · rw [decide_eq_true hz, Bool.true_or] at hm
      subst hm
      refine vw_go rfl ?_; simp only [c1,c2,Int.toNat_natCast,getD_map_of hs,sRow,hz,go_sem,setCells,setIn]
      refine vw_cond (t := true) rfl (fun _ => ?_) (fun h => nomatch h)
      refine vw_go rfl ?_; simp only [go_sem,setCells,setIn]
      exact vw_ret (r_block (r_then (r_then (r_block (r_then (e_ret (ret_of rfl rfl (by simp [RB]) rfl rfl)))))))
    · rw [decide_eq_false hz, Bool.false_or] at hm
      refine vw_go rfl ?_; simp only [c1,c2,Int.toNat_natCast,getD_map_of hs,sRow,hz,go_sem,setCells,setIn]
      refine vw_cond (t := false) rfl (fun h => nomatch h) (fun _ => ?_)
      refine vw_skip (n_block (n_then ?_))
      refine vw_last rfl ?_; simp only [w2,go_sem,setCells,setIn]
      refine (n_then ?_)
      refine ⟨i + 1, by omega, ⟨hlt, hm⟩, ?_⟩
      refine norm_to [(2, 2)] rfl ?_ ?_ <;> simp only [go_sem]
  refine vw_exit (x_then (x_then (x_block (n_then ?_))))
  simp only [decide_eq_false_iff_not] at h
  obtain rfl : i = p.length := by omega
  rw [List.drop_length] at hm
  obtain rfl : A = false := hm.symm
  refine vw_seq ?_
  refine vw_go rfl ?_; simp only [go_sem,setCells,setIn]
  refine vw_block ?_
  refine vw_loop_tab (α := Nat) (fun x => w.length - x) (fun x => ⟨tabE [(1, .ptr 2 [] 0 0 0), (4, .c (.int .i64 x))], tabS [(2, some ⟨true, 2, [[.list false 1 (p.map sRow), .list false 1 (w.map nRow)]], []⟩)], 3⟩)
    (fun x => x ≤ w.length ∧ ((w.drop x).any fun n => !inB n 0 1000000000) = B) (x := 0) ?round2 ?h02 ?hn2
  case h02 => exact ⟨Nat.zero_le _, hB⟩
  case hn2 => (refine norm_to [(2, 2)] rfl ?_ ?_ <;> simp only [go_sem])
  rintro i ⟨hi, hm⟩
  refine vw_seq ?_
  refine vw_go rfl ?_; simp only [go_sem,setCells,setIn]
  refine vw_cond (t := decide ((i : Int) < w.length)) rfl (fun h => ?_) (fun h => ?_)
  · refine vw_skip (n_then ?_)
    rcases get_or w i with ⟨s, hs, hlt⟩ | ⟨_, hge⟩
    case inr => simp only [decide_eq_true_eq] at h; omega
    have c1 : (0:Int) ≤ (i:Int) := by omega
    have c2 : (i:Int) < (w.length : Int) := by omega
    have w2 : IntKind.wrap .i64 ((i:Int) + 1) = ((i + 1 : Nat) : Int) := by rw [wrap_i64 (by omega) (by omega)]; rfl
    rw [drop_of hs, List.any_cons] at hm
    have rI := runs_26 s 0 1000000000
    refine vw_seq ?_
    refine vw_block ?_
    refine vw_go rfl ?_; simp only [c1,c2,Int.toNat_natCast,getD_map_of hs,nRow,go_sem,setCells,setIn]
    refine ⟨_, _, call_rd [0, 0, 0] Tryz.func26 (rI) rfl rfl rfl rfl rfl rfl rfl rfl rfl rfl rfl rfl rfl, ?_⟩
    cases hz : inB s 0 1000000000
    · rw [hz, Bool.not_false, Bool.true_or] at hm
      subst hm
      simp only [runH,runX,go_sem,setCells,setIn]
      refine vw_cond (t := true) rfl (fun _ => ?_) (fun h => nomatch h)
      refine vw_go rfl ?_; simp only [go_sem,setCells,setIn]
      exact vw_ret (r_block (r_then (r_then (r_block (r_then (e_ret (ret_of rfl rfl (by simp [RB]) rfl rfl)))))))
    · rw [hz, Bool.not_true, Bool.false_or] at hm
      simp only [runH,runX,go_sem,setCells,setIn]
      refine vw_cond (t := false) rfl (fun h => nomatch h) (fun _ => ?_)
      refine vw_skip (n_block (n_then ?_))
      refine vw_last rfl ?_; simp only [w2,go_sem,setCells,setIn]
      refine (n_then ?_)
      refine ⟨i + 1, by omega, ⟨hlt, hm⟩, ?_⟩
      refine norm_to [(2, 2)] rfl ?_ ?_ <;> simp only [go_sem]
  refine vw_exit (x_then (x_then (x_block (n_then ?_))))
  simp only [decide_eq_false_iff_not] at h
  obtain rfl : i = w.length := by omega
  rw [List.drop_length] at hm
  obtain rfl : B = false := hm.symm
  refine vw_go rfl ?_; simp only [go_sem,setCells,setIn]
  exact vw_ret (e_ret (ret_of rfl rfl (by simp [RB]) rfl rfl))
end Go.Proofs.YtkijdbljnefeaaaGreatDoor
namespace Go.Proofs.YtkijdbljnefeaaaGreatDoor
open Go.VM Go
set_option maxRecDepth 100000
attribute [local congr] vw_congr runV_congr runH_congr runW_congr runX_congr stuckV_congr stuckX_congr
theorem b0 : binV Tryz.prog .and 246 (.c (.int .u64 1)) (.c (.int .u64 4294967295)) = some (.c (.int .u64 1)) := by kernel_rfl
theorem b1 : binV Tryz.prog .and 246 (.c (.int .u64 26)) (.c (.int .u64 4294967295)) = some (.c (.int .u64 26)) := by kernel_rfl
theorem b2 : binV Tryz.prog .and 246 (.c (.int .u64 0)) (.c (.int .u64 4294967295)) = some (.c (.int .u64 0)) := by kernel_rfl
theorem b3 : binV Tryz.prog .shr 246 (.c (.int .u64 1)) (.c (.int .u64 32)) = some (.c (.int .u64 0)) := by kernel_rfl
theorem b4 : binV Tryz.prog .shr 246 (.c (.int .u64 26)) (.c (.int .u64 32)) = some (.c (.int .u64 0)) := by kernel_rfl
theorem b5 : binV Tryz.prog .shr 246 (.c (.int .u64 0)) (.c (.int .u64 32)) = some (.c (.int .u64 0)) := by kernel_rfl
theorem b6 : binV Tryz.prog .mul 246 (.c (.int .u64 1)) (.c (.int .u64 26)) = some (.c (.int .u64 26)) := by kernel_rfl
theorem b7 : binV Tryz.prog .mul 246 (.c (.int .u64 0)) (.c (.int .u64 26)) = some (.c (.int .u64 0)) := by kernel_rfl
theorem b8 : binV Tryz.prog .mul 246 (.c (.int .u64 1)) (.c (.int .u64 0)) = some (.c (.int .u64 0)) := by kernel_rfl
theorem b9 : binV Tryz.prog .mul 246 (.c (.int .u64 0)) (.c (.int .u64 0)) = some (.c (.int .u64 0)) := by kernel_rfl
theorem b10 : binV Tryz.prog .add 246 (.c (.int .u64 0)) (.c (.int .u64 0)) = some (.c (.int .u64 0)) := by kernel_rfl
theorem runs_135 : Runs Tryz.prog 135 [.one (.v (.int .u64 1)), .one (.v (.int .u64 26))] [.one (.v (.int .u64 0)), .one (.v (.int .u64 26))] [] := by
  refine runs_tab (tab := [(0, .c (.int .u64 1)), (1, .c (.int .u64 26))]) (rts := []) (n := 51) (k := 2) Tryz.func135 rfl rfl (by simp) rfl (fun t => ?_) rfl ?_
  · rcases t with _ | _ | t <;> rfl
  have cb0 := b0
  (try simp only [go_sem,Option.some.injEq,VV.c.injEq,T.int.injEq,true_and] at cb0)
  have cb1 := b1
  (try simp only [go_sem,Option.some.injEq,VV.c.injEq,T.int.injEq,true_and] at cb1)
  have cb2 := b2
  (try simp only [go_sem,Option.some.injEq,VV.c.injEq,T.int.injEq,true_and] at cb2)
  have cb3 := b3
  (try simp only [go_sem,Option.some.injEq,VV.c.injEq,T.int.injEq,true_and] at cb3)
  have cb4 := b4
  (try simp only [go_sem,Option.some.injEq,VV.c.injEq,T.int.injEq,true_and] at cb4)
  have cb5 := b5
  (try simp only [go_sem,Option.some.injEq,VV.c.injEq,T.int.injEq,true_and] at cb5)
  have cb6 := b6
  (try simp only [go_sem,Option.some.injEq,VV.c.injEq,T.int.injEq,true_and] at cb6)
  have cb7 := b7
  (try simp only [go_sem,Option.some.injEq,VV.c.injEq,T.int.injEq,true_and] at cb7)
  have cb8 := b8
  (try simp only [go_sem,Option.some.injEq,VV.c.injEq,T.int.injEq,true_and] at cb8)
  have cb9 := b9
  (try simp only [go_sem,Option.some.injEq,VV.c.injEq,T.int.injEq,true_and] at cb9)
  have cb10 := b10
  (try simp only [go_sem,Option.some.injEq,VV.c.injEq,T.int.injEq,true_and] at cb10)
  refine vw_go rfl ?_; simp only [go_sem,setCells,setIn]
  refine vw_go rfl ?_; simp only [cb0,cb1,cb2,cb3,cb4,cb5,cb6,cb7,cb8,cb9,cb10,go_sem,setCells,setIn]
  refine vw_go rfl ?_; simp only [cb0,cb1,cb2,cb3,cb4,cb5,cb6,cb7,cb8,cb9,cb10,go_sem,setCells,setIn]
  refine vw_go rfl ?_; simp only [cb0,cb1,cb2,cb3,cb4,cb5,cb6,cb7,cb8,cb9,cb10,go_sem,setCells,setIn]
  refine vw_go rfl ?_; simp only [cb0,cb1,cb2,cb3,cb4,cb5,cb6,cb7,cb8,cb9,cb10,go_sem,setCells,setIn]
  refine vw_go rfl ?_; simp only [cb0,cb1,cb2,cb3,cb4,cb5,cb6,cb7,cb8,cb9,cb10,go_sem,setCells,setIn]
  refine vw_go rfl ?_; simp only [cb0,cb1,cb2,cb3,cb4,cb5,cb6,cb7,cb8,cb9,cb10,go_sem,setCells,setIn]
  refine vw_go rfl ?_; simp only [cb0,cb1,cb2,cb3,cb4,cb5,cb6,cb7,cb8,cb9,cb10,go_sem,setCells,setIn]
  refine vw_go rfl ?_; simp only [cb0,cb1,cb2,cb3,cb4,cb5,cb6,cb7,cb8,cb9,cb10,go_sem,setCells,setIn]
  refine vw_go rfl ?_; simp only [cb0,cb1,cb2,cb3,cb4,cb5,cb6,cb7,cb8,cb9,cb10,go_sem,setCells,setIn]
  refine vw_go rfl ?_; simp only [cb0,cb1,cb2,cb3,cb4,cb5,cb6,cb7,cb8,cb9,cb10,go_sem,setCells,setIn]
  refine vw_go rfl ?_; simp only [cb0,cb1,cb2,cb3,cb4,cb5,cb6,cb7,cb8,cb9,cb10,go_sem,setCells,setIn]
  exact vw_ret (e_ret (ret_of rfl rfl (by simp [RB]) rfl rfl))
theorem runs_100 : Runs Tryz.prog 100 [.one (.v (.int .u64 1)), .one (.v (.int .u64 26))] [.one (.v (.int .u64 0)), .one (.v (.int .u64 26))] [] := by
  refine runs_tab (tab := [(0, .c (.int .u64 1)), (1, .c (.int .u64 26))]) (rts := []) (n := 30) (k := 2) Tryz.func100 rfl rfl (by simp) rfl (fun t => ?_) rfl ?_
  · rcases t with _ | _ | t <;> rfl
  refine vw_go rfl ?_; simp only [go_sem,setCells,setIn]
  refine vw_seq ?_
  refine vw_cond (t := false) rfl (fun h => nomatch h) (fun _ => ?_)
  refine vw_skip (n_then ?_)
  refine vw_go rfl ?_; simp only [go_sem,setCells,setIn]
  refine ⟨_, _, call_rd [0, 0] Tryz.func135 (runs_135) rfl rfl rfl rfl rfl rfl rfl rfl rfl rfl rfl rfl rfl, ?_⟩
  simp only [runH,runX,go_sem,setCells,setIn]
  refine vw_go rfl ?_; simp only [go_sem,setCells,setIn]
  exact vw_ret (e_ret (ret_of rfl rfl (by simp [RB]) rfl rfl))
def repR (k : Nat) : List Int := List.replicate k (-1) ++ List.replicate (26 - k) 0
theorem runs_73 : Runs Tryz.prog 73 [.one (.v (.list false 1 [[.int .i64 (-1)]])), .one (.v (.int .i64 26))] [.one (.v (.list true 1 ((List.replicate 26 (-1)).map nRow)))] [] := by
  refine runs_tab (tab := [(0, .c (.list false 1 [[.int .i64 (-1)]])), (1, .c (.int .i64 26))]) (rts := []) (n := 48) (k := 2) Tryz.func73 rfl rfl (by simp) rfl (fun t => ?_) rfl ?_
  · rcases t with _ | _ | t <;> rfl
  have u1 : IntKind.wrap .u64 1 = 1 := rfl
  have u26 : IntKind.wrap .u64 26 = 26 := rfl
  have i26 : IntKind.wrap .i64 26 = 26 := rfl
  refine vw_go rfl ?_; simp only [go_sem,setCells,setIn]
  refine vw_seq ?_
  refine vw_go rfl ?_; simp only [go_sem,setCells,setIn]
  refine vw_cond (t := false) rfl (fun h => nomatch h) (fun _ => ?_)
  refine vw_skip (n_then ?_)
  refine vw_go rfl ?_; simp only [u1,u26,go_sem,setCells,setIn]
  refine ⟨_, _, call_rd [0, 0] Tryz.func100 (runs_100) rfl rfl rfl rfl rfl rfl rfl rfl rfl rfl rfl rfl rfl, ?_⟩
  simp only [runH,runX,go_sem,setCells,setIn]
  refine vw_seq ?_
  refine vw_go rfl ?_; simp only [go_sem,setCells,setIn]
  refine vw_cond (t := false) rfl (fun h => nomatch h) (fun _ => ?_)
  refine vw_skip (n_then ?_)
  have B : (26 : Int) * ((8:Nat) + 1) ≤ (bigRow : Nat) := by simp only [bigRow]; omega
  refine vw_go rfl ?_; simp only [i26,B,go_sem,setCells,setIn]
  have p1 : putRows 0 [[T.int .i64 (-1)]] (List.replicate 26 [T.int .i64 0]) = (repR 1).map nRow := by rfl
  have m1 : min 1 26 = 1 := rfl
  refine vw_go rfl ?_; simp only [p1,m1,List.length_replicate,go_sem,setCells,setIn]
  refine vw_seq ?_
  refine vw_block ?_
  refine vw_loop_tab (α := Nat) (fun x => 26 - x) (fun x => ⟨tabE [(7, .al 2 [] 0 1 0 26), (8, .c (.int .i64 x))], tabS [(2, some ⟨false, 1, (repR x).map nRow, []⟩)], 3⟩)
    (fun x => x = 1 ∨ x = 2 ∨ x = 4 ∨ x = 8 ∨ x = 16 ∨ x = 26) (x := 1) ?round ?h0 ?hn
  case h0 => exact .inl rfl
  case hn => (refine norm_to [(264194, 2)] rfl ?_ ?_ <;> simp only [go_sem])
  rintro k hk
  refine vw_seq ?_
  by_cases hc : (k : Int) < ((26 : Nat) : Int)
  · (refine vw_go rfl ?_; simp only [hc,go_sem,setCells,setIn])
    refine vw_cond (t := true) rfl (fun _ => ?_) (fun h => nomatch h)
    refine vw_skip (n_then ?_)
    refine vw_block ?_
    have c1 : (0:Int) ≤ (k : Int) := by omega
    have c2 : k ≤ 26 ∧ 26 ≤ 26 := by omega
    have c3 : 0 ≤ k ∧ k ≤ 26 := by omega
    have c4 : k ≤ 26 := by omega
    have l1 : (repR k).length = 26 := by rw [repR, List.length_append, List.length_replicate, List.length_replicate]; omega
    have hk' : k = 1 ∨ k = 2 ∨ k = 4 ∨ k = 8 ∨ k = 16 := by omega
    have f1 : k + (26 - k) ≤ 26 := by omega
    have f2 : ((List.take k (List.map nRow (repR k))).all fun r => r.all plainT) = true := by
      rw [← List.map_take]; exact nRow_noOwn _
    have f3 : (List.take k (List.map nRow (repR k))).length = k := by rw [List.length_take, List.length_map, l1]; omega
    have f4 : putRows k (List.take (min k (26 - k)) (List.take k (List.map nRow (repR k)))) (List.map nRow (repR k)) = List.map nRow (repR (k + min k (26 - k))) := by
      rcases hk' with rfl | rfl | rfl | rfl | rfl <;> rfl
    have f5 : IntKind.wrap .i64 ((k : Int) + ((min k (26 - k) : Nat) : Int)) = ((k + min k (26 - k) : Nat) : Int) := by rw [wrap_i64 (by omega) (by omega)]; omega
    have f6 : k + min k (26 - k) = 1 ∨ k + min k (26 - k) = 2 ∨ k + min k (26 - k) = 4 ∨ k + min k (26 - k) = 8 ∨ k + min k (26 - k) = 16 ∨ k + min k (26 - k) = 26 := by omega
    have f7 : k < k + min k (26 - k) := by omega
    refine vw_draw_last mixed rfl rfl ?_
    simp only [c1,c2,c3,c4,l1,f1,f2,f3,f4,f5,Int.toNat_natCast,List.length_map,Nat.sub_zero,go_sem,setCells,setIn]
    refine ⟨by unfold allOk; kernel_rfl, ?_⟩
    refine (n_block (n_then ?_))
    refine ⟨k + min k (26 - k), by omega, f6, ?_⟩
    refine norm_to [(2, 2)] rfl ?_ ?_ <;> simp only [go_sem]
  · obtain rfl : k = 26 := by omega
    refine vw_go rfl ?_; simp only [Int.lt_irrefl,go_sem,setCells,setIn]
    refine vw_cond (t := false) rfl (fun h => nomatch h) (fun _ => ?_)
    refine vw_exit (x_then (x_then (x_block (n_then ?_))))
    refine vw_go rfl ?_; simp only [go_sem,setCells,setIn]
    have l2 : (repR 26) = List.replicate 26 (-1) := rfl
    rw [l2]
    have qt : ((List.replicate 26 (-1)).map nRow).take 26 = (List.replicate 26 (-1)).map nRow := by rw [List.take_of_length_le (by simp)]
    exact vw_ret (e_ret (ret_by rfl rfl (by simp [RB]) rfl (by simp only [takeCs,takeC,go_sem,qt,List.length_replicate,setCells,setIn])))
end Go.Proofs.YtkijdbljnefeaaaGreatDoor
