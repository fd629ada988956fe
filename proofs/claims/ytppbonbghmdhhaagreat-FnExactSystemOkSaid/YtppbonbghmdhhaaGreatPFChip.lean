/- Chips: ChipOk, copies, Mount of both. -/
import Derived.Test.YtppbonbghmdhhaaGreatPFSlices
import Derived.Test.YtppbonbghmdhhaaGreatPPRec
namespace Go.Proofs.YtppbonbghmdhhaaGreat
open Go.VM Go
set_option maxRecDepth 100000
set_option linter.unusedSimpArgs false
set_option linter.unusedVariables false
attribute [local congr] vw_congr runV_congr runH_congr runW_congr runX_congr

def chipOk (p : List ByteArray) (w : List Int) : Bool := (decide ((p.length : Int) = 60) && decide ((w.length : Int) = 10)) && ((!p.any fun s => decide ((800 : Int) < s.size)) && !w.any fun n => !inB n 0 1000000000)

theorem runs_130 (s : ByteArray) : Runs Tryz.prog 130 [.one (.v (.str s))] [.one (.v (.bool (decide ((800 : Int) < s.size))))] [] := by
  refine runs_tab (tab := [(0, .c (.str s))]) (rts := []) (n := 6) (k := 1) Tryz.func130 rfl rfl (by simp) rfl (fun t => ?_) rfl ?_
  · rcases t with _ | t <;> rfl
  (refine vw_go rfl ?_; simp only [go_sem, setCells, setIn])
  (refine vw_go rfl ?_; simp only [go_sem, setCells, setIn])
  exact vw_ret (e_ret (ret_of rfl rfl (by simp [RB]) rfl rfl))
theorem runs_132 (n : Int) : Runs Tryz.prog 132 [.one (.v (.int .i64 n))] [.one (.v (.bool (!inB n 0 1000000000)))] [] := by
  refine runs_tab (tab := [(0, .c (.int .i64 n))]) (rts := []) (n := 6) (k := 1) Tryz.func132 rfl rfl (by simp) rfl (fun t => ?_) rfl ?_
  · rcases t with _ | t <;> rfl
  have r1 := runs_45 n 0 1000000000
  (refine vw_go rfl ?_; simp only [go_sem, setCells, setIn])
  (refine vw_go rfl ?_; simp only [go_sem, setCells, setIn])
  (refine ⟨_, _, call_rd [0, 0, 0] Tryz.func45 (r1) rfl rfl rfl rfl rfl rfl rfl rfl rfl rfl rfl rfl rfl, ?_⟩)
  simp only [runH, runX, go_sem, setCells, setIn]
  exact vw_ret (e_ret (ret_of rfl rfl (by simp [RB]) rfl rfl))
theorem runs_73 (p : List ByteArray) (w : List Int) (hp : p.length < 2 ^ 62) (hw : w.length < 2 ^ 62) : Runs Tryz.prog 73 [.agg [.v (.list false 1 (p.map sRow)), .v (.list false 1 (w.map nRow))]] [.one (.v (.bool (chipOk p w)))] [] := by
  refine runs_tab (tab := [(0, .agg [.c (.list false 1 (p.map sRow)), .c (.list false 1 (w.map nRow))])]) (rts := []) (n := 25) (k := 2) Tryz.func73 rfl rfl (by simp) rfl (fun t => ?_) rfl ?_
  · rcases t with _ | t <;> rfl
  have r1 := runs_129 p (by omega) 130 Tryz.f130 (fun s => decide ((800 : Int) < s.size)) Tryz.func130 rfl rfl (fun x _ => runs_130 x)
  have r2 := runs_131 w (by omega) 132 Tryz.f132 (fun n => !inB n 0 1000000000) Tryz.func132 rfl rfl (fun x _ => runs_132 x)
  have hR : ∀ a b, (p.any fun s => decide ((800 : Int) < s.size)) = a → (w.any fun n => !inB n 0 1000000000) = b → chipOk p w = ((decide ((p.length : Int) = 60) && decide ((w.length : Int) = 10)) && (!a && !b)) := by
    intro a b h1 h2
    rw [chipOk, h1, h2]
  generalize (p.any fun s => decide ((800 : Int) < s.size)) = a at r1 hR
  generalize (w.any fun n => !inB n 0 1000000000) = b at r2 hR
  have hR' := hR a b rfl rfl
  rw [hR']
  (refine vw_go rfl ?_; simp only [go_sem, setCells, setIn])
  by_cases h1 : (p.length : Int) = 60
  case neg =>
    (refine vw_go rfl ?_; simp only [h1, go_sem, setCells, setIn])
    exact vw_ret (e_ret (ret_of rfl rfl (by simp [RB]) rfl rfl))
  by_cases h2 : (w.length : Int) = 10
  case neg =>
    (refine vw_go rfl ?_; simp only [h1, h2, go_sem, setCells, setIn])
    exact vw_ret (e_ret (ret_of rfl rfl (by simp [RB]) rfl rfl))
  rw [show (decide ((p.length : Int) = 60)) = true from decide_eq_true h1, show (decide ((w.length : Int) = 10)) = true from decide_eq_true h2]
  (refine vw_go rfl ?_; simp only [h1, h2, go_sem, setCells, setIn])
  (refine ⟨_, _, call_rx [0, 0] Tryz.func129 (r1) rfl rfl rfl rfl rfl rfl rfl (by simp [lendAll, lendC, seek, fresh, nav, rcells, RT.cells, VV.cells, tabE_cons, tabS_cons, ev, take_map_len, sRow_r1, sRow_comp, sRow_clean, nRow_r1, nRow_comp, nRow_clean]) rfl (by simp [rcells, RT.cells, CT.clean, T.clean, sRow_r1, sRow_comp, sRow_clean, nRow_r1, nRow_comp, nRow_clean]) rfl rfl, ?_⟩)
  cases a
  · simp only [runH, runX, go_sem, setCells, setIn]
    (refine ⟨_, _, call_rx [0, 0] Tryz.func131 (r2) rfl rfl rfl rfl rfl rfl rfl (by simp [lendAll, lendC, seek, fresh, nav, rcells, RT.cells, VV.cells, tabE_cons, tabS_cons, ev, take_map_len, sRow_r1, sRow_comp, sRow_clean, nRow_r1, nRow_comp, nRow_clean]) rfl (by simp [rcells, RT.cells, CT.clean, T.clean, sRow_r1, sRow_comp, sRow_clean, nRow_r1, nRow_comp, nRow_clean]) rfl rfl, ?_⟩)
    simp only [runH, runX, go_sem, setCells, setIn]
    exact vw_ret (e_ret (ret_of rfl rfl (by simp [RB]) rfl rfl))
  · simp only [runH, runX, go_sem, setCells, setIn]
    exact vw_ret (e_ret (ret_of rfl rfl (by simp [RB]) rfl rfl))

theorem runs_159 (a b : Int) : Runs Tryz.prog 159 [.one (.v (.int .i64 a)), .one (.v (.int .i64 b))] [.one (.v (.int .i64 (if a < b then a else b)))] [] := by
  refine runs_tab (tab := [(0, .c (.int .i64 a)), (1, .c (.int .i64 b))]) (rts := []) (n := 10) (k := 2) Tryz.func159 rfl rfl (by simp) rfl (fun t => ?_) rfl ?_
  · rcases t with _ | _ | t <;> rfl
  (refine vw_go rfl ?_; simp only [go_sem, setCells, setIn])
  refine vw_seq ?_
  by_cases h : a < b
  · (refine vw_go rfl ?_; simp only [h, go_sem, setCells, setIn])
    (refine vw_cond (t := true) rfl (fun _ => ?_) (fun h => nomatch h))
    (refine vw_go rfl ?_; simp only [go_sem, setCells, setIn])
    exact vw_ret (r_then (e_ret (ret_of rfl rfl (by simp [RB]) rfl rfl)))
  · (refine vw_go rfl ?_; simp only [h, go_sem, setCells, setIn])
    (refine vw_cond (t := false) rfl (fun h => nomatch h) (fun _ => ?_))
    refine vw_skip (n_then ?_)
    (refine vw_go rfl ?_; simp only [go_sem, setCells, setIn])
    exact vw_ret (e_ret (ret_of rfl rfl (by simp [RB]) rfl rfl))
theorem runs_160 (a b : Int) : Runs Tryz.prog 160 [.one (.v (.int .i64 a)), .one (.v (.int .i64 b))] [.one (.v (.int .i64 (if b < a then a else b)))] [] := by
  refine runs_tab (tab := [(0, .c (.int .i64 a)), (1, .c (.int .i64 b))]) (rts := []) (n := 10) (k := 2) Tryz.func160 rfl rfl (by simp) rfl (fun t => ?_) rfl ?_
  · rcases t with _ | _ | t <;> rfl
  (refine vw_go rfl ?_; simp only [go_sem, setCells, setIn])
  refine vw_seq ?_
  by_cases h : b < a
  · (refine vw_go rfl ?_; simp only [h, go_sem, setCells, setIn])
    (refine vw_cond (t := true) rfl (fun _ => ?_) (fun h => nomatch h))
    (refine vw_go rfl ?_; simp only [go_sem, setCells, setIn])
    exact vw_ret (r_then (e_ret (ret_of rfl rfl (by simp [RB]) rfl rfl)))
  · (refine vw_go rfl ?_; simp only [h, go_sem, setCells, setIn])
    (refine vw_cond (t := false) rfl (fun h => nomatch h) (fun _ => ?_))
    refine vw_skip (n_then ?_)
    (refine vw_go rfl ?_; simp only [go_sem, setCells, setIn])
    exact vw_ret (e_ret (ret_of rfl rfl (by simp [RB]) rfl rfl))

theorem runs_166 (p : List ByteArray) (w : List Int) (hp : p.length ≤ 2 ^ 20) (hw : w.length ≤ 2 ^ 20) : Runs Tryz.prog 166 [.agg [.v (.list false 1 (p.map sRow)), .v (.list false 1 (w.map nRow))]] [.agg [.v (.list true 1 (p.map sRow)), .v (.list true 1 (w.map nRow))]] [] := by
  refine runs_tab (tab := [(0, .agg [.c (.list false 1 (p.map sRow)), .c (.list false 1 (w.map nRow))])]) (rts := []) (n := 10) (k := 2) Tryz.func166 rfl rfl (by simp) rfl (fun t => ?_) rfl ?_
  · rcases t with _ | t <;> rfl
  (refine vw_go rfl ?_; simp only [go_sem, setCells, setIn])
  (refine vw_draw mixed rfl rfl ?_; simp only [go_sem, setCells, setIn])
  (refine ⟨_, _, _, call_rx_at [0] [2] Tryz.func200 (runs_200 p hp) rfl rfl rfl rfl rfl rfl rfl (fun st1 hst1 => by (try simp only [List.mem_cons, List.not_mem_nil, or_false, false_or, forall_eq_or_imp, forall_eq] at hst1); simp [lendAll, lendC, seek, fresh, nav, rcells, RT.cells, VV.cells, tabE_cons, tabS_cons, ev, take_map_len, hst1, sRow_r1, sRow_comp, sRow_clean, nRow_r1, nRow_comp, nRow_clean]) rfl (by simp [rcells, RT.cells, CT.clean, T.clean, sRow_r1, sRow_comp, sRow_clean, nRow_r1, nRow_comp, nRow_clean]) rfl rfl, ?_⟩)
  simp only [runH, runX, go_sem, setCells, setIn]
  (refine ⟨_, _, _, call_rx_at [0] [2] Tryz.func201 (runs_201 w hw) rfl rfl rfl rfl rfl rfl rfl (fun st1 hst1 => by (try simp only [List.mem_cons, List.not_mem_nil, or_false, false_or, forall_eq_or_imp, forall_eq] at hst1); simp [lendAll, lendC, seek, fresh, nav, rcells, RT.cells, VV.cells, tabE_cons, tabS_cons, ev, take_map_len, hst1, sRow_r1, sRow_comp, sRow_clean, nRow_r1, nRow_comp, nRow_clean]) rfl (by simp [rcells, RT.cells, CT.clean, T.clean, sRow_r1, sRow_comp, sRow_clean, nRow_r1, nRow_comp, nRow_clean]) rfl rfl, ?_⟩)
  simp only [runH, runX, go_sem, setCells, setIn]
  refine ⟨by unfold allOk; kernel_rfl, ?_⟩
  exact vw_ret (e_ret (ret_by rfl rfl (by simp [RB]) rfl (by simp only [takeCs, takeC, go_sem, setCells, setIn])))

theorem runs_158 (p : List ByteArray) (w : List Int) (hp : p.length ≤ 2 ^ 20) (hw : w.length ≤ 2 ^ 20) : Runs Tryz.prog 158 [.agg [.v (.list false 1 (p.map sRow)), .v (.list false 1 (w.map nRow))]] [.agg [.v (.list true 1 (p.map sRow)), .v (.list true 1 (w.map nRow))]] [] := by
  refine runs_tab (tab := [(0, .agg [.c (.list false 1 (p.map sRow)), .c (.list false 1 (w.map nRow))])]) (rts := []) (n := 12) (k := 2) Tryz.func158 rfl rfl (by simp) rfl (fun t => ?_) rfl ?_
  · rcases t with _ | t <;> rfl
  have B1 : ¬ (p.length + 1) * (16 + 1) > bigRow := by simp only [bigRow]; omega
  have B2 : ¬ (w.length + 1) * (8 + 1) > bigRow := by simp only [bigRow]; omega
  (refine vw_go rfl ?_; simp only [go_sem, setCells, setIn])
  (refine vw_draw mixed rfl rfl ?_; simp only [List.replicate_zero, List.flatten_nil, List.range_zero, nRow_noOwn, sRow_noOwn, B1, B2, gt_iff_lt, go_sem, setCells, setIn])
  refine ⟨by unfold allOk; kernel_rfl, ?_⟩
  exact vw_ret (e_ret (ret_by rfl rfl (by simp [RB]) rfl (by simp only [takeCs, takeC, go_sem, setCells, setIn])))

theorem runs_77 (p : List ByteArray) (w : List Int) (hp : p.length < 2 ^ 62) (hw : w.length < 2 ^ 62) : Runs Tryz.prog 77 [.agg [.v (.list false 1 (p.map sRow)), .v (.list false 1 (w.map nRow))]] [.one (.v (.bool (chipOk p w)))] [] := by
  refine runs_tab (tab := [(0, .agg [.c (.list false 1 (p.map sRow)), .c (.list false 1 (w.map nRow))])]) (rts := []) (n := 43) (k := 2) Tryz.func77 rfl rfl (by simp) rfl (fun t => ?_) rfl ?_
  · rcases t with _ | t <;> rfl
  (refine vw_go rfl ?_; simp only [go_sem, setCells, setIn])
  refine vw_seq ?_
  by_cases h1 : (p.length : Int) = 60
  case neg =>
    have hR : chipOk p w = false := by rw [chipOk, decide_eq_false h1]; rfl
    rw [hR]
    (refine vw_go rfl ?_; simp only [h1, go_sem, setCells, setIn])
    (refine vw_cond (t := true) rfl (fun _ => ?_) (fun h => nomatch h))
    (refine vw_go rfl ?_; simp only [go_sem, setCells, setIn])
    exact vw_ret (r_then (e_ret (ret_of rfl rfl (by simp [RB]) rfl rfl)))
  by_cases h2 : (w.length : Int) = 10
  case neg =>
    have hR : chipOk p w = false := by rw [chipOk, decide_eq_false h2, Bool.and_false]; rfl
    rw [hR]
    (refine vw_go rfl ?_; simp only [h1, h2, go_sem, setCells, setIn])
    (refine vw_cond (t := true) rfl (fun _ => ?_) (fun h => nomatch h))
    (refine vw_go rfl ?_; simp only [go_sem, setCells, setIn])
    exact vw_ret (r_then (e_ret (ret_of rfl rfl (by simp [RB]) rfl rfl)))
  have hR : chipOk p w = ((!p.any fun s => decide ((800 : Int) < s.size)) && !w.any fun n => !inB n 0 1000000000) := by rw [chipOk, decide_eq_true h1, decide_eq_true h2]; rfl
  rw [hR]
  generalize hA : (p.any fun s => decide ((800 : Int) < s.size)) = A
  generalize hB : (w.any fun n => !inB n 0 1000000000) = B
  (refine vw_go rfl ?_; simp only [h1, h2, go_sem, setCells, setIn])
  (refine vw_cond (t := false) rfl (fun h => nomatch h) (fun _ => ?_))
  refine vw_skip (n_then ?_)
  refine vw_seq ?_
  (refine vw_go rfl ?_; simp only [go_sem, setCells, setIn])
  refine vw_block ?_
  refine vw_loop_tab (α := Nat) (fun x => p.length - x) (fun x => ⟨tabE [(1, .ptr 2 [] 0 0 0), (3, .c (.int .i64 x))], tabS [(2, some ⟨true, 2, [[.list false 1 (p.map sRow), .list false 1 (w.map nRow)]], []⟩)], 3⟩)
    (fun x => x ≤ p.length ∧ ((p.drop x).any fun s => decide ((800 : Int) < s.size)) = A) (x := 0) ?round ?h0 ?hn
  case h0 => exact ⟨Nat.zero_le _, hA⟩
  case hn => (refine norm_to [(2, 2)] rfl ?_ ?_ <;> simp only [go_sem])
  rintro i ⟨hi, hm⟩
  refine vw_seq ?_
  (refine vw_go rfl ?_; simp only [go_sem, setCells, setIn])
  refine vw_cond (t := decide ((i : Int) < p.length)) rfl (fun h => ?_) (fun h => ?_)
  · refine vw_skip (n_then ?_)
    rcases get_or p i with ⟨s, hs, hlt⟩ | ⟨_, hge⟩
    case inr => simp only [decide_eq_true_eq] at h; omega
    have c1 : (0:Int) ≤ (i:Int) := by omega
    have c2 : (i:Int) < (p.length : Int) := by omega
    have w2 : IntKind.wrap .i64 ((i:Int) + 1) = ((i + 1 : Nat) : Int) := by rw [wrap_i64 (by omega) (by omega)]; rfl
    rw [drop_of hs, List.any_cons] at hm
    refine vw_seq ?_
    refine vw_block ?_
    by_cases hz : (800 : Int) < s.size
    · rw [decide_eq_true hz, Bool.true_or] at hm
      subst hm
      (refine vw_go rfl ?_; simp only [c1, c2, Int.toNat_natCast, getD_map_of hs, sRow, hz, go_sem, setCells, setIn])
      (refine vw_cond (t := true) rfl (fun _ => ?_) (fun h => nomatch h))
      (refine vw_go rfl ?_; simp only [go_sem, setCells, setIn])
      exact vw_ret (r_block (r_then (r_then (r_block (r_then (e_ret (ret_of rfl rfl (by simp [RB]) rfl rfl)))))))
    · rw [decide_eq_false hz, Bool.false_or] at hm
      (refine vw_go rfl ?_; simp only [c1, c2, Int.toNat_natCast, getD_map_of hs, sRow, hz, go_sem, setCells, setIn])
      (refine vw_cond (t := false) rfl (fun h => nomatch h) (fun _ => ?_))
      refine vw_skip (n_block (n_then ?_))
      (refine vw_last rfl ?_; simp only [w2, go_sem, setCells, setIn])
      refine (n_then ?_)
      refine ⟨i + 1, by omega, ⟨hlt, hm⟩, ?_⟩
      (refine norm_to [(2, 2)] rfl ?_ ?_ <;> simp only [go_sem])
  refine vw_exit (x_then (x_then (x_block (n_then ?_))))
  simp only [decide_eq_false_iff_not] at h
  obtain rfl : i = p.length := by omega
  rw [List.drop_length] at hm
  obtain rfl : A = false := hm.symm
  refine vw_seq ?_
  (refine vw_go rfl ?_; simp only [go_sem, setCells, setIn])
  refine vw_block ?_
  refine vw_loop_tab (α := Nat) (fun x => w.length - x) (fun x => ⟨tabE [(1, .ptr 2 [] 0 0 0), (4, .c (.int .i64 x))], tabS [(2, some ⟨true, 2, [[.list false 1 (p.map sRow), .list false 1 (w.map nRow)]], []⟩)], 3⟩)
    (fun x => x ≤ w.length ∧ ((w.drop x).any fun n => !inB n 0 1000000000) = B) (x := 0) ?round2 ?h02 ?hn2
  case h02 => exact ⟨Nat.zero_le _, hB⟩
  case hn2 => (refine norm_to [(2, 2)] rfl ?_ ?_ <;> simp only [go_sem])
  rintro i ⟨hi, hm⟩
  refine vw_seq ?_
  (refine vw_go rfl ?_; simp only [go_sem, setCells, setIn])
  refine vw_cond (t := decide ((i : Int) < w.length)) rfl (fun h => ?_) (fun h => ?_)
  · refine vw_skip (n_then ?_)
    rcases get_or w i with ⟨s, hs, hlt⟩ | ⟨_, hge⟩
    case inr => simp only [decide_eq_true_eq] at h; omega
    have c1 : (0:Int) ≤ (i:Int) := by omega
    have c2 : (i:Int) < (w.length : Int) := by omega
    have w2 : IntKind.wrap .i64 ((i:Int) + 1) = ((i + 1 : Nat) : Int) := by rw [wrap_i64 (by omega) (by omega)]; rfl
    rw [drop_of hs, List.any_cons] at hm
    have rI := runs_38 s 0 1000000000
    refine vw_seq ?_
    refine vw_block ?_
    (refine vw_go rfl ?_; simp only [c1, c2, Int.toNat_natCast, getD_map_of hs, nRow, go_sem, setCells, setIn])
    (refine ⟨_, _, call_rd [0, 0, 0] Tryz.func38 (rI) rfl rfl rfl rfl rfl rfl rfl rfl rfl rfl rfl rfl rfl, ?_⟩)
    cases hz : inB s 0 1000000000
    · rw [hz, Bool.not_false, Bool.true_or] at hm
      subst hm
      simp only [runH, runX, go_sem, setCells, setIn]
      (refine vw_cond (t := true) rfl (fun _ => ?_) (fun h => nomatch h))
      (refine vw_go rfl ?_; simp only [go_sem, setCells, setIn])
      exact vw_ret (r_block (r_then (r_then (r_block (r_then (e_ret (ret_of rfl rfl (by simp [RB]) rfl rfl)))))))
    · rw [hz, Bool.not_true, Bool.false_or] at hm
      simp only [runH, runX, go_sem, setCells, setIn]
      (refine vw_cond (t := false) rfl (fun h => nomatch h) (fun _ => ?_))
      refine vw_skip (n_block (n_then ?_))
      (refine vw_last rfl ?_; simp only [w2, go_sem, setCells, setIn])
      refine (n_then ?_)
      refine ⟨i + 1, by omega, ⟨hlt, hm⟩, ?_⟩
      (refine norm_to [(2, 2)] rfl ?_ ?_ <;> simp only [go_sem])
  refine vw_exit (x_then (x_then (x_block (n_then ?_))))
  simp only [decide_eq_false_iff_not] at h
  obtain rfl : i = w.length := by omega
  rw [List.drop_length] at hm
  obtain rfl : B = false := hm.symm
  (refine vw_go rfl ?_; simp only [go_sem, setCells, setIn])
  exact vw_ret (e_ret (ret_of rfl rfl (by simp [RB]) rfl rfl))
end Go.Proofs.YtppbonbghmdhhaaGreat
