/- Nodes: NodeOk of both. Nodes: NodeText of both. Nodes: NodeText of impl. -/
import Derived.Test.YtkijdbljnefeaaaGreatDoorPFBigG
import Derived.Test.YtkijdbljnefeaaaGreatDoorPFOp
import Derived.Test.YtkijdbljnefeaaaGreatDoorPFName
import Derived.Test.YtkijdbljnefeaaaGreatDoorPFIn
set_option linter.unusedSimpArgs false
set_option linter.unusedVariables false
namespace Go.Proofs.YtkijdbljnefeaaaGreatDoor
open Go.VM Go
def aheadPFNodeI1 : List (List Nat) := [[], [0], [], [0, 1, 2], [0, 1, 2, 3], [0, 1, 2, 3, 4], [0, 1, 2, 3, 4, 5], [0, 1, 2, 3, 4, 5, 6], [0, 1, 2, 3, 4, 5, 6, 7], [0, 1, 2, 3, 4, 5, 6, 7, 8], [0, 1, 2, 3, 4, 5, 6, 7], [0, 1, 2, 3, 4, 5, 6, 7, 8, 9, 10], [0, 1, 2, 3, 4, 5, 6, 7, 8, 9, 10, 11], [0, 1, 2, 3, 4, 5, 6, 7, 8, 9, 10, 11, 12], [0, 1, 2, 3, 4, 5, 6, 7, 8, 9, 10, 11, 12, 13], [0, 1, 2, 3, 4, 5, 6, 7, 8, 9, 10, 11, 12, 13, 14], [0, 1, 2, 3, 4, 5, 6, 7, 8, 9, 10, 11, 12, 13, 14, 15], [0, 1, 2, 3, 4, 5, 6, 7, 8, 9, 10, 11, 12, 13, 14, 15, 16], [0, 1, 2, 3, 4, 5, 6, 7, 8, 9, 10, 11, 12, 13, 14, 15, 16, 17], [0, 1, 2, 3, 4, 5, 6, 7, 8, 9, 10, 11, 12, 13, 14, 15, 16, 17, 18], [0, 1, 2, 3, 4, 5, 6, 7, 8, 9, 10, 11, 12, 13, 14, 15, 16, 17, 18, 19], [0, 1, 2, 3, 4, 5, 6, 7, 8, 9, 10, 11, 12, 13, 14, 15, 16, 17, 18, 19, 20], [0, 1, 2, 3, 4, 5, 6, 7, 8, 9, 10, 11, 12, 13, 14, 15, 16, 17, 18, 19], [0, 1, 2, 3, 4, 5, 6, 7, 8, 9, 10, 11, 12, 13, 14, 15, 16, 17, 18, 19, 22], [0, 1, 2, 3, 4, 5, 6, 7, 8, 9, 10, 11, 12, 13, 14, 15, 16, 17, 18, 19, 20, 21, 22, 23], [0, 1, 2, 3, 4, 5, 6, 7, 8, 9, 10, 11, 12, 13, 14, 15, 16, 17, 18, 19, 20, 21, 22, 23, 24], [0, 1, 2, 3, 4, 5, 6, 7, 8, 9, 10, 11, 12, 13, 14, 15, 16, 17, 18, 19], [0, 1, 2, 3, 4, 5, 6, 7, 8, 9, 10, 11, 12, 13, 14, 15, 16, 17, 18, 19, 26], [0, 1, 2, 3, 4, 5, 6, 7, 8, 9, 10, 11, 12, 13, 14, 15, 16, 17, 18, 19], [0, 1, 2, 3, 4, 5, 6, 7, 8, 9, 10, 11, 12, 13, 14, 15, 16, 17, 18, 19, 26, 27, 28], [0, 1, 2, 3, 4, 5, 6, 7, 8, 9, 10, 11, 12, 13, 14, 15, 16, 17, 18, 19, 26, 27, 28, 29], [0, 1, 2, 3, 4, 5, 6, 7, 8, 9, 10, 11, 12, 13, 14, 15, 16, 17, 18, 19, 20, 21, 22, 23, 24, 25, 26, 27, 28, 29, 30], [0, 1, 2, 3, 4, 5, 6, 7, 8, 9, 10, 11, 12, 13, 14, 15, 16, 17, 18, 19, 20, 21, 22, 23, 24, 25, 26, 27, 28, 29, 30, 31], [0, 1, 2, 3, 4, 5, 6, 7, 8, 9, 10, 11, 12, 13, 14, 15, 16, 17, 18, 19, 20, 21, 22, 23, 24, 25, 26, 27, 28, 29, 30, 31, 32]]
set_option maxRecDepth 100000
set_option maxHeartbeats 2000000
attribute [-go_sem] runW_cons
attribute [local congr] vw_congr runV_congr runH_congr runW_congr runX_congr stuckV_congr stuckX_congr
structure NodeV where
  dir : Bool
  names : List ByteArray
  kids : List Int
  data : ByteArray
def hasK (l : List Int) (p : Int) : Bool := l.any fun x => decide (p = x)
theorem hasK_take {l : List Int} {k : Nat} {x : Int} (p : Int) (h : l[k]? = some x) : hasK (l.take (k + 1)) p = (hasK (l.take k) p || decide (p = x)) := by
  simp [hasK,List.take_add_one,h]
def nodeAtOk (n : NodeV) (i : Nat) : Bool := nameOk (n.names.getD i ⟨#[]⟩) && (inB (n.kids.getD i 0) 1 11 && ((decide (i = 0) || Op.bytesLess (n.names.getD (i - 1) ⟨#[]⟩).toList (n.names.getD i ⟨#[]⟩).toList) && !hasK (n.kids.take i) (n.kids.getD i 0)))
def nodeOk (n : NodeV) : Bool :=
  if n.dir = true then decide (n.names.length = n.kids.length) && (decide (n.data = ⟨#[]⟩) && (List.range n.names.length).all (nodeAtOk n))
  else decide (n.names.length = 0) && (decide (n.kids.length = 0) && decide (n.data.size ≤ 60))
theorem nodeOk_bad {n : NodeV} {i : Nat} (hd : n.dir = true) (hi : i < n.names.length) (h : nodeAtOk n i = false) : nodeOk n = false := by
  have : (List.range n.names.length).all (nodeAtOk n) = false := by
    rw [List.all_eq_false]
    exact ⟨i, List.mem_range.2 hi, by simp [h]⟩
  unfold nodeOk
  rw [if_pos hd, this, Bool.and_false, Bool.and_false]
theorem nodeOk_good {n : NodeV} (hd : n.dir = true) (hl : n.names.length = n.kids.length) (he : n.data = ⟨#[]⟩) (h : ∀ i, i < n.names.length → nodeAtOk n i = true) : nodeOk n = true := by
  unfold nodeOk
  rw [if_pos hd, decide_eq_true hl, decide_eq_true he, Bool.true_and, Bool.true_and, List.all_eq_true]
  exact fun i hi => h i (List.mem_range.1 hi)
structure NodeV.small (n : NodeV) : Prop where
  names : n.names.length < 2 ^ 61
  kids : n.kids.length < 2 ^ 61
  text : ∀ s ∈ n.names, s.size < 2 ^ 62
theorem runs_146 (n : NodeV) (hs : n.small) : Runs Tryz.prog 146 [.agg [.v (.bool n.dir), .v (.list false 1 (n.names.map sRow)), .v (.list false 1 (n.kids.map nRow)), .v (.str n.data)]] [.one (.v (.bool (nodeOk n)))] [] := by
  refine runs_tab (tab := [(0, .agg [.c (.bool n.dir), .c (.list false 1 (n.names.map sRow)), .c (.list false 1 (n.kids.map nRow)), .c (.str n.data)])]) (rts := []) (n := 91) (k := 4) Tryz.func146 rfl rfl (by simp) rfl (fun t => ?_) rfl ?_
  · rcases t with _ | t <;> rfl
  have hN := hs.names
  have hK := hs.kids
  have w0 : IntKind.wrap .i64 ((n.names.length : Int) + (n.kids.length : Int)) = (n.names.length : Int) + (n.kids.length : Int) := wrap_i64 (by omega) (by omega)
  refine vw_go rfl ?_; simp only [go_sem,setCells,setIn]
  refine vw_seq ?_
  refine vw_go rfl ?_; simp only [go_sem,setCells,setIn]
  rcases hd : n.dir with _ | _
  · have hR : nodeOk n = (decide (n.names.length = 0) && (decide (n.kids.length = 0) && decide (n.data.size ≤ 60))) := by unfold nodeOk; rw [hd]; rfl
    refine vw_cond (t := true) rfl (fun _ => ?_) (fun h => nomatch h)
    by_cases h1 : (n.names.length : Int) + (n.kids.length : Int) = 0
    · by_cases h2 : (n.data.size : Int) ≤ 60
      · rw [hR, decide_eq_true (show n.names.length = 0 by omega), decide_eq_true (show n.kids.length = 0 by omega), decide_eq_true (show n.data.size ≤ 60 by omega)]
        refine vw_go rfl ?_; simp only [w0,h1,h2,go_sem,setCells,setIn]
        exact vw_ret (r_then (e_ret (ret_of rfl rfl (by simp [RB]) rfl rfl)))
      · rw [hR, decide_eq_false (show ¬ n.data.size ≤ 60 by omega), Bool.and_false, Bool.and_false]
        refine vw_go rfl ?_; simp only [w0,h1,h2,go_sem,setCells,setIn]
        exact vw_ret (r_then (e_ret (ret_of rfl rfl (by simp [RB]) rfl rfl)))
    · have hR' : nodeOk n = false := by
        rw [hR]
        by_cases h3 : n.names.length = 0
        · rw [decide_eq_false (show ¬ n.kids.length = 0 by omega), Bool.false_and, Bool.and_false]
        · rw [decide_eq_false h3, Bool.false_and]
      rw [hR']
      refine vw_go rfl ?_; simp only [w0,h1,go_sem,setCells,setIn]
      exact vw_ret (r_then (e_ret (ret_of rfl rfl (by simp [RB]) rfl rfl)))
  refine vw_cond (t := false) rfl (fun h => nomatch h) (fun _ => ?_)
  refine vw_skip (n_then ?_)
  refine vw_seq ?_
  by_cases h1 : (n.names.length : Int) = (n.kids.length : Int)
  case neg =>
    rw [show nodeOk n = false from by unfold nodeOk; rw [if_pos hd, decide_eq_false (by omega), Bool.false_and]]
    refine vw_go rfl ?_; simp only [h1,go_sem,setCells,setIn]
    refine vw_cond (t := true) rfl (fun _ => ?_) (fun h => nomatch h)
    refine vw_go rfl ?_; simp only [go_sem,setCells,setIn]
    exact vw_ret (r_then (e_ret (ret_of rfl rfl (by simp [RB]) rfl rfl)))
  by_cases h2 : n.data = ⟨#[]⟩
  case neg =>
    rw [show nodeOk n = false from by unfold nodeOk; rw [if_pos hd, decide_eq_false h2, Bool.false_and, Bool.and_false]]
    refine vw_go rfl ?_; simp only [h1,h2,go_sem,setCells,setIn]
    refine vw_cond (t := true) rfl (fun _ => ?_) (fun h => nomatch h)
    refine vw_go rfl ?_; simp only [go_sem,setCells,setIn]
    exact vw_ret (r_then (e_ret (ret_of rfl rfl (by simp [RB]) rfl rfl)))
  refine vw_go rfl ?_; simp only [h1,h2,go_sem,setCells,setIn]
  refine vw_cond (t := false) rfl (fun h => nomatch h) (fun _ => ?_)
  refine vw_skip (n_then ?_)
  have h1' : n.names.length = n.kids.length := by omega
  refine vw_seq ?_
  refine vw_go rfl ?_; simp only [go_sem,setCells,setIn]
  refine vw_block ?_
  refine vw_loop_tab (α := Nat) (fun x => n.names.length - x) (fun x => ⟨tabE [(1, .ptr 4 [] 0 0 0), (3, .c (.int .i64 x))], tabS [(4, some ⟨true, 4, [[.bool n.dir, .list false 1 (n.names.map sRow), .list false 1 (n.kids.map nRow), .str n.data]], []⟩)], 5⟩)
    (fun x => x ≤ n.names.length ∧ ∀ j, j < x → nodeAtOk n j = true) (x := 0) ?round ?h0 ?hn
  case h0 => exact ⟨Nat.zero_le _, fun j hj => absurd hj (by omega)⟩
  case hn =>
    refine norm_to [(4, 4)] rfl ?_ ?_ <;> simp only [go_sem]
    · rw [hd, h2]
  rintro i ⟨hi, hA⟩
  refine vw_seq ?_
  by_cases hc : (i : Int) < n.names.length
  case neg =>
    refine vw_go rfl ?_; simp only [hc,go_sem,setCells,setIn]
    refine vw_cond (t := false) rfl (fun h => nomatch h) (fun _ => ?_)
    refine vw_exit (x_then (x_then (x_block (n_then ?_))))
    obtain rfl : i = n.names.length := by omega
    rw [nodeOk_good hd h1' h2 hA]
    refine vw_go rfl ?_; simp only [go_sem,setCells,setIn]
    exact vw_ret (e_ret (ret_of rfl rfl (by simp [RB]) rfl rfl))
  refine vw_go rfl ?_; simp only [hc,go_sem,setCells,setIn]
  refine vw_cond (t := true) rfl (fun _ => ?_) (fun h => nomatch h)
  refine vw_skip (n_then ?_)
  rcases get_or n.names i with ⟨u, hu, hlt⟩ | ⟨_, hge⟩
  case inr => omega
  rcases get_or n.kids i with ⟨y, hy, hlt2⟩ | ⟨_, hge⟩
  case inr => omega
  have c1 : (0:Int) ≤ (i:Int) := by omega
  have c2 : (i:Int) < (n.kids.length : Int) := by omega
  have w3 : IntKind.wrap .i64 ((i:Int) + 1) = ((i + 1 : Nat) : Int) := by rw [wrap_i64 (by omega) (by omega)]; rfl
  have r1 := runs_81 u (hs.text u (List.mem_of_getElem? hu))
  have r2 := runs_26 y 1 11
  have hE : nodeAtOk n i = (nameOk u && (inB y 1 11 && ((decide (i = 0) || Op.bytesLess (n.names.getD (i - 1) ⟨#[]⟩).toList u.toList) && !hasK (n.kids.take i) y))) := by
    unfold nodeAtOk; rw [getD_of hu, getD_of hy]
  refine vw_seq ?_
  refine vw_block ?_
  refine vw_seq ?_
  refine vw_drawA mixed rfl rfl ?_; intro A hAA
  have g7 : (A[7]?).bind (·.dst) = some 48 := by subst hAA; rfl
  have g16 : (A[16]?).bind (·.dst) = some 57 := by subst hAA; rfl
  have g19 : (A[19]?).bind (·.dst) = some 60 := by subst hAA; rfl
  simp (maxSteps := 1000000) only [c1, c2, hc, Int.toNat_natCast, getD_map_of hu, sRow, g7, g16, g19, go_sem, setCells, setIn, runW_step]
  refine ⟨_, _, _, call_rd_at [0] [] Tryz.func81 (r1) (fun _ _ => rfl) rfl rfl rfl rfl rfl rfl rfl rfl rfl rfl rfl rfl, ?_⟩
  cases g1 : nameOk u
  · rw [nodeOk_bad hd hlt (by rw [hE, g1]; rfl)]
    (unfold runX; simp (maxSteps := 1000000) only [g7, g16, g19, go_sem, setCells, setIn, runW_step])
    refine ⟨by subst hAA; exact allOk_pre aheadPFNodeI1 (by kernel_rfl) (Nat.le_of_ble_eq_true (by kernel_rfl)) (by kernel_rfl), ?_⟩
    refine vw_cond (t := true) rfl (fun _ => ?_) (fun h => nomatch h)
    refine vw_go rfl ?_; simp only [go_sem,setCells,setIn]
    exact vw_ret (r_then (r_block (r_then (r_then (r_block (r_then (e_ret (ret_of rfl rfl (by simp [RB]) rfl rfl))))))))
  (unfold runX; simp (maxSteps := 1000000) only [c1, c2, hc, Int.toNat_natCast, getD_map_of hy, nRow, g7, g16, g19, go_sem, setCells, setIn, runW_step])
  refine ⟨_, _, _, call_rd_at [0, 0, 0] [] Tryz.func26 (r2) (fun _ _ => rfl) rfl rfl rfl rfl rfl rfl rfl rfl rfl rfl rfl rfl, ?_⟩
  cases g2 : inB y 1 11
  · rw [nodeOk_bad hd hlt (by rw [hE, g1, g2]; rfl)]
    (unfold runX; simp (maxSteps := 1000000) only [g7, g16, g19, go_sem, setCells, setIn, runW_step])
    refine ⟨by subst hAA; exact allOk_pre aheadPFNodeI1 (by kernel_rfl) (Nat.le_of_ble_eq_true (by kernel_rfl)) (by kernel_rfl), ?_⟩
    refine vw_cond (t := true) rfl (fun _ => ?_) (fun h => nomatch h)
    refine vw_go rfl ?_; simp only [go_sem,setCells,setIn]
    exact vw_ret (r_then (r_block (r_then (r_then (r_block (r_then (e_ret (ret_of rfl rfl (by simp [RB]) rfl rfl))))))))
  rw [g1, g2, Bool.true_and, Bool.true_and] at hE
  -- the rest of a round, once the order is seen
  have rest : (decide (i = 0) || Op.bytesLess (n.names.getD (i - 1) ⟨#[]⟩).toList u.toList) = true → nodeAtOk n i = !hasK (n.kids.take i) y := fun h => by rw [hE, h, Bool.true_and]
  by_cases h0 : (0 : Int) < (i : Int)
  case pos =>
    obtain ⟨j, hj⟩ : ∃ j, i = j + 1 := ⟨i - 1, by omega⟩
    rcases get_or n.names j with ⟨p, hp, hlj⟩ | ⟨_, hge⟩
    case inr => omega
    have w4 : IntKind.wrap .i64 ((i:Int) - 1) = ((j : Nat) : Int) := by rw [wrap_i64 (by omega) (by omega)]; omega
    have c3 : (0:Int) ≤ (j:Int) := by omega
    have c4 : (j:Int) < (n.names.length : Int) := by omega
    have hP : n.names.getD (i - 1) ⟨#[]⟩ = p := by rw [show i - 1 = j by omega, getD_of hp]
    cases g3 : Op.bytesLess p.toList u.toList
    · rw [nodeOk_bad hd hlt (by rw [hE, hP, g3, decide_eq_false (by omega)]; rfl)]
      (unfold runX; simp (maxSteps := 1000000) only [h0, w4, c3, c4, c1, hc, Int.toNat_natCast, getD_map_of hp, getD_map_of hu, sRow, g3, g7, g16, g19, go_sem, setCells, setIn, runW_step])
      refine ⟨by subst hAA; exact allOk_pre aheadPFNodeI1 (by kernel_rfl) (Nat.le_of_ble_eq_true (by kernel_rfl)) (by kernel_rfl), ?_⟩
      refine vw_cond (t := true) rfl (fun _ => ?_) (fun h => nomatch h)
      refine vw_go rfl ?_; simp only [go_sem,setCells,setIn]
      exact vw_ret (r_then (r_block (r_then (r_then (r_block (r_then (e_ret (ret_of rfl rfl (by simp [RB]) rfl rfl))))))))
    have rest' := rest (by rw [hP, g3, Bool.or_true])
    (unfold runX; simp (maxSteps := 1000000) only [h0, w4, c3, c4, c1, hc, Int.toNat_natCast, getD_map_of hp, getD_map_of hu, sRow, g3, g7, g16, g19, go_sem, setCells, setIn, runW_step])
    refine ⟨by subst hAA; exact allOk_pre aheadPFNodeI1 (by kernel_rfl) (Nat.le_of_ble_eq_true (by kernel_rfl)) (by kernel_rfl), ?_⟩
    refine vw_cond (t := false) rfl (fun h => nomatch h) (fun _ => ?_)
    refine vw_skip (n_then ?_)
    refine vw_go rfl ?_; simp only [go_sem,setCells,setIn]
    refine vw_block ?_
    refine vw_loop_tab (α := Nat) (fun x => i - x) (fun x => ⟨tabE [(1, .ptr 4 [] 0 0 0), (3, .c (.int .i64 i)), (4, .c (.int .i64 x))], tabS [(4, some ⟨true, 4, [[.bool n.dir, .list false 1 (n.names.map sRow), .list false 1 (n.kids.map nRow), .str n.data]], []⟩)], 5⟩)
      (fun x => x ≤ i ∧ hasK (n.kids.take x) y = false) (x := 0) ?round2 ?h02 ?hn2
    case h02 => exact ⟨Nat.zero_le _, rfl⟩
    case hn2 =>
      refine norm_to [(4, 4)] rfl ?_ ?_ <;> simp only [go_sem]
    rintro k ⟨hk, hF⟩
    refine vw_seq ?_
    by_cases hd2 : (k : Int) < i
    case neg =>
      refine vw_go rfl ?_; simp only [hd2,go_sem,setCells,setIn]
      refine vw_cond (t := false) rfl (fun h => nomatch h) (fun _ => ?_)
      refine vw_exit (x_then (x_then (x_block (n_block (n_then ?_)))))
      obtain rfl : k = i := by omega
      refine vw_last rfl ?_; simp only [w3,go_sem,setCells,setIn]
      refine (n_then ?_)
      refine ⟨k + 1, by omega, ⟨by omega, fun j hj => ?_⟩, ?_⟩
      · rcases Nat.lt_succ_iff_lt_or_eq.1 hj with h | rfl
        · exact hA j h
        · rw [rest', hF]; rfl
      refine norm_to [(4, 4)] rfl ?_ ?_ <;> simp only [go_sem]
    refine vw_go rfl ?_; simp only [hd2,go_sem,setCells,setIn]
    refine vw_cond (t := true) rfl (fun _ => ?_) (fun h => nomatch h)
    refine vw_skip (n_then ?_)
    rcases get_or n.kids k with ⟨x, hx, hlk⟩ | ⟨_, hge⟩
    case inr => omega
    have c5 : (0:Int) ≤ (k:Int) := by omega
    have c6 : (k:Int) < (n.kids.length : Int) := by omega
    have w5 : IntKind.wrap .i64 ((k:Int) + 1) = ((k + 1 : Nat) : Int) := by rw [wrap_i64 (by omega) (by omega)]; rfl
    have hT := hasK_take y hx
    have hki : k < i := by omega
    refine vw_seq ?_
    refine vw_block ?_
    by_cases he : x = y
    · have hbad : hasK (n.kids.take i) y = true := by
        simp only [hasK,List.any_eq_true,decide_eq_true_eq]
        exact ⟨x, List.mem_of_getElem? (by rw [List.getElem?_take, if_pos hki]; exact hx), he.symm⟩
      rw [nodeOk_bad hd hlt (by rw [rest', hbad]; rfl)]
      refine vw_drawA mixed rfl rfl ?_; intro A hAA
      simp (maxSteps := 1000000) only [c1, c2, c5, c6, Int.toNat_natCast, getD_map_of hy, getD_map_of hx, nRow, he, go_sem, setCells, setIn, runW_step]
      refine ⟨by subst hAA; unfold allOk; kernel_rfl, ?_⟩
      refine vw_cond (t := true) rfl (fun _ => ?_) (fun h => nomatch h)
      refine vw_go rfl ?_; simp only [go_sem,setCells,setIn]
      exact vw_ret (r_block (r_then (r_then (r_block (r_block (r_then (r_then (r_block (r_then (e_ret (ret_of rfl rfl (by simp [RB]) rfl rfl)))))))))))
    · (refine vw_drawA mixed rfl rfl ?_; intro A hAA)
      simp (maxSteps := 1000000) only [c1, c2, c5, c6, Int.toNat_natCast, getD_map_of hy, getD_map_of hx, nRow, he, go_sem, setCells, setIn, runW_step]
      refine ⟨by subst hAA; unfold allOk; kernel_rfl, ?_⟩
      refine vw_cond (t := false) rfl (fun h => nomatch h) (fun _ => ?_)
      refine vw_skip (n_block (n_then ?_))
      refine vw_last rfl ?_; simp only [w5,go_sem,setCells,setIn]
      refine (n_then ?_)
      refine ⟨k + 1, by omega, ⟨by omega, by rw [hT, hF, decide_eq_false (fun h => he h.symm)]; rfl⟩, ?_⟩
      refine norm_to [(4, 4)] rfl ?_ ?_ <;> simp only [go_sem]
  case neg =>
    have rest' := rest (by rw [decide_eq_true (by omega), Bool.true_or])
    (unfold runX; simp (maxSteps := 1000000) only [h0, g7, g16, g19, go_sem, setCells, setIn, runW_step])
    refine ⟨by subst hAA; exact allOk_pre aheadPFNodeI1 (by kernel_rfl) (Nat.le_of_ble_eq_true (by kernel_rfl)) (by kernel_rfl), ?_⟩
    refine vw_cond (t := false) rfl (fun h => nomatch h) (fun _ => ?_)
    refine vw_skip (n_then ?_)
    refine vw_go rfl ?_; simp only [go_sem,setCells,setIn]
    refine vw_block ?_
    refine vw_loop_tab (α := Nat) (fun x => i - x) (fun x => ⟨tabE [(1, .ptr 4 [] 0 0 0), (3, .c (.int .i64 i)), (4, .c (.int .i64 x))], tabS [(4, some ⟨true, 4, [[.bool n.dir, .list false 1 (n.names.map sRow), .list false 1 (n.kids.map nRow), .str n.data]], []⟩)], 5⟩)
      (fun x => x ≤ i ∧ hasK (n.kids.take x) y = false) (x := 0) ?round3 ?h03 ?hn3
    case h03 => exact ⟨Nat.zero_le _, rfl⟩
    case hn3 =>
      refine norm_to [(4, 4)] rfl ?_ ?_ <;> simp only [go_sem]
    rintro k ⟨hk, hF⟩
    refine vw_seq ?_
    by_cases hd2 : (k : Int) < i
    case neg =>
      refine vw_go rfl ?_; simp only [hd2,go_sem,setCells,setIn]
      refine vw_cond (t := false) rfl (fun h => nomatch h) (fun _ => ?_)
      refine vw_exit (x_then (x_then (x_block (n_block (n_then ?_)))))
      obtain rfl : k = i := by omega
      refine vw_last rfl ?_; simp only [w3,go_sem,setCells,setIn]
      refine (n_then ?_)
      refine ⟨k + 1, by omega, ⟨by omega, fun j hj => ?_⟩, ?_⟩
      · rcases Nat.lt_succ_iff_lt_or_eq.1 hj with h | rfl
        · exact hA j h
        · rw [rest', hF]; rfl
      refine norm_to [(4, 4)] rfl ?_ ?_ <;> simp only [go_sem]
    refine vw_go rfl ?_; simp only [hd2,go_sem,setCells,setIn]
    refine vw_cond (t := true) rfl (fun _ => ?_) (fun h => nomatch h)
    refine vw_skip (n_then ?_)
    rcases get_or n.kids k with ⟨x, hx, hlk⟩ | ⟨_, hge⟩
    case inr => omega
    have c5 : (0:Int) ≤ (k:Int) := by omega
    have c6 : (k:Int) < (n.kids.length : Int) := by omega
    have w5 : IntKind.wrap .i64 ((k:Int) + 1) = ((k + 1 : Nat) : Int) := by rw [wrap_i64 (by omega) (by omega)]; rfl
    have hT := hasK_take y hx
    have hki : k < i := by omega
    refine vw_seq ?_
    refine vw_block ?_
    by_cases he : x = y
    · have hbad : hasK (n.kids.take i) y = true := by
        simp only [hasK,List.any_eq_true,decide_eq_true_eq]
        exact ⟨x, List.mem_of_getElem? (by rw [List.getElem?_take, if_pos hki]; exact hx), he.symm⟩
      rw [nodeOk_bad hd hlt (by rw [rest', hbad]; rfl)]
      refine vw_drawA mixed rfl rfl ?_; intro A hAA
      simp (maxSteps := 1000000) only [c1, c2, c5, c6, Int.toNat_natCast, getD_map_of hy, getD_map_of hx, nRow, he, go_sem, setCells, setIn, runW_step]
      refine ⟨by subst hAA; unfold allOk; kernel_rfl, ?_⟩
      refine vw_cond (t := true) rfl (fun _ => ?_) (fun h => nomatch h)
      refine vw_go rfl ?_; simp only [go_sem,setCells,setIn]
      exact vw_ret (r_block (r_then (r_then (r_block (r_block (r_then (r_then (r_block (r_then (e_ret (ret_of rfl rfl (by simp [RB]) rfl rfl)))))))))))
    · (refine vw_drawA mixed rfl rfl ?_; intro A hAA)
      simp (maxSteps := 1000000) only [c1, c2, c5, c6, Int.toNat_natCast, getD_map_of hy, getD_map_of hx, nRow, he, go_sem, setCells, setIn, runW_step]
      refine ⟨by subst hAA; unfold allOk; kernel_rfl, ?_⟩
      refine vw_cond (t := false) rfl (fun h => nomatch h) (fun _ => ?_)
      refine vw_skip (n_block (n_then ?_))
      refine vw_last rfl ?_; simp only [w5,go_sem,setCells,setIn]
      refine (n_then ?_)
      refine ⟨k + 1, by omega, ⟨by omega, by rw [hT, hF, decide_eq_false (fun h => he h.symm)]; rfl⟩, ?_⟩
      refine norm_to [(4, 4)] rfl ?_ ?_ <;> simp only [go_sem]
end Go.Proofs.YtkijdbljnefeaaaGreatDoor
namespace Go.Proofs.YtkijdbljnefeaaaGreatDoor
open Go.VM Go
set_option maxRecDepth 100000
attribute [local congr] vw_congr runV_congr runH_congr runW_congr runX_congr stuckV_congr stuckX_congr
theorem bytesV_one (b : UInt8) : bytesV [[T.int .u8 (b.toNat : Int)]] = some ⟨#[b]⟩ := bytesV_map [b]
def kidB (y : Int) : UInt8 := UInt8.ofNat (48 + y.toNat)
def bodyTo (n : NodeV) : Nat → ByteArray
  | 0 => ⟨#[100]⟩
  | i + 1 => ((bodyTo n i ++ n.names.getD i ⟨#[]⟩) ++ ⟨#[61]⟩) ++ ⟨#[kidB (n.kids.getD i 0)]⟩
def nodeText (n : NodeV) : ByteArray := if nodeOk n = true then (if n.dir = true then bodyTo n n.names.length else ⟨#[102]⟩ ++ n.data) else ⟨#[]⟩
theorem nodeOk_dir {n : NodeV} (hd : n.dir = true) (h : nodeOk n = true) : n.names.length = n.kids.length ∧ n.data = ⟨#[]⟩ ∧ ∀ i, i < n.names.length → nodeAtOk n i = true := by
  unfold nodeOk at h
  rw [if_pos hd] at h
  simp only [Bool.and_eq_true,decide_eq_true_eq,List.all_eq_true] at h
  exact ⟨h.1, h.2.1, fun i hi => h.2.2 i (List.mem_range.2 hi)⟩
theorem nodeOk_file {n : NodeV} (hd : n.dir = false) (h : nodeOk n = true) : n.names.length = 0 ∧ n.kids.length = 0 ∧ n.data.size ≤ 60 := by
  unfold nodeOk at h
  rw [hd] at h
  simpa only [Bool.and_eq_true, decide_eq_true_eq, Bool.false_eq_true, if_false] using h
theorem nodeAt_out {n : NodeV} {i : Nat} (h : nodeAtOk n i = true) : (n.names.getD i ⟨#[]⟩).size ≤ 6 ∧ 1 ≤ (n.names.getD i ⟨#[]⟩).size ∧ 1 ≤ n.kids.getD i 0 ∧ n.kids.getD i 0 ≤ 11 := by
  unfold nodeAtOk at h
  generalize n.names.getD i ⟨#[]⟩ = u at h
  generalize n.kids.getD i 0 = y at h
  simp only [Bool.and_eq_true,nameOk,inB,decide_eq_true_eq] at h
  omega
theorem bodyTo_size {n : NodeV} (hA : ∀ i, i < n.names.length → nodeAtOk n i = true) : ∀ i, i ≤ n.names.length → (bodyTo n i).size ≤ 1 + 8 * i
  | 0, _ => Nat.le_refl _
  | i + 1, hi => by
    have := bodyTo_size hA i (by omega)
    have h1 := nodeAt_out (hA i (by omega))
    have h2 : (⟨#[61]⟩ : ByteArray).size = 1 := rfl
    have h3 : ∀ b, (⟨#[b]⟩ : ByteArray).size = 1 := fun _ => rfl
    simp only [bodyTo,ByteArray.size_append,h2,h3]; omega
theorem runs_116 (n : NodeV) (hs : n.small) (hs2 : n.names.length ≤ 2 ^ 20) (hs3 : n.data.size < 2 ^ 59) : Runs Tryz.prog 116 [.agg [.v (.bool n.dir), .v (.list false 1 (n.names.map sRow)), .v (.list false 1 (n.kids.map nRow)), .v (.str n.data)]] [.one (.v (.str (nodeText n)))] [] := by
  refine runs_tab (tab := [(0, .agg [.c (.bool n.dir), .c (.list false 1 (n.names.map sRow)), .c (.list false 1 (n.kids.map nRow)), .c (.str n.data)])]) (rts := []) (n := 40) (k := 4) Tryz.func116 rfl rfl (by simp) rfl (fun t => ?_) rfl ?_
  · rcases t with _ | t <;> rfl
  have rO := runs_146 n hs
  unfold nodeText
  refine vw_go rfl ?_; simp only [go_sem,setCells,setIn]
  refine vw_seq ?_
  refine vw_go rfl ?_; simp only [go_sem,setCells,setIn]
  refine ⟨_, _, call_rx [0] Tryz.func146 (rO) rfl rfl rfl rfl rfl rfl rfl (by simp [lendAll,lendC,seek,fresh,nav,rcells,RT.cells,VV.cells,tabE_cons,tabS_cons,ev,take_map_len,sRow_r1,sRow_comp,sRow_clean,nRow_r1,nRow_comp,nRow_clean]) rfl (by simp [rcells,RT.cells,CT.clean,T.clean,sRow_r1,sRow_comp,sRow_clean,nRow_r1,nRow_comp,nRow_clean]) rfl rfl, ?_⟩
  cases hok : nodeOk n
  · simp only [runH,runX,go_sem,setCells,setIn]
    refine vw_cond (t := true) rfl (fun _ => ?_) (fun h => nomatch h)
    refine vw_go rfl ?_; simp only [go_sem,setCells,setIn]
    exact vw_ret (r_then (e_ret (ret_of rfl rfl (by simp [RB]) rfl rfl)))
  simp only [runH,runX,go_sem,setCells,setIn]
  refine vw_cond (t := false) rfl (fun h => nomatch h) (fun _ => ?_)
  refine vw_skip (n_then ?_)
  refine vw_seq ?_
  refine vw_go rfl ?_; simp only [go_sem,setCells,setIn]
  rcases hd : n.dir with _ | _
  · have A0 : 1 + n.data.size < 2 ^ 60 := by omega
    refine vw_cond (t := true) rfl (fun _ => ?_) (fun h => nomatch h)
    refine vw_go rfl ?_; simp only [ByteArray.size_append,sz_lit,List.size_toArray,List.length_cons,List.length_nil,A0,go_sem,setCells,setIn]
    exact vw_ret (r_then (e_ret (ret_of rfl rfl (by simp [RB]) rfl rfl)))
  refine vw_cond (t := false) rfl (fun h => nomatch h) (fun _ => ?_)
  refine vw_skip (n_then ?_)
  obtain ⟨hl, he, hA⟩ := nodeOk_dir hd hok
  refine vw_go rfl ?_; simp only [go_sem,setCells,setIn]
  refine vw_seq ?_
  refine vw_go rfl ?_; simp only [go_sem,setCells,setIn]
  refine vw_block ?_
  refine vw_loop_tab (α := Nat) (fun x => n.names.length - x) (fun x => ⟨tabE [(1, .ptr 4 [] 0 0 0), (3, .c (.str (bodyTo n x))), (4, .c (.int .i64 x))], tabS [(4, some ⟨true, 4, [[.bool n.dir, .list false 1 (n.names.map sRow), .list false 1 (n.kids.map nRow), .str n.data]], []⟩)], 5⟩)
    (fun x => x ≤ n.names.length) (x := 0) ?round ?h0 ?hn
  case h0 => exact Nat.zero_le _
  case hn =>
    refine norm_to [(4, 4)] rfl ?_ ?_ <;> simp only [go_sem]
    · rfl
    · rw [hd]
  rintro i hi
  refine vw_seq ?_
  by_cases hc : (i : Int) < n.names.length
  case neg =>
    refine vw_go rfl ?_; simp only [hc,go_sem,setCells,setIn]
    refine vw_cond (t := false) rfl (fun h => nomatch h) (fun _ => ?_)
    refine vw_exit (x_then (x_then (x_block (n_then ?_))))
    obtain rfl : i = n.names.length := by omega
    refine vw_go rfl ?_; simp only [go_sem,setCells,setIn]
    exact vw_ret (e_ret (ret_of rfl rfl (by simp [RB]) rfl rfl))
  refine vw_go rfl ?_; simp only [hc,go_sem,setCells,setIn]
  refine vw_cond (t := true) rfl (fun _ => ?_) (fun h => nomatch h)
  refine vw_skip (n_then ?_)
  rcases get_or n.names i with ⟨u, hu, hlt⟩ | ⟨_, hge⟩
  case inr => omega
  rcases get_or n.kids i with ⟨y, hy, hlt2⟩ | ⟨_, hge⟩
  case inr => omega
  have hz := bodyTo_size hA i (by omega)
  have hO := nodeAt_out (hA i hlt)
  have hB : bodyTo n (i + 1) = ((bodyTo n i ++ u) ++ ⟨#[61]⟩) ++ ⟨#[kidB y]⟩ := by rw [bodyTo, getD_of hu, getD_of hy]
  rw [getD_of hu, getD_of hy] at hO
  obtain ⟨m, rfl⟩ : ∃ m : Nat, y = m := ⟨y.toNat, by omega⟩
  have c1 : (0:Int) ≤ (i:Int) := by omega
  have c2 : (i:Int) < (n.kids.length : Int) := by omega
  have w3 : IntKind.wrap .i64 ((i:Int) + 1) = ((i + 1 : Nat) : Int) := by rw [wrap_i64 (by omega) (by omega)]; rfl
  have w4 : IntKind.wrap .i64 (48 + (m : Int)) = ((48 + m : Nat) : Int) := by rw [wrap_i64 (by omega) (by omega)]; omega
  have w5 : IntKind.wrap .u8 ((48 + m : Nat) : Int) = ((kidB (m : Int)).toNat : Int) := by rw [kidB, Int.toNat_natCast]; exact u8_wrap (by omega)
  have A1 : (bodyTo n i).size + u.size < 2 ^ 60 := by omega
  have A2 : (bodyTo n i).size + u.size + 1 < 2 ^ 60 := by omega
  have A3 : (bodyTo n i).size + u.size + 1 + 1 < 2 ^ 60 := by omega
  refine vw_seq ?_
  refine vw_block ?_
  refine vw_draw_last mixed rfl rfl ?_; simp only [c1,c2,hc,Int.toNat_natCast,getD_map_of hu,getD_map_of hy,sRow,nRow,w4,w5,ByteArray.size_append,sz_lit,List.size_toArray,List.length_cons,List.length_nil,A1,A2,A3,range1,List.replicate_succ,List.replicate_zero,List.flatten_cons,List.flatten_nil,List.range_zero,gt_iff_lt,bytesV_one,go_sem,setCells,setIn]
  refine ⟨by unfold allOk; kernel_rfl, ?_⟩
  refine (n_block (n_then ?_))
  refine vw_last rfl ?_; simp only [w3,go_sem,setCells,setIn]
  refine (n_then ?_)
  refine ⟨i + 1, by omega, by omega, ?_⟩
  rw [hB]
  refine norm_to [(4, 4)] rfl ?_ ?_ <;> simp only [go_sem]
end Go.Proofs.YtkijdbljnefeaaaGreatDoor
