/- Places of the reference: l4Lives, Worst. More ways to call: results that hold, and a pointer's call in a region of open order. What is planned by the reference: l2Wipe, l5Burn. -/
import Derived.Test.YtkijdbljnefeaaaGreatDoorPFWorkD
import Derived.Test.YtkijdbljnefeaaaGreatDoorPFOp
set_option linter.unusedSimpArgs false
set_option linter.unusedVariables false
namespace Go.Proofs.YtkijdbljnefeaaaGreatDoor
open Go.VM Go
def aheadPFWorkS1 : List (List Nat) := [[], [0], [0, 1], [0, 1, 2], [0, 1, 2], [0, 1, 2, 3, 4], [0, 1, 2, 3, 4, 5], [0, 1, 2, 3, 4, 5, 6], [0, 1, 2, 3, 4, 5, 6, 7], [0, 1, 2, 3, 4, 5, 6, 7], [0, 1, 2, 3, 4, 5, 6, 7, 8, 9], [0, 1, 2, 3, 4, 5, 6, 7, 8, 9, 10], [0, 1, 2, 3, 4, 5, 6, 7, 8, 9, 10, 11], [0, 1, 2, 3, 4, 5, 6, 7, 8, 9, 10, 11, 12], [0, 1, 2, 3, 4, 5, 6, 7, 8, 9, 10, 11, 12, 13], [0, 1, 2, 3, 4, 5, 6, 7, 8, 9, 10, 11], [0, 1, 2, 3, 4, 5, 6, 7, 8, 9, 10, 11, 12, 13, 14, 15], [0, 1, 2, 3, 4, 5, 6, 7, 8, 9, 10, 11, 12, 13, 14, 15, 16], [0, 1, 2, 3, 4, 5, 6, 7, 8, 9, 10, 11], [0, 1, 2, 3, 4, 5, 6, 7, 8, 9, 10, 11, 18], [0, 1, 2, 3, 4, 5, 6, 7, 8, 9, 10, 11, 18, 19], [0, 1, 2, 3, 4, 5, 6, 7, 8, 9, 10, 11], [0, 1, 2, 3, 4, 5, 6, 7, 8, 9, 10, 11, 18, 19, 20, 21], [0, 1, 2, 3, 4, 5, 6, 7, 8, 9, 10, 11, 18, 19, 20, 21, 22], [0, 1, 2, 3, 4, 5, 6, 7, 8, 9, 10, 11, 12, 13, 14, 15, 16, 17, 18, 19, 20, 21, 22, 23], [0, 1, 2, 3, 4, 5, 6, 7, 8, 9, 10, 11, 12, 13, 14, 15, 16, 17, 18, 19, 20, 21, 22, 23, 24], [0, 1, 2, 3, 4, 5, 6, 7, 8, 9, 10, 11, 12, 13, 14, 15, 16, 17, 18, 19, 20, 21, 22, 23, 24, 25]]
set_option maxRecDepth 100000
attribute [-go_sem] runW_cons
attribute [local congr] vw_congr runV_congr runH_congr runW_congr runX_congr stuckV_congr stuckX_congr
theorem filter_take {l : List Int} {s : Nat} {x : Int} (v : Int) (h : l[s]? = some x) : (l.take (s + 1)).filter (fun x => decide (x = v)) = (l.take s).filter (fun x => decide (x = v)) ++ (if x = v then [v] else []) := by
  rw [List.take_add_one, h, List.filter_append]
  by_cases e : x = v
  · simp [e]
  · simp [e]
set_option maxHeartbeats 1000000 in
theorem runs_156 (f : FtlV) (hm : f.map.length ≤ 100) (b : Nat) (hb : b < 10) :
    Runs Tryz.prog 156 [.agg [.v (.list false 1 (f.pages.map sRow)), .v (.list false 1 (f.wear.map nRow)), .v (.list false 1 (f.map.map nRow)), .v (.int .i64 f.seq)], .one (.v (.int .i64 b))] [.one (.v (.list true 1 ((livesF f.map b).map nRow)))] [] := by
  refine runs_tab (tab := [(0, .agg [.c (.list false 1 (f.pages.map sRow)), .c (.list false 1 (f.wear.map nRow)), .c (.list false 1 (f.map.map nRow)), .c (.int .i64 f.seq)]), (1, .c (.int .i64 b))]) (rts := []) (n := 38) (k := 5) Tryz.func156 rfl rfl (by simp) rfl (fun t => ?_) rfl ?_
  · rcases t with _ | _ | t <;> rfl
  refine vw_go rfl ?_; simp only [go_sem,setCells,setIn]
  refine vw_go rfl ?_; simp only [range1,List.replicate_succ,List.replicate_zero,List.flatten_cons,List.flatten_nil,List.range_zero,gt_iff_lt,go_sem,setCells,setIn]
  refine vw_seq ?_
  refine vw_go rfl ?_; simp only [go_sem,setCells,setIn]
  refine vw_block ?_
  refine vw_loop_tab (α := Nat × List Int × List Path) (fun x => 6 - x.1) (fun x => ⟨tabE [(1, .c (.int .i64 b)), (2, .ptr 5 [] 0 0 0), (5, .al 6 [] 0 1 0 x.2.1.length), (6, .c (.int .i64 x.1))], tabS [(5, some ⟨true, 4, [[.list false 1 (f.pages.map sRow), .list false 1 (f.wear.map nRow), .list false 1 (f.map.map nRow), .int .i64 f.seq]], []⟩), (6, some ⟨false, 1, x.2.1.map nRow, x.2.2⟩)], 7⟩)
    (fun x => x.1 ≤ 6 ∧ x.2.1 = livesTo f.map b x.1 ∧ x.2.1.length ≤ 100 * x.1) (x := (0, [], [])) ?round ?h0 ?hn
  case h0 => exact ⟨Nat.zero_le _, rfl, Nat.le_refl _⟩
  case hn =>
    refine norm_to [(5, 5), (65541, 6)] rfl ?_ ?_ <;> simp only [go_sem]
  rintro ⟨i, q, lg⟩ ⟨hi, hq, hql⟩
  simp only at hi hq hql
  refine vw_seq ?_
  by_cases hc : (i : Int) < 6
  case neg =>
    obtain rfl : i = 6 := by omega
    have bq : List.take q.length (q.map nRow) = q.map nRow := List.take_of_length_le (by simp)
    unfold livesF
    rw [← hq]
    refine vw_go rfl ?_; simp only [hc,go_sem,setCells,setIn]
    refine vw_cond (t := false) rfl (fun h => nomatch h) (fun _ => ?_)
    refine vw_exit (x_then (x_then (x_block (n_then ?_))))
    refine vw_go rfl ?_; simp only [go_sem,setCells,setIn]
    exact vw_ret (e_ret (ret_by rfl rfl (by simp [RB]) rfl (by simp only [takeCs,takeC,go_sem,setCells,setIn])))
  have w1 : IntKind.wrap .i64 ((i:Int) + 1) = ((i + 1 : Nat) : Int) := by rw [wrap_i64 (by omega) (by omega)]; rfl
  have w4 : IntKind.wrap .i64 ((b : Int) * 6) = (b : Int) * 6 := wrap_i64 (by omega) (by omega)
  have w5 : IntKind.wrap .i64 ((b : Int) * 6 + (i : Int)) = ((b * 6 + i : Nat) : Int) := by rw [wrap_i64 (by omega) (by omega)]; push_cast; rfl
  refine vw_go rfl ?_; simp only [hc,go_sem,setCells,setIn]
  refine vw_cond (t := true) rfl (fun _ => ?_) (fun h => nomatch h)
  refine vw_skip (n_then ?_)
  refine vw_seq ?_
  refine vw_block ?_
  refine vw_go rfl ?_; simp only [go_sem,setCells,setIn]
  refine vw_block ?_
  refine vw_loop_tab (α := Nat × List Int × List Path) (fun x => f.map.length - x.1) (fun x => ⟨tabE [(1, .c (.int .i64 b)), (2, .ptr 5 [] 0 0 0), (5, .al 6 [] 0 1 0 x.2.1.length), (6, .c (.int .i64 i)), (7, .c (.int .i64 x.1))], tabS [(5, some ⟨true, 4, [[.list false 1 (f.pages.map sRow), .list false 1 (f.wear.map nRow), .list false 1 (f.map.map nRow), .int .i64 f.seq]], []⟩), (6, some ⟨false, 1, x.2.1.map nRow, x.2.2⟩)], 7⟩)
    (fun x => x.1 ≤ f.map.length ∧ x.2.1 = q ++ (f.map.take x.1).filter (fun x => decide (x = ((b * 6 + i : Nat) : Int))) ∧ x.2.1.length ≤ 100 * i + x.1) (x := (0, q, lg)) ?round2 ?h02 ?hn2
  case h02 => exact ⟨Nat.zero_le _, by rw [List.take_zero, List.filter_nil, List.append_nil], by simp only; omega⟩
  case hn2 =>
    refine norm_to [(5, 5), (6, 6)] rfl ?_ ?_ <;> simp only [go_sem]
  rintro ⟨s, u, lu⟩ ⟨hs, hu, hul⟩
  simp only at hs hu hul
  refine vw_seq ?_
  by_cases hd : (s : Int) < f.map.length
  case neg =>
    obtain rfl : s = f.map.length := by omega
    rw [List.take_length] at hu
    have hl2 : livesTo f.map b (i + 1) = u := by rw [livesTo, ← hq, hu]
    refine vw_go rfl ?_; simp only [hd,go_sem,setCells,setIn]
    refine vw_cond (t := false) rfl (fun h => nomatch h) (fun _ => ?_)
    refine vw_exit (x_then (x_then (x_block (n_block (n_then ?_)))))
    refine vw_last rfl ?_; simp only [w1,go_sem,setCells,setIn]
    refine (n_then ?_)
    refine ⟨(i + 1, u, lu), by simp only; omega, ⟨by simp only; omega, hl2.symm, by simp only; omega⟩, ?_⟩
    refine norm_to [(5, 5), (6, 6)] rfl ?_ ?_ <;> simp only [go_sem]
  obtain ⟨x, hx⟩ : ∃ x, f.map[s]? = some x := ⟨_, List.getElem?_eq_getElem (by omega)⟩
  have d0 : (0:Int) ≤ (s : Int) := by omega
  have d1 : s < f.map.length := by omega
  have w3 : IntKind.wrap .i64 ((s:Int) + 1) = ((s + 1 : Nat) : Int) := by rw [wrap_i64 (by omega) (by omega)]; rfl
  have bu : List.take u.length (u.map nRow) = u.map nRow := List.take_of_length_le (by simp)
  have hf := filter_take ((b * 6 + i : Nat) : Int) hx
  refine vw_go rfl ?_; simp only [hd,go_sem,setCells,setIn]
  refine vw_cond (t := true) rfl (fun _ => ?_) (fun h => nomatch h)
  refine vw_skip (n_then ?_)
  refine vw_seq ?_
  refine vw_block ?_
  by_cases he : x = ((b * 6 + i : Nat) : Int)
  · rw [if_pos he] at hf
    have B1 : ¬ (u.length + 1 + 1) * (8 + 1) > bigRow := big9 (by omega)
    refine vw_go rfl ?_; simp only [d0,hd,d1,Int.toNat_natCast,getD_map_of hx,nRow,w4,w5,he,go_sem,setCells,setIn]
    refine vw_cond (t := true) rfl (fun _ => ?_) (fun h => nomatch h)
    refine vw_last rfl ?_; simp only [bu,w4,w5,B1,range1,List.replicate_succ,List.replicate_zero,List.flatten_cons,List.flatten_nil,List.range_zero,gt_iff_lt,List.drop_length,go_sem,setCells,setIn]
    refine (n_block (n_then ?_))
    refine vw_last rfl ?_; simp only [w3,go_sem,setCells,setIn]
    refine (n_then ?_)
    have e4 : u.map nRow ++ [[.int .i64 ((b * 6 + i : Nat) : Int)]] = (u ++ [((b * 6 + i : Nat) : Int)]).map nRow := by simp [nRow]
    rw [e4]
    refine ⟨(s + 1, u ++ [((b * 6 + i : Nat) : Int)], []), by simp only; omega, ⟨by simp only; omega, by rw [hf, hu, List.append_assoc], by simp; omega⟩, ?_⟩
    have e5 : u.length + 1 = (u ++ [((b * 6 + i : Nat) : Int)]).length := by simp
    rw [e5]
    generalize u ++ [((b * 6 + i : Nat) : Int)] = u'
    refine norm_to [(5, 5), (137223, 6)] rfl ?_ ?_ <;> simp only [go_sem]
  · rw [if_neg he, List.append_nil] at hf
    refine vw_go rfl ?_; simp only [d0,hd,d1,Int.toNat_natCast,getD_map_of hx,nRow,w4,w5,he,go_sem,setCells,setIn]
    refine vw_cond (t := false) rfl (fun h => nomatch h) (fun _ => ?_)
    refine vw_skip (n_block (n_then ?_))
    refine vw_last rfl ?_; simp only [w3,go_sem,setCells,setIn]
    refine (n_then ?_)
    refine ⟨(s + 1, u, lu), by simp only; omega, ⟨by simp only; omega, by rw [hf]; exact hu, by simp only; omega⟩, ?_⟩
    refine norm_to [(5, 5), (6, 6)] rfl ?_ ?_ <;> simp only [go_sem]
set_option maxHeartbeats 2000000 in
theorem runs_127 (f : FtlV) (hs : FShape f) : Runs Tryz.prog 127 [.agg [.v (.list false 1 (f.pages.map sRow)), .v (.list false 1 (f.wear.map nRow)), .v (.list false 1 (f.map.map nRow)), .v (.int .i64 f.seq)]] [.one (.v (.int .i64 (worstF f)))] [] := by
  refine runs_tab (tab := [(0, .agg [.c (.list false 1 (f.pages.map sRow)), .c (.list false 1 (f.wear.map nRow)), .c (.list false 1 (f.map.map nRow)), .c (.int .i64 f.seq)])]) (rts := []) (n := 70) (k := 4) Tryz.func127 rfl rfl (by simp) rfl (fun t => ?_) rfl ?_
  · rcases t with _ | t <;> rfl
  have rO := runs_25 f hs.small
  have rN := runs_126 f.pages f.wear hs.pl hs.wl
  unfold worstF
  cases hok : ftlOk f
  · rw [hok] at rO
    rw [if_neg (by simp)]
    refine vw_go rfl ?_; simp only [go_sem,setCells,setIn]
    refine vw_seq ?_
    refine vw_go rfl ?_; simp only [go_sem,setCells,setIn]
    refine ⟨_, _, call_rx [0] Tryz.func25 (rO) rfl rfl rfl rfl rfl rfl rfl (by simp [lendAll,lendC,seek,fresh,nav,rcells,RT.cells,VV.cells,tabE_cons,tabS_cons,ev,take_map_len,sRow_r1,sRow_comp,sRow_clean,nRow_r1,nRow_comp,nRow_clean]) rfl (by simp [rcells,RT.cells,CT.clean,T.clean,sRow_r1,sRow_comp,sRow_clean,nRow_r1,nRow_comp,nRow_clean]) rfl rfl, ?_⟩
    simp only [runH,runX,go_sem,setCells,setIn]
    refine vw_cond (t := true) rfl (fun _ => ?_) (fun h => nomatch h)
    refine vw_go rfl ?_; simp only [go_sem,setCells,setIn]
    exact vw_ret (r_then (e_ret (ret_of rfl rfl (by simp [RB]) rfl rfl)))
  rw [hok] at rO
  rw [if_pos rfl]
  generalize openF f.pages f.wear = op at rN ⊢
  generalize hW : worstGo f op 10 0 (-1) 0 = W
  refine vw_go rfl ?_; simp only [go_sem,setCells,setIn]
  refine vw_seq ?_
  refine vw_go rfl ?_; simp only [go_sem,setCells,setIn]
  refine ⟨_, _, call_rx [0] Tryz.func25 (rO) rfl rfl rfl rfl rfl rfl rfl (by simp [lendAll,lendC,seek,fresh,nav,rcells,RT.cells,VV.cells,tabE_cons,tabS_cons,ev,take_map_len,sRow_r1,sRow_comp,sRow_clean,nRow_r1,nRow_comp,nRow_clean]) rfl (by simp [rcells,RT.cells,CT.clean,T.clean,sRow_r1,sRow_comp,sRow_clean,nRow_r1,nRow_comp,nRow_clean]) rfl rfl, ?_⟩
  simp only [runH,runX,go_sem,setCells,setIn]
  refine vw_cond (t := false) rfl (fun h => nomatch h) (fun _ => ?_)
  refine vw_skip (n_then ?_)
  refine vw_go rfl ?_; simp only [go_sem,setCells,setIn]
  refine vw_go rfl ?_; simp only [go_sem,setCells,setIn]
  refine ⟨_, _, call_rx [0] Tryz.func126 (rN) rfl rfl rfl rfl rfl rfl rfl (by simp [lendAll,lendC,seek,fresh,nav,rcells,RT.cells,VV.cells,tabE_cons,tabS_cons,ev,take_map_len,sRow_r1,sRow_comp,sRow_clean,nRow_r1,nRow_comp,nRow_clean]) rfl (by simp [rcells,RT.cells,CT.clean,T.clean,sRow_r1,sRow_comp,sRow_clean,nRow_r1,nRow_comp,nRow_clean]) rfl rfl, ?_⟩
  simp only [runH,runX,go_sem,setCells,setIn]
  refine vw_seq ?_
  refine vw_go rfl ?_; simp only [go_sem,setCells,setIn]
  refine vw_block ?_
  refine vw_loop_tab (α := Nat × Int × Int) (fun x => 10 - x.1) (fun x => ⟨tabE [(1, .ptr 4 [] 0 0 0), (3, .c (.int .i64 x.2.1)), (4, .c (.int .i64 x.2.2)), (5, .c (.int .i64 op)), (6, .c (.int .i64 x.1))], tabS [(4, some ⟨true, 4, [[.list false 1 (f.pages.map sRow), .list false 1 (f.wear.map nRow), .list false 1 (f.map.map nRow), .int .i64 f.seq]], []⟩)], 5⟩)
    (fun x => x.1 ≤ 10 ∧ -1 ≤ x.2.1 ∧ x.2.1 < 10 ∧ worstGo f op (10 - x.1) x.1 x.2.1 x.2.2 = W) (x := (0, -1, 0)) ?round ?h0 ?hn
  case h0 => exact ⟨Nat.zero_le _, by decide, by decide, hW⟩
  case hn =>
    refine norm_to [(4, 4)] rfl ?_ ?_ <;> simp only [go_sem]
  rintro ⟨b, best, few⟩ ⟨hb, b1, b2, hg⟩
  simp only at hb b1 b2 hg
  refine vw_seq ?_
  by_cases hc : (b : Int) < 10
  case neg =>
    obtain rfl : b = 10 := by omega
    rw [Nat.sub_self, worstGo] at hg
    subst hg
    refine vw_go rfl ?_; simp only [hc,go_sem,setCells,setIn]
    refine vw_cond (t := false) rfl (fun h => nomatch h) (fun _ => ?_)
    refine vw_exit (x_then (x_then (x_block (n_then ?_))))
    refine vw_seq ?_
    by_cases h6 : few = 6
    · rw [if_pos h6]
      refine vw_go rfl ?_; simp only [h6,go_sem,setCells,setIn]
      refine vw_cond (t := true) rfl (fun _ => ?_) (fun h => nomatch h)
      refine vw_go rfl ?_; simp only [go_sem,setCells,setIn]
      exact vw_ret (r_then (e_ret (ret_of rfl rfl (by simp [RB]) rfl rfl)))
    · rw [if_neg h6]
      refine vw_go rfl ?_; simp only [h6,go_sem,setCells,setIn]
      refine vw_cond (t := false) rfl (fun h => nomatch h) (fun _ => ?_)
      refine vw_skip (n_then ?_)
      refine vw_go rfl ?_; simp only [go_sem,setCells,setIn]
      exact vw_ret (e_ret (ret_of rfl rfl (by simp [RB]) rfl rfl))
  obtain ⟨m, hm⟩ : ∃ m, 10 - b = m + 1 := ⟨9 - b, by omega⟩
  have hm2 : 10 - (b + 1) = m := by omega
  rw [hm, worstGo] at hg
  have rC := runs_155 f.pages f.wear hs.pl b (by omega)
  have rL := runs_156 f (by rw [hs.ml]; decide) b (by omega)
  generalize clearF f.pages b = C at rC hg
  obtain ⟨n, tail⟩ := C
  simp only at rC hg
  generalize livesF f.map b = li at rL hg
  have bl : List.take li.length (li.map nRow) = li.map nRow := List.take_of_length_le (by simp)
  have w1 : IntKind.wrap .i64 ((b:Int) + 1) = ((b + 1 : Nat) : Int) := by rw [wrap_i64 (by omega) (by omega)]; rfl
  refine vw_go rfl ?_; simp only [hc,go_sem,setCells,setIn]
  refine vw_cond (t := true) rfl (fun _ => ?_) (fun h => nomatch h)
  refine vw_skip (n_then ?_)
  refine vw_seq ?_
  refine vw_block ?_
  refine vw_go rfl ?_; simp only [go_sem,setCells,setIn]
  refine ⟨_, _, call_rx [0, 0] Tryz.func155 (rC) rfl rfl rfl rfl rfl rfl rfl (by simp [lendAll,lendC,seek,fresh,nav,rcells,RT.cells,VV.cells,tabE_cons,tabS_cons,ev,take_map_len,sRow_r1,sRow_comp,sRow_clean,nRow_r1,nRow_comp,nRow_clean]) rfl (by simp [rcells,RT.cells,CT.clean,T.clean,sRow_r1,sRow_comp,sRow_clean,nRow_r1,nRow_comp,nRow_clean]) rfl rfl, ?_⟩
  simp only [runH,runX,go_sem,setCells,setIn]
  refine vw_go rfl ?_; simp only [go_sem,setCells,setIn]
  refine ⟨_, _, call_rx [0, 0] Tryz.func156 (rL) rfl rfl rfl rfl rfl rfl rfl (by simp [lendAll,lendC,seek,fresh,nav,rcells,RT.cells,VV.cells,tabE_cons,tabS_cons,ev,take_map_len,sRow_r1,sRow_comp,sRow_clean,nRow_r1,nRow_comp,nRow_clean]) rfl (by simp [rcells,RT.cells,CT.clean,T.clean,sRow_r1,sRow_comp,sRow_clean,nRow_r1,nRow_comp,nRow_clean]) rfl rfl, ?_⟩
  simp only [runH,runX,bl,go_sem,setCells,setIn]
  refine vw_join (α := Unit) (fun _ => ⟨tabE [(1, .ptr 4 [] 0 0 0), (3, .c (.int .i64 best)), (4, .c (.int .i64 few)), (5, .c (.int .i64 op)), (6, .c (.int .i64 b)), (9, .c (.int .i64 li.length))], tabS [(4, some ⟨true, 4, [[.list false 1 (f.pages.map sRow), .list false 1 (f.wear.map nRow), .list false 1 (f.map.map nRow), .int .i64 f.seq]], []⟩)], 5⟩)
    (fun _ => ¬ (n = 6 ∨ (b : Int) = op)) ?_ ?_
  · by_cases h6 : n = 6
    · have q6 : (n : Int) = 6 := by omega
      rw [if_pos (.inl h6)] at hg
      refine vw_go rfl ?_; simp only [q6,go_sem,setCells,setIn]
      refine vw_cond (t := true) rfl (fun _ => ?_) (fun h => nomatch h)
      refine vw_exit (x_then (x_block (n_then ?_)))
      refine vw_last rfl ?_; simp only [w1,go_sem,setCells,setIn]
      refine (n_then ?_)
      refine ⟨(b + 1, best, few), by simp only; omega, ⟨by simp only; omega, b1, b2, by rw [← hm2] at hg; exact hg⟩, ?_⟩
      refine norm_to [(4, 4)] rfl ?_ ?_ <;> simp only [go_sem]
    have q6 : ¬ (n : Int) = 6 := by omega
    by_cases ho : (b : Int) = op
    · rw [if_pos (.inr ho)] at hg
      subst ho
      refine vw_go rfl ?_; simp only [q6,go_sem,setCells,setIn]
      refine vw_cond (t := true) rfl (fun _ => ?_) (fun h => nomatch h)
      refine vw_exit (x_then (x_block (n_then ?_)))
      refine vw_last rfl ?_; simp only [w1,go_sem,setCells,setIn]
      refine (n_then ?_)
      refine ⟨(b + 1, best, few), by simp only; omega, ⟨by simp only; omega, b1, b2, by rw [← hm2] at hg; exact hg⟩, ?_⟩
      refine norm_to [(4, 4)] rfl ?_ ?_ <;> simp only [go_sem]
    · (refine vw_go rfl ?_; simp only [q6,ho,go_sem,setCells,setIn])
      refine vw_cond (t := false) rfl (fun h => nomatch h) (fun _ => ?_)
      refine vw_skip (n_then ⟨(), h6, ?_⟩)
      refine norm_to [(4, 4)] rfl ?_ ?_ <;> simp only [go_sem]
  rintro _ hno
  rw [if_neg hno] at hg
  obtain ⟨wb, hwb⟩ : ∃ x, f.wear[b]? = some x := ⟨_, List.getElem?_eq_getElem (by rw [hs.wl]; omega)⟩
  have c0 : (0:Int) ≤ (b : Int) := by omega
  have c1 : (b : Int) < (f.wear.length : Int) := by rw [hs.wl]; omega
  have c2 : b < f.wear.length := by rw [hs.wl]; omega
  rw [getD_of hwb] at hg
  refine vw_drawA mixed rfl rfl ?_; intro A hAA
  have k2 : (A[2]?).bind (·.dst) = some 40 := by subst hAA; rfl
  have k7 : (A[7]?).bind (·.dst) = some 45 := by subst hAA; rfl
  have k11 : (A[11]?).bind (·.dst) = some 49 := by subst hAA; rfl
  by_cases h1 : best < 0
  case pos =>
    rw [if_pos (.inl h1)] at hg
    simp (maxSteps := 1000000) only [k2, k7, k11, h1, go_sem, setCells, setIn, runW_step]
    refine ⟨by subst hAA; exact allOk_pre aheadPFWorkS1 (by kernel_rfl) (Nat.le_of_ble_eq_true (by kernel_rfl)) (by kernel_rfl), ?_⟩
    refine vw_cond (t := true) rfl (fun _ => ?_) (fun h => nomatch h)
    refine vw_go rfl ?_; simp only [go_sem,setCells,setIn]
    refine vw_last rfl ?_; simp only [go_sem,setCells,setIn]
    refine (n_block (n_then ?_))
    refine vw_last rfl ?_; simp only [w1,go_sem,setCells,setIn]
    refine (n_then ?_)
    refine ⟨(b + 1, b, li.length), by simp only; omega, ⟨by simp only; omega, by simp only; omega, by simp only; omega, by rw [← hm2] at hg; exact hg⟩, ?_⟩
    refine norm_to [(4, 4)] rfl ?_ ?_ <;> simp only [go_sem]
  by_cases h2 : (li.length : Int) < few
  case pos =>
    rw [if_pos (.inr (.inl h2))] at hg
    simp (maxSteps := 1000000) only [k2, k7, k11, h1, h2, go_sem, setCells, setIn, runW_step]
    refine ⟨by subst hAA; exact allOk_pre aheadPFWorkS1 (by kernel_rfl) (Nat.le_of_ble_eq_true (by kernel_rfl)) (by kernel_rfl), ?_⟩
    refine vw_cond (t := true) rfl (fun _ => ?_) (fun h => nomatch h)
    refine vw_go rfl ?_; simp only [go_sem,setCells,setIn]
    refine vw_last rfl ?_; simp only [go_sem,setCells,setIn]
    refine (n_block (n_then ?_))
    refine vw_last rfl ?_; simp only [w1,go_sem,setCells,setIn]
    refine (n_then ?_)
    refine ⟨(b + 1, b, li.length), by simp only; omega, ⟨by simp only; omega, by simp only; omega, by simp only; omega, by rw [← hm2] at hg; exact hg⟩, ?_⟩
    refine norm_to [(4, 4)] rfl ?_ ?_ <;> simp only [go_sem]
  by_cases h3 : (li.length : Int) = few
  case neg =>
    rw [if_neg (by rintro (h | h | h); exact h1 h; exact h2 h; exact h3 h.1)] at hg
    simp (maxSteps := 1000000) only [k2, k7, k11, h1, h2, h3, go_sem, setCells, setIn, runW_step]
    refine ⟨by subst hAA; exact allOk_pre aheadPFWorkS1 (by kernel_rfl) (Nat.le_of_ble_eq_true (by kernel_rfl)) (by kernel_rfl), ?_⟩
    refine vw_cond (t := false) rfl (fun h => nomatch h) (fun _ => ?_)
    refine vw_skip (n_block (n_then ?_))
    refine vw_last rfl ?_; simp only [w1,go_sem,setCells,setIn]
    refine (n_then ?_)
    refine ⟨(b + 1, best, few), by simp only; omega, ⟨by simp only; omega, b1, b2, by rw [← hm2] at hg; exact hg⟩, ?_⟩
    refine norm_to [(4, 4)] rfl ?_ ?_ <;> simp only [go_sem]
  have q2 : decide ((li.length : Int) < few) = false := decide_eq_false h2
  have q3 : decide ((li.length : Int) = few) = true := decide_eq_true h3
  obtain ⟨B, rfl⟩ : ∃ B : Nat, best = B := ⟨best.toNat, by omega⟩
  obtain ⟨wB, hwB⟩ : ∃ x, f.wear[B]? = some x := ⟨_, List.getElem?_eq_getElem (by rw [hs.wl]; omega)⟩
  rw [Int.toNat_natCast, getD_of hwB] at hg
  have d0 : (0:Int) ≤ (B : Int) := by omega
  have d1 : (B : Int) < (f.wear.length : Int) := by rw [hs.wl]; omega
  have d2 : B < f.wear.length := by rw [hs.wl]; omega
  by_cases hlt : wb < wB
  · rw [if_pos (.inr (.inr ⟨h3, hlt⟩))] at hg
    simp (maxSteps := 1000000) only [k2, k7, k11, h1, q2, q3, c0, c1, c2, d0, d1, d2, Int.toNat_natCast, getD_map_of hwb, getD_map_of hwB, nRow, hlt, go_sem, setCells, setIn, runW_step]
    refine ⟨by subst hAA; exact allOk_pre aheadPFWorkS1 (by kernel_rfl) (Nat.le_of_ble_eq_true (by kernel_rfl)) (by kernel_rfl), ?_⟩
    refine vw_cond (t := true) rfl (fun _ => ?_) (fun h => nomatch h)
    refine vw_go rfl ?_; simp only [go_sem,setCells,setIn]
    refine vw_last rfl ?_; simp only [go_sem,setCells,setIn]
    refine (n_block (n_then ?_))
    refine vw_last rfl ?_; simp only [w1,go_sem,setCells,setIn]
    refine (n_then ?_)
    refine ⟨(b + 1, b, li.length), by simp only; omega, ⟨by simp only; omega, by simp only; omega, by simp only; omega, by rw [← hm2] at hg; exact hg⟩, ?_⟩
    refine norm_to [(4, 4)] rfl ?_ ?_ <;> simp only [go_sem]
  · rw [if_neg (by rintro (h | h | h); exact h1 h; exact h2 h; exact hlt h.2)] at hg
    simp (maxSteps := 1000000) only [k2, k7, k11, h1, q2, q3, c0, c1, c2, d0, d1, d2, Int.toNat_natCast, getD_map_of hwb, getD_map_of hwB, nRow, hlt, go_sem, setCells, setIn, runW_step]
    refine ⟨by subst hAA; exact allOk_pre aheadPFWorkS1 (by kernel_rfl) (Nat.le_of_ble_eq_true (by kernel_rfl)) (by kernel_rfl), ?_⟩
    refine vw_cond (t := false) rfl (fun h => nomatch h) (fun _ => ?_)
    refine vw_skip (n_block (n_then ?_))
    refine vw_last rfl ?_; simp only [w1,go_sem,setCells,setIn]
    refine (n_then ?_)
    refine ⟨(b + 1, B, few), by simp only; omega, ⟨by simp only; omega, b1, b2, by rw [← hm2] at hg; exact hg⟩, ?_⟩
    refine norm_to [(4, 4)] rfl ?_ ?_ <;> simp only [go_sem]
end Go.Proofs.YtkijdbljnefeaaaGreatDoor
namespace Go.VM
theorem call_fine {P : Program} {fid : Nat} {o : Oper} {env : Nat → VV} {st : St} {c : Call} {g : Operand} {f : FuncId} {fn : Func} {caps : List (List T)} (ts : List TypeId) {xs : List VV}
    {args outs : List RT} (hf : P.funcs[f]? = some fn) (hruns : Runs P f args outs []) (hop : o.op = .call c) (hcal : c.callee = .value g) (hg : ev P env 0 g = .fn f caps) (hbody : fn.body.isNone = false) (hname : (fn.name == "runtime.NumGoroutine") = false)
    (hts : ts.length = c.args.size) (hxs : (c.args.toList.zip ts).map (fun p => ev P env p.2 p.1) ++ caps.map VV.rop = xs) (hl : lendAll st (xs.flatMap VV.cells) = some (rcells args))
    (hshape : shapes xs args = true) (hc1 : ∀ c ∈ rcells outs, c.fine (Known st (xs.flatMap VV.cells))) (hm : Nat.ble (rcells outs).length 1024 = true) (hn : Nat.ble (rcells args).length 1024 = true) :
    OpOk P fid o env st ⟨outL (rvv fid outs), cups fid (rcells outs)⟩ := by
  have h := call_okH (P := P) (fid := fid) (o := o) (env := env) (st := st) (ms := xs.map fun _ => Md.ro) (ys := (xs.flatMap VV.cells).map fun _ => none) (u := []) (bk := (xs.flatMap VV.cells).map fun _ => none) (cs := rcells args)
    (B := []) (bu := []) (ts := ts) (xs := xs)
    hop hcal hg hf hbody hname hxs.symm hts (by simp)
    (by rw [modes_ro]; exact handCs_ro st _)
    (by simp only [mergeCs_ro',St.ups_nil,hl])
    hshape rfl (fun b hb => nomatch hb) (by simp) (by simp) (by simp only [backU]) hruns
    hc1 (fun b hb => nomatch hb) (Nat.le_of_ble_eq_true hm) (Nat.le_of_ble_eq_true hn)
  simpa using h
theorem call_pt_at {P : Program} {fid : Nat} {o : Oper} {env : Nat → VV} {st : St} {c : Call} {g : Operand} {f : FuncId} {fn : Func} {caps : List (List T)} (ts : List TypeId) (r : Nat) (rd : List Nat) {m n : Nat} {row row' : List T} {lg : List Path} {sz0 : Nat} {xs : List VV} {cs : List CT}
    {args outs : List RT} (hf : P.funcs[f]? = some fn) (hruns : Runs P f args outs [(0, ⟨true, n, [row'], []⟩)]) (hop : o.op = .call c) (hcal : c.callee = .value g) (hg : ev P env 0 g = .fn f caps) (hbody : fn.body.isNone = false) (hname : (fn.name == "runtime.NumGoroutine") = false)
    (hts : ts.length = c.args.size) (hxs : (c.args.toList.zip ts).map (fun p => ev P env p.2 p.1) ++ caps.map VV.rop = .ptr r [] m 0 0 :: xs) (hst : st r = some ⟨true, sz0, [row], lg⟩)
    (hl : ∀ st' : St, (∀ x ∈ r :: rd, st' x = st x) → lendAll (st'.put r none) (xs.flatMap VV.cells) = some cs) (hcs : rcells args = .box row :: cs)
    (hshape : shapes (.ptr r [] m 0 0 :: xs) args = true) (hc1 : ∀ st' : St, (∀ x ∈ r :: rd, st' x = st x) → ∀ c ∈ rcells outs, c.fine (Known st' (.ptr r [] m 0 0 :: xs.flatMap VV.cells)))
    (hc2 : ∀ st' : St, (∀ x ∈ r :: rd, st' x = st x) → fineR (Known st' (.ptr r [] m 0 0 :: xs.flatMap VV.cells)) row') (hm : Nat.ble (rcells outs).length 1024 = true) (hn : Nat.ble (rcells args).length 1024 = true) :
    OpAt P fid o (r :: rd) env st ⟨outL (rvv fid outs), [(r, none), (r, some ⟨true, n, [row'], lg ++ [[]]⟩)] ++ cups fid (rcells outs)⟩ := by
  intro env' st' he hs
  have hmem : ∀ t, (.tmp t : Operand) ∈ c.operands → t ∈ tmpsOf o := by
    intro t ht
    simp only [tmpsOf,hop,Op.operands,List.mem_filterMap]
    exact ⟨.tmp t, by simpa using ht, rfl⟩
  have hg' : ev P env' 0 g = ev P env 0 g := ev_congr (fun i e => he i (hmem i (by subst e; simp [Call.operands,hcal])))
  refine call_pt ts r hf hruns hop hcal (hg'.trans hg) hbody hname hts ?_ ((hs r (by simp)).trans hst) (hl st' hs) hcs hshape (hc1 st' hs) (hc2 st' hs) hm hn
  rw [← hxs]
  congr 1
  refine List.map_congr_left (fun p hp => ev_congr (fun i e => he i (hmem i ?_)))
  have := (List.of_mem_zip hp).1
  rw [e] at this
  simp [Call.operands,hcal]
  exact .inr (by simpa using this)
end Go.VM
namespace Go.Proofs.YtkijdbljnefeaaaGreatDoor
open Go.VM Go
set_option maxRecDepth 100000
attribute [-go_sem] runW_cons
attribute [local congr] vw_congr runV_congr runH_congr runW_congr runX_congr stuckV_congr stuckX_congr
theorem wipeTo_len (p : List ByteArray) (b : Nat) : ∀ i, (wipeTo p b i).length = p.length
  | 0 => rfl
  | i + 1 => by unfold wipeTo; rw [List.length_set, wipeTo_len p b i]
theorem runs_133 (p : List ByteArray) (w : List Int) (hp : p.length = 60) (hw : w.length = 10) (hwb : ∀ n ∈ w, 0 ≤ n ∧ n ≤ 1000000000) (b n : Nat) (hb : b < 10) (hn : n ≤ 1000)
    (P : List ByteArray) (W : List Int) (hP : P = wipeTo p b (min n 6)) (hW : W = wearUp w b) :
    Runs Tryz.prog 133 [.agg [.v (.list true 1 (p.map sRow)), .v (.list true 1 (w.map nRow))], .one (.v (.int .i64 b)), .one (.v (.int .i64 n))] [.agg [.v (.list true 1 (P.map sRow)), .v (.list true 1 (W.map nRow))]] [] := by
  refine runs_tab (tab := [(0, .agg [.al 0 [] 0 1 0 p.length, .al 1 [] 0 1 0 w.length]), (1, .c (.int .i64 b)), (2, .c (.int .i64 n))]) (rts := [(1, some ⟨false, 1, w.map nRow, []⟩), (0, some ⟨false, 1, p.map sRow, []⟩)]) (n := 35) (k := 4) Tryz.func133 rfl rfl (by simp) rfl (fun t => ?_) rfl ?_
  · rcases t with _ | _ | _ | t <;> simp [envOf,rvv,RT.vv,CT.vv,cvv,tabE_cons,tabE_nil,rcells,RT.cells]
  refine vw_go rfl ?_; simp only [go_sem,setCells,setIn]
  refine vw_seq ?_
  refine vw_go rfl ?_; simp only [go_sem,setCells,setIn]
  refine vw_block ?_
  refine vw_loop_tab (α := Nat × List ByteArray × List Path) (fun x => 6 - x.1) (fun x => ⟨tabE [(1, .c (.int .i64 b)), (2, .c (.int .i64 n)), (3, .ptr 4 [] 0 0 0), (6, .ptr 5 [] 0 0 0), (7, .c (.int .i64 x.1))], tabS [(4, some ⟨true, 2, [[.list true 1 (x.2.1.map sRow), .list true 1 (w.map nRow)]], x.2.2⟩), (5, some ⟨true, 2, [[.list true 1 [], .list true 1 []]], []⟩)], 6⟩)
    (fun x => x.1 ≤ min n 6 ∧ x.2.1 = wipeTo p b x.1) (x := (0, p, [])) ?round ?h0 ?hn
  case h0 => exact ⟨Nat.zero_le _, rfl⟩
  case hn =>
    refine norm_to [(4, 4), (1028, 5)] rfl ?_ ?_ <;> simp only [go_sem]
  rintro ⟨i, q, lg⟩ ⟨hi, hq⟩
  simp only at hi hq
  have hql := wipeTo_len p b i
  rw [← hq] at hql
  have bq : List.take q.length (q.map sRow) = q.map sRow := List.take_of_length_le (by simp)
  have bw : List.take w.length (w.map nRow) = w.map nRow := List.take_of_length_le (by simp)
  refine vw_seq ?_
  have w4 : IntKind.wrap .i64 ((b : Int) * 6) = (b : Int) * 6 := wrap_i64 (by omega) (by omega)
  have w5 : IntKind.wrap .i64 ((b : Int) * 6 + (i : Int)) = ((b * 6 + i : Nat) : Int) := by rw [wrap_i64 (by omega) (by omega)]; push_cast; rfl
  have w1 : IntKind.wrap .i64 ((i:Int) + 1) = ((i + 1 : Nat) : Int) := by rw [wrap_i64 (by omega) (by omega)]; rfl
  by_cases hc : i < n ∧ i < 6
  case neg =>
    have hi2 : i = min n 6 := by omega
    rw [← hi2, ← hq] at hP
    subst hP
    obtain ⟨x, hx⟩ : ∃ x, w[b]? = some x := ⟨_, List.getElem?_eq_getElem (by omega)⟩
    have hxb := hwb x (List.mem_of_getElem? hx)
    have c0 : (0:Int) ≤ (b : Int) := by omega
    have c1 : (b : Int) < (w.length : Int) := by omega
    have c2 : b < w.length := by omega
    have v1 : IntKind.wrap .i64 (x + 1) = x + 1 := wrap_i64 (by omega) (by omega)
    have hW2 : W = w.set b (x + 1) := by rw [hW, wearUp, getD_of hx]
    have e9 : (w.map nRow).set b [.int .i64 (x + 1)] = W.map nRow := by rw [hW2, List.map_set]
    have hwl : w.length = W.length := by rw [hW2, List.length_set]
    have bW : List.take W.length (W.map nRow) = W.map nRow := List.take_of_length_le (by simp)
    have bW2 : List.take w.length (W.map nRow) = W.map nRow := by rw [hwl]; exact bW
    by_cases h1 : (i : Int) < n
    · have h2 : ¬ (i : Int) < 6 := by omega
      refine vw_go rfl ?_; simp only [h1,h2,go_sem,setCells,setIn]
      refine vw_cond (t := false) rfl (fun h => nomatch h) (fun _ => ?_)
      refine vw_exit (x_then (x_then (x_block (n_then ?_))))
      refine vw_drawA mixed rfl rfl ?_; intro A hAA
      simp (maxSteps := 1000000) only [c0, c1, c2, Int.toNat_natCast, getD_map_of hx, nRow, v1, e9, bw, List.drop_length, go_sem, setCells, setIn, runW_step]
      refine ⟨by subst hAA; unfold allOk; kernel_rfl, ?_⟩
      refine vw_go rfl ?_; simp only [bq,bW,bW2,List.drop_length,go_sem,setCells,setIn]
      exact vw_ret (e_ret (ret_by rfl rfl (by simp [RB]) rfl (by simp only [takeCs,takeC,go_sem,setCells,setIn])))
    · (refine vw_go rfl ?_; simp only [h1,go_sem,setCells,setIn])
      refine vw_cond (t := false) rfl (fun h => nomatch h) (fun _ => ?_)
      refine vw_exit (x_then (x_then (x_block (n_then ?_))))
      refine vw_drawA mixed rfl rfl ?_; intro A hAA
      simp (maxSteps := 1000000) only [c0, c1, c2, Int.toNat_natCast, getD_map_of hx, nRow, v1, e9, bw, List.drop_length, go_sem, setCells, setIn, runW_step]
      refine ⟨by subst hAA; unfold allOk; kernel_rfl, ?_⟩
      refine vw_go rfl ?_; simp only [bq,bW,bW2,List.drop_length,go_sem,setCells,setIn]
      exact vw_ret (e_ret (ret_by rfl rfl (by simp [RB]) rfl (by simp only [takeCs,takeC,go_sem,setCells,setIn])))
  have h1 : (i : Int) < n := by omega
  have h2 : (i : Int) < 6 := by omega
  have c0 : (0:Int) ≤ ((b * 6 + i : Nat) : Int) := by omega
  have c1 : ((b * 6 + i : Nat) : Int) < (q.length : Int) := by omega
  have c2 : b * 6 + i < q.length := by omega
  have hst : wipeTo p b (i + 1) = q.set (b * 6 + i) ⟨#[]⟩ := by rw [wipeTo, ← hq]
  have e9 : (q.map sRow).set (b * 6 + i) [.str (⟨#[]⟩ : ByteArray)] = (q.set (b * 6 + i) ⟨#[]⟩).map sRow := by rw [List.map_set]; rfl
  refine vw_go rfl ?_; simp only [h1,h2,go_sem,setCells,setIn]
  refine vw_cond (t := true) rfl (fun _ => ?_) (fun h => nomatch h)
  refine vw_skip (n_then ?_)
  refine vw_seq ?_
  refine vw_block ?_
  obtain ⟨y, hy⟩ : ∃ y, q[b * 6 + i]? = some y := ⟨_, List.getElem?_eq_getElem c2⟩
  refine vw_last rfl ?_; simp only [w4,w5,c0,c1,c2,Int.toNat_natCast,getD_map_of hy,sRow,bq,e9,List.drop_length,go_sem,setCells,setIn]
  refine (n_block (n_then ?_))
  refine vw_last rfl ?_; simp only [w1,go_sem,setCells,setIn]
  refine (n_then ?_)
  refine ⟨(i + 1, q.set (b * 6 + i) ⟨#[]⟩, lg), by simp only; omega, ⟨by simp only; omega, hst.symm⟩, ?_⟩
  refine norm_to [(4, 4), (5, 5)] rfl ?_ ?_ <;> simp only [go_sem]
theorem actRow_r1 (x : ActV) : (actRow x).map T.toRO = actRow x := by simp [actRow]
theorem actRow_clean (l : List ActV) : cleanRs (l.map actRow) = true := clean_map (fun x => rfl) l
theorem big35 {x : Nat} (h : x ≤ 1000) : ¬ x * (32 + 1) > bigRow := by
  have h1 : x * (32 + 1) ≤ 1000 * (32 + 1) := Nat.mul_le_mul_right _ h
  have h2 : 1000 * (32 + 1) ≤ bigRow := by decide
  omega
set_option maxHeartbeats 1000000 in
theorem runs_92 (W : WorkV) (hs : FShape W.f) (ha : W.acts.length ≤ 500) (s : Int) (d : ByteArray) (V : WorkV) (hV : V = burnW W s d) :
    Runs Tryz.prog 92 [.one (.box [.list true 1 (W.f.pages.map sRow), .list true 1 (W.f.wear.map nRow), .list true 1 (W.f.map.map nRow), .int .i64 W.f.seq, .list true 3 (W.acts.map actRow), .bool W.ok]), .one (.v (.int .i64 s)), .one (.v (.str d))] [] [(0, ⟨true, 6, [[.list true 1 (V.f.pages.map sRow), .list true 1 (V.f.wear.map nRow), .list true 1 (V.f.map.map nRow), .int .i64 V.f.seq, .list true 3 (V.acts.map actRow), .bool V.ok]], []⟩)] := by
  refine runs_tabB (tab := [(0, .ptr 0 [] 0 0 0), (1, .c (.int .i64 s)), (2, .c (.str d))]) (rts := [(0, some ⟨true, 6, [[.list true 1 (W.f.pages.map sRow), .list true 1 (W.f.wear.map nRow), .list true 1 (W.f.map.map nRow), .int .i64 W.f.seq, .list true 3 (W.acts.map actRow), .bool W.ok]], []⟩)]) (n := 79) (k := 3) Tryz.func92 rfl rfl (by simp) rfl (fun t => ?_) rfl ?_
  · rcases t with _ | _ | _ | t <;> rfl
  obtain ⟨⟨p, w, m, q⟩, acts, ok⟩ := W
  simp only at hs ha hV ⊢
  have rN := runs_129 p w hs.pl hs.wl
  have rT := runs_108 s q d
  have hin := nextF_in p w
  have hsec := recText_sector (s := s) (q := q) (d := d)
  unfold burnW at hV
  simp only at hV
  generalize nextF p w = k at rN hin hV
  generalize recText s q d = t at rT hsec hV
  have bp : List.take p.length (p.map sRow) = p.map sRow := List.take_of_length_le (by simp)
  have bw : List.take w.length (w.map nRow) = w.map nRow := List.take_of_length_le (by simp)
  have bm : List.take m.length (m.map nRow) = m.map nRow := List.take_of_length_le (by simp)
  have ba : List.take acts.length (acts.map actRow) = acts.map actRow := List.take_of_length_le (by simp)
  have q2 := hs.q2
  have pl := hs.pl
  have ml := hs.ml
  simp only at q2 pl ml
  refine vw_go rfl ?_; simp only [bp,bw,List.drop_length,go_sem,setCells,setIn]
  refine ⟨_, _, call_rx [0] Tryz.func129 (rN) rfl rfl rfl rfl rfl rfl rfl (by simp [lendAll,lendC,seek,fresh,nav,rcells,RT.cells,VV.cells,tabE_cons,tabS_cons,ev,take_map_len,sRow_r1,sRow_comp,sRow_clean,nRow_r1,nRow_comp,nRow_clean,bp,bw]) rfl (by simp [rcells,RT.cells,CT.clean,T.clean,sRow_r1,sRow_comp,sRow_clean,nRow_r1,nRow_comp,nRow_clean,bp,bw]) rfl rfl, ?_⟩
  simp only [runH,runX,go_sem,setCells,setIn]
  refine vw_go rfl ?_; simp only [go_sem,setCells,setIn]
  refine ⟨_, _, call_rd [0] Tryz.func108 (rT) rfl rfl rfl rfl rfl rfl rfl rfl rfl rfl rfl rfl rfl, ?_⟩
  simp only [runH,runX,go_sem,setCells,setIn]
  refine vw_seq ?_
  by_cases h1 : k < 0
  · rw [if_pos (.inl h1)] at hV
    subst hV
    refine vw_go rfl ?_; simp only [h1,go_sem,setCells,setIn]
    refine vw_cond (t := true) rfl (fun _ => ?_) (fun h => nomatch h)
    refine vw_go rfl ?_; simp only [go_sem,setCells,setIn]
    exact vw_ret (r_then (e_ret (ret_b rfl rfl (by simp [RB]) rfl (by simp only [takeCs,takeC,bp,bw,bm,ba,List.drop_length,go_sem,setCells,setIn]; rfl) (by exact ⟨⟨by simp, _, rfl, rfl, rfl, rfl⟩, trivial⟩))))
  by_cases h2 : t = ⟨#[]⟩
  · rw [if_pos (.inr (.inl h2))] at hV
    subst hV
    have q1 : decide (t = ⟨#[]⟩) = true := decide_eq_true h2
    refine vw_go rfl ?_; simp only [h1,q1,go_sem,setCells,setIn]
    refine vw_cond (t := true) rfl (fun _ => ?_) (fun h => nomatch h)
    refine vw_go rfl ?_; simp only [go_sem,setCells,setIn]
    exact vw_ret (r_then (e_ret (ret_b rfl rfl (by simp [RB]) rfl (by simp only [takeCs,takeC,bp,bw,bm,ba,List.drop_length,go_sem,setCells,setIn]; rfl) (by exact ⟨⟨by simp, _, rfl, rfl, rfl, rfl⟩, trivial⟩))))
  have q1 : decide (t = ⟨#[]⟩) = false := decide_eq_false h2
  by_cases h3 : q = 1000000000
  · rw [if_pos (.inr (.inr h3))] at hV
    subst hV
    refine vw_go rfl ?_; simp only [h1,q1,h3,go_sem,setCells,setIn]
    refine vw_cond (t := true) rfl (fun _ => ?_) (fun h => nomatch h)
    refine vw_go rfl ?_; simp only [go_sem,setCells,setIn]
    exact vw_ret (r_then (e_ret (ret_b rfl rfl (by simp [RB]) rfl (by simp only [takeCs,takeC,bp,bw,bm,ba,List.drop_length,go_sem,setCells,setIn]; rfl) (by exact ⟨⟨by simp, _, rfl, rfl, rfl, rfl⟩, trivial⟩))))
  rw [if_neg (by rintro (h | h | h); exact h1 h; exact h2 h; exact h3 h)] at hV
  obtain ⟨S, rfl⟩ : ∃ S : Nat, s = S := ⟨s.toNat, by have := hsec h2; omega⟩
  obtain ⟨K, rfl⟩ : ∃ K : Nat, k = K := ⟨k.toNat, by omega⟩
  obtain ⟨_, hS⟩ := hsec h2
  have c0 : (0:Int) ≤ (K : Int) := by omega
  have c1 : (K : Int) < (p.length : Int) := by omega
  have c2 : K < p.length := by omega
  have d0 : (0:Int) ≤ (S : Int) := by omega
  have d1 : (S : Int) < (m.length : Int) := by omega
  have d2 : S < m.length := by omega
  have v1 : IntKind.wrap .i64 (q + 1) = q + 1 := wrap_i64 (by have := hs.q1; simp only at this; omega) (by omega)
  obtain ⟨y, hy⟩ : ∃ y, p[K]? = some y := ⟨_, List.getElem?_eq_getElem c2⟩
  obtain ⟨z, hz⟩ : ∃ z, m[S]? = some z := ⟨_, List.getElem?_eq_getElem d2⟩
  rw [Int.toNat_natCast, Int.toNat_natCast] at hV
  have e1 : (p.map sRow).set K [.str t] = (p.set K t).map sRow := by rw [List.map_set]; rfl
  have e2 : (m.map nRow).set S [.int .i64 (K : Int)] = (m.set S (K : Int)).map nRow := by rw [List.map_set]
  have e3 : acts.map actRow ++ [[.int .i64 1, .int .i64 (K : Int), .str t]] = (acts ++ [(⟨1, K, t⟩ : ActV)]).map actRow := by simp [actRow]
  have B1 : ¬ (acts.length + 1 + 1) * (32 + 1) > bigRow := big35 (by omega)
  refine vw_go rfl ?_; simp only [h1,q1,h3,go_sem,setCells,setIn]
  refine vw_cond (t := false) rfl (fun h => nomatch h) (fun _ => ?_)
  refine vw_skip (n_then ?_)
  generalize hA2 : acts ++ [(⟨1, K, t⟩ : ActV)] = acts2 at e3 hV
  have l2 : acts.length + 1 ≤ acts2.length := by rw [← hA2]; simp
  have be : List.take (acts.length + 1) (acts2.map actRow) = acts2.map actRow := by rw [← hA2]; exact List.take_of_length_le (by simp)
  refine vw_go rfl ?_; simp only [ba,B1,e3,l2,be,range1,List.replicate_succ,List.replicate_zero,List.flatten_cons,List.flatten_nil,List.range_zero,gt_iff_lt,List.drop_length,go_sem,setCells,setIn]
  refine vw_go rfl ?_; simp only [bp,c0,c1,c2,Int.toNat_natCast,getD_map_of hy,sRow,e1,List.drop_length,go_sem,setCells,setIn]
  refine vw_go rfl ?_; simp only [bm,d0,d1,d2,Int.toNat_natCast,getD_map_of hz,nRow,e2,List.drop_length,go_sem,setCells,setIn]
  refine vw_last rfl ?_; simp only [v1,go_sem,setCells,setIn]
  subst hV
  exact e_normal (ret_b rfl rfl (by simp [RB]) rfl (by simp only [takeCs,takeC,List.drop_length,go_sem,setCells,setIn]; rfl) (by exact ⟨⟨by simp, _, rfl, rfl, rfl, rfl⟩, trivial⟩))
end Go.Proofs.YtkijdbljnefeaaaGreatDoor
