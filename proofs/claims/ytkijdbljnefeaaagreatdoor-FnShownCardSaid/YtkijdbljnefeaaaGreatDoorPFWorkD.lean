/- Places of the reference: l4Clear, l4Next, NextPage, FreeBlocks, l5Open. What is planned, in plain Lean: burning, cleaning, making room. -/
import Derived.Test.YtkijdbljnefeaaaGreatDoorPFPlaceD
import Derived.Test.YtkijdbljnefeaaaGreatDoorPFIn
set_option linter.unusedSimpArgs false
set_option linter.unusedVariables false
namespace Go.Proofs.YtkijdbljnefeaaaGreatDoor
open Go.VM Go
def aheadPFWorkD1 : List (List Nat) := [[], [0], [0, 1], [0, 1, 2], [0, 1, 2, 3], [0, 1, 2, 3, 4], [0, 1, 2, 3, 4, 5], [0, 1, 2, 3, 4, 5, 6], [0, 1, 2, 3, 4, 5], [0, 1, 2, 3, 4, 5, 6, 7, 8], [0, 1, 2, 3, 4, 5, 6, 7, 8, 9], [0, 1, 2, 3, 4, 5], [0, 1, 2, 3, 4, 5, 11], [0, 1, 2, 3, 4, 5], [0, 1, 2, 3, 4, 5, 11, 12, 13], [0, 1, 2, 3, 4, 5, 11, 12, 13, 14], [0, 1, 2, 3, 4, 5, 6, 7, 8, 9, 10, 11, 12, 13, 14, 15], [0, 1, 2, 3, 4, 5, 6, 7, 8, 9, 10, 11, 12, 13, 14, 15, 16], [0, 1, 2, 3, 4, 5, 6, 7, 8, 9, 10, 11, 12, 13, 14, 15, 16, 17]]
set_option maxRecDepth 100000
attribute [-go_sem] runW_cons
attribute [local congr] vw_congr runV_congr runH_congr runW_congr runX_congr stuckV_congr stuckX_congr
theorem runs_155 (p : List ByteArray) (w : List Int) (hp : p.length = 60) (b : Nat) (hb : b < 10) :
    Runs Tryz.prog 155 [.agg [.v (.list false 1 (p.map sRow)), .v (.list false 1 (w.map nRow))], .one (.v (.int .i64 b))] [.one (.v (.int .i64 (clearF p b).1)), .one (.v (.int .i64 (clearF p b).2))] [] := by
  refine runs_tab (tab := [(0, .agg [.c (.list false 1 (p.map sRow)), .c (.list false 1 (w.map nRow))]), (1, .c (.int .i64 b))]) (rts := []) (n := 28) (k := 3) Tryz.func155 rfl rfl (by simp) rfl (fun t => ?_) rfl ?_
  · rcases t with _ | _ | t <;> rfl
  refine vw_go rfl ?_; simp only [go_sem,setCells,setIn]
  refine vw_go rfl ?_; simp only [go_sem,setCells,setIn]
  refine vw_seq ?_
  refine vw_go rfl ?_; simp only [go_sem,setCells,setIn]
  refine vw_block ?_
  refine vw_loop_tab (α := Nat) (fun x => 6 - x) (fun x => ⟨tabE [(1, .c (.int .i64 b)), (2, .ptr 3 [] 0 0 0), (6, .c (.int .i64 (clearTo p b x).1)), (7, .c (.int .i64 (clearTo p b x).2)), (8, .c (.int .i64 x))], tabS [(3, some ⟨true, 2, [[.list false 1 (p.map sRow), .list false 1 (w.map nRow)]], []⟩)], 4⟩)
    (fun x => x ≤ 6) (x := 0) ?round ?h0 ?hn
  case h0 => exact Nat.zero_le _
  case hn =>
    refine norm_to [(3, 3)] rfl ?_ ?_ <;> simp only [go_sem]
    · exact ⟨rfl, rfl⟩
  rintro i hi
  refine vw_seq ?_
  have hle := clearTo_le p b i
  by_cases hc : (i : Int) < 6
  case neg =>
    obtain rfl : i = 6 := by omega
    refine vw_go rfl ?_; simp only [hc,go_sem,setCells,setIn]
    refine vw_cond (t := false) rfl (fun h => nomatch h) (fun _ => ?_)
    refine vw_exit (x_then (x_then (x_block (n_then ?_))))
    refine vw_go rfl ?_; simp only [go_sem,setCells,setIn]
    exact vw_ret (e_ret (ret_of rfl rfl (by simp [RB]) rfl rfl))
  have w1 : IntKind.wrap .i64 ((i:Int) + 1) = ((i + 1 : Nat) : Int) := by rw [wrap_i64 (by omega) (by omega)]; rfl
  have w2 : IntKind.wrap .i64 (((clearTo p b i).2 : Int) + 1) = (((clearTo p b i).2 + 1 : Nat) : Int) := by rw [wrap_i64 (by omega) (by omega)]; rfl
  have w3 : IntKind.wrap .i64 (((clearTo p b i).1 : Int) + 1) = (((clearTo p b i).1 + 1 : Nat) : Int) := by rw [wrap_i64 (by omega) (by omega)]; rfl
  have w4 : IntKind.wrap .i64 ((b : Int) * 6) = (b : Int) * 6 := wrap_i64 (by omega) (by omega)
  have w5 : IntKind.wrap .i64 ((b : Int) * 6 + (i : Int)) = ((b * 6 + i : Nat) : Int) := by rw [wrap_i64 (by omega) (by omega)]; push_cast; rfl
  obtain ⟨s, hs⟩ : ∃ s, p[b * 6 + i]? = some s := ⟨_, List.getElem?_eq_getElem (by omega)⟩
  have c1 : (0:Int) ≤ ((b * 6 + i : Nat) : Int) := by omega
  have c2 : ((b * 6 + i : Nat) : Int) < (p.length : Int) := by omega
  have c3 : b * 6 + i < p.length := by omega
  have hst : clearTo p b (i + 1) = if s = ⟨#[]⟩ then ((clearTo p b i).1 + 1, (clearTo p b i).2 + 1) else ((clearTo p b i).1, 0) := by
    rw [clearTo, getD_of hs]
  refine vw_go rfl ?_; simp only [hc,go_sem,setCells,setIn]
  refine vw_cond (t := true) rfl (fun _ => ?_) (fun h => nomatch h)
  refine vw_skip (n_then ?_)
  refine vw_seq ?_
  refine vw_block ?_
  refine vw_go rfl ?_; simp only [w2,go_sem,setCells,setIn]
  by_cases hz : s = ⟨#[]⟩
  · have q1 : decide (s = ⟨#[]⟩) = true := decide_eq_true hz
    rw [if_pos hz] at hst
    refine vw_go rfl ?_; simp only [w4,w5,c1,c2,c3,Int.toNat_natCast,getD_map_of hs,sRow,q1,go_sem,setCells,setIn]
    refine vw_cond (t := true) rfl (fun _ => ?_) (fun h => nomatch h)
    refine vw_last rfl ?_; simp only [w3,go_sem,setCells,setIn]
    refine (n_block (n_then ?_))
    refine vw_last rfl ?_; simp only [w1,go_sem,setCells,setIn]
    refine (n_then ?_)
    refine ⟨i + 1, by omega, (by omega : i + 1 ≤ 6), ?_⟩
    rw [hst]
    refine norm_to [(3, 3)] rfl ?_ ?_ <;> simp only [go_sem]
  · have q1 : decide (s = ⟨#[]⟩) = false := decide_eq_false hz
    rw [if_neg hz] at hst
    refine vw_go rfl ?_; simp only [w4,w5,c1,c2,c3,Int.toNat_natCast,getD_map_of hs,sRow,q1,go_sem,setCells,setIn]
    refine vw_cond (t := false) rfl (fun h => nomatch h) (fun _ => ?_)
    refine vw_last rfl ?_; simp only [w3,go_sem,setCells,setIn]
    refine (n_block (n_then ?_))
    refine vw_last rfl ?_; simp only [w1,go_sem,setCells,setIn]
    refine (n_then ?_)
    refine ⟨i + 1, by omega, (by omega : i + 1 ≤ 6), ?_⟩
    rw [hst]
    refine norm_to [(3, 3)] rfl ?_ ?_ <;> simp only [go_sem]
set_option maxHeartbeats 1000000 in
theorem runs_129 (p : List ByteArray) (w : List Int) (hp : p.length = 60) (hw : w.length = 10) : Runs Tryz.prog 129 [.agg [.v (.list false 1 (p.map sRow)), .v (.list false 1 (w.map nRow))]] [.one (.v (.int .i64 (nextF p w)))] [] := by
  refine runs_tab (tab := [(0, .agg [.c (.list false 1 (p.map sRow)), .c (.list false 1 (w.map nRow))])]) (rts := []) (n := 57) (k := 2) Tryz.func129 rfl rfl (by simp) rfl (fun t => ?_) rfl ?_
  · rcases t with _ | t <;> rfl
  generalize hF : nextF p w = F
  unfold nextF at hF
  refine vw_go rfl ?_; simp only [go_sem,setCells,setIn]
  refine vw_go rfl ?_; simp only [go_sem,setCells,setIn]
  refine vw_seq ?_
  refine vw_go rfl ?_; simp only [go_sem,setCells,setIn]
  refine vw_block ?_
  refine vw_loop_tab (α := Nat × Int) (fun x => 10 - x.1) (fun x => ⟨tabE [(1, .ptr 2 [] 0 0 0), (3, .c (.int .i64 x.2)), (4, .c (.int .i64 x.1))], tabS [(2, some ⟨true, 2, [[.list false 1 (p.map sRow), .list false 1 (w.map nRow)]], []⟩)], 3⟩)
    (fun x => x.1 ≤ 10 ∧ -1 ≤ x.2 ∧ x.2 < 10 ∧ nextGo p w (10 - x.1) x.1 x.2 = F) (x := (0, -1)) ?round ?h0 ?hn
  case h0 => exact ⟨Nat.zero_le _, by decide, by decide, hF⟩
  case hn =>
    refine norm_to [(2, 2)] rfl ?_ ?_ <;> simp only [go_sem]
  rintro ⟨b, best⟩ ⟨hb, b1, b2, hg⟩
  simp only at hb b1 b2 hg
  refine vw_seq ?_
  by_cases hc : (b : Int) < 10
  case neg =>
    obtain rfl : b = 10 := by omega
    refine vw_go rfl ?_; simp only [hc,go_sem,setCells,setIn]
    refine vw_cond (t := false) rfl (fun h => nomatch h) (fun _ => ?_)
    refine vw_exit (x_then (x_then (x_block (n_then ?_))))
    rw [Nat.sub_self, nextGo] at hg
    refine vw_seq ?_
    by_cases hn : best < 0
    · rw [if_pos hn] at hg
      subst hg
      refine vw_go rfl ?_; simp only [hn,go_sem,setCells,setIn]
      refine vw_cond (t := true) rfl (fun _ => ?_) (fun h => nomatch h)
      refine vw_go rfl ?_; simp only [go_sem,setCells,setIn]
      exact vw_ret (r_then (e_ret (ret_of rfl rfl (by simp [RB]) rfl rfl)))
    · rw [if_neg hn] at hg
      subst hg
      have w1 : IntKind.wrap .i64 (best * 6) = best * 6 := wrap_i64 (by omega) (by omega)
      refine vw_go rfl ?_; simp only [hn,go_sem,setCells,setIn]
      refine vw_cond (t := false) rfl (fun h => nomatch h) (fun _ => ?_)
      refine vw_skip (n_then ?_)
      refine vw_go rfl ?_; simp only [w1,go_sem,setCells,setIn]
      exact vw_ret (e_ret (ret_of rfl rfl (by simp [RB]) rfl rfl))
  obtain ⟨m, hm⟩ : ∃ m, 10 - b = m + 1 := ⟨9 - b, by omega⟩
  have hm2 : 10 - (b + 1) = m := by omega
  rw [hm, nextGo] at hg
  have rC := runs_155 p w hp b (by omega)
  have hle := clearTo_le p b 6
  change (clearF p b).1 ≤ 6 ∧ (clearF p b).2 ≤ 6 at hle
  generalize clearF p b = C at rC hle hg
  obtain ⟨n, tail⟩ := C
  simp only at rC hle hg
  have w1 : IntKind.wrap .i64 ((b:Int) + 1) = ((b + 1 : Nat) : Int) := by rw [wrap_i64 (by omega) (by omega)]; rfl
  refine vw_go rfl ?_; simp only [hc,go_sem,setCells,setIn]
  refine vw_cond (t := true) rfl (fun _ => ?_) (fun h => nomatch h)
  refine vw_skip (n_then ?_)
  refine vw_seq ?_
  refine vw_block ?_
  refine vw_go rfl ?_; simp only [go_sem,setCells,setIn]
  refine ⟨_, _, call_rx [0, 0] Tryz.func155 (rC) rfl rfl rfl rfl rfl rfl rfl (by simp [lendAll,lendC,seek,fresh,nav,rcells,RT.cells,VV.cells,tabE_cons,tabS_cons,ev,take_map_len,sRow_r1,sRow_comp,sRow_clean,nRow_r1,nRow_comp,nRow_clean]) rfl (by simp [rcells,RT.cells,CT.clean,T.clean,sRow_r1,sRow_comp,sRow_clean,nRow_r1,nRow_comp,nRow_clean]) rfl rfl, ?_⟩
  simp only [runH,runX,go_sem,setCells,setIn]
  refine vw_join (α := Unit) (fun _ => ⟨tabE [(1, .ptr 2 [] 0 0 0), (3, .c (.int .i64 best)), (4, .c (.int .i64 b)), (5, .c (.int .i64 n))], tabS [(2, some ⟨true, 2, [[.list false 1 (p.map sRow), .list false 1 (w.map nRow)]], []⟩)], 3⟩)
    (fun _ => ¬ (0 < n ∧ n < 6 ∧ tail = n)) ?_ ?_
  · by_cases h1 : 0 < n
    case neg =>
      have q1 : ¬ (0 : Int) < (n : Int) := by omega
      refine vw_go rfl ?_; simp only [q1,go_sem,setCells,setIn]
      refine vw_cond (t := false) rfl (fun h => nomatch h) (fun _ => ?_)
      refine vw_skip (n_then ⟨(), fun h => h1 h.1, ?_⟩)
      refine norm_to [(2, 2)] rfl ?_ ?_ <;> simp only [go_sem]
    have q1 : (0 : Int) < (n : Int) := by omega
    by_cases h2 : n < 6
    case neg =>
      have q2 : ¬ (n : Int) < 6 := by omega
      refine vw_go rfl ?_; simp only [q1,q2,go_sem,setCells,setIn]
      refine vw_cond (t := false) rfl (fun h => nomatch h) (fun _ => ?_)
      refine vw_skip (n_then ⟨(), fun h => h2 h.2.1, ?_⟩)
      refine norm_to [(2, 2)] rfl ?_ ?_ <;> simp only [go_sem]
    have q2 : (n : Int) < 6 := by omega
    by_cases h3 : tail = n
    case neg =>
      have q3 : ¬ (tail : Int) = (n : Int) := by omega
      refine vw_go rfl ?_; simp only [q1,q2,q3,go_sem,setCells,setIn]
      refine vw_cond (t := false) rfl (fun h => nomatch h) (fun _ => ?_)
      refine vw_skip (n_then ⟨(), fun h => h3 h.2.2, ?_⟩)
      refine norm_to [(2, 2)] rfl ?_ ?_ <;> simp only [go_sem]
    rw [if_pos ⟨h1, h2, h3⟩] at hg
    subst h3
    subst hg
    have v1 : IntKind.wrap .i64 ((b:Int) * 6) = (b : Int) * 6 := wrap_i64 (by omega) (by omega)
    have v2 : IntKind.wrap .i64 ((b:Int) * 6 + 6) = (b : Int) * 6 + 6 := wrap_i64 (by omega) (by omega)
    have v3 : IntKind.wrap .i64 ((b:Int) * 6 + 6 - (tail : Int)) = (b : Int) * 6 + 6 - (tail : Int) := wrap_i64 (by omega) (by omega)
    refine vw_go rfl ?_; simp only [q1,q2,go_sem,setCells,setIn]
    refine vw_cond (t := true) rfl (fun _ => ?_) (fun h => nomatch h)
    refine vw_go rfl ?_; simp only [v1,v2,v3,go_sem,setCells,setIn]
    refine vw_ret ?_
    repeat (first | refine r_then ?_ | refine r_block ?_)
    exact e_ret (ret_of rfl rfl (by simp [RB]) rfl rfl)
  rintro _ hno
  rw [if_neg hno] at hg
  obtain ⟨wb, hwb⟩ : ∃ x, w[b]? = some x := ⟨_, List.getElem?_eq_getElem (by omega)⟩
  have c0 : (0:Int) ≤ (b : Int) := by omega
  have c1 : (b : Int) < (w.length : Int) := by omega
  have c2 : b < w.length := by omega
  rw [getD_of hwb] at hg
  refine vw_drawA mixed rfl rfl ?_; intro A hAA
  have k2 : (A[2]?).bind (·.dst) = some 35 := by subst hAA; rfl
  have k5 : (A[5]?).bind (·.dst) = some 38 := by subst hAA; rfl
  by_cases h6 : n = 6
  case neg =>
    rw [if_neg (fun h => h6 h.1)] at hg
    have q6 : ¬ (n : Int) = 6 := by omega
    simp (maxSteps := 1000000) only [k2, k5, q6, go_sem, setCells, setIn, runW_step]
    refine ⟨by subst hAA; exact allOk_pre aheadPFWorkD1 (by kernel_rfl) (Nat.le_of_ble_eq_true (by kernel_rfl)) (by kernel_rfl), ?_⟩
    refine vw_cond (t := false) rfl (fun h => nomatch h) (fun _ => ?_)
    refine vw_skip (n_block (n_then ?_))
    refine vw_last rfl ?_; simp only [w1,go_sem,setCells,setIn]
    refine (n_then ?_)
    refine ⟨(b + 1, best), by simp only; omega, ⟨by simp only; omega, b1, b2, by rw [← hm2] at hg; exact hg⟩, ?_⟩
    refine norm_to [(2, 2)] rfl ?_ ?_ <;> simp only [go_sem]
  have q6 : (n : Int) = 6 := by omega
  by_cases hneg : best < 0
  case pos =>
    rw [if_pos ⟨h6, .inl hneg⟩] at hg
    simp (maxSteps := 1000000) only [k2, k5, q6, hneg, go_sem, setCells, setIn, runW_step]
    refine ⟨by subst hAA; exact allOk_pre aheadPFWorkD1 (by kernel_rfl) (Nat.le_of_ble_eq_true (by kernel_rfl)) (by kernel_rfl), ?_⟩
    refine vw_cond (t := true) rfl (fun _ => ?_) (fun h => nomatch h)
    refine vw_last rfl ?_; simp only [go_sem,setCells,setIn]
    refine (n_block (n_then ?_))
    refine vw_last rfl ?_; simp only [w1,go_sem,setCells,setIn]
    refine (n_then ?_)
    refine ⟨(b + 1, b), by simp only; omega, ⟨by simp only; omega, by simp only; omega, by simp only; omega, by rw [← hm2] at hg; exact hg⟩, ?_⟩
    refine norm_to [(2, 2)] rfl ?_ ?_ <;> simp only [go_sem]
  obtain ⟨B, rfl⟩ : ∃ B : Nat, best = B := ⟨best.toNat, by omega⟩
  obtain ⟨wB, hwB⟩ : ∃ x, w[B]? = some x := ⟨_, List.getElem?_eq_getElem (by omega)⟩
  rw [Int.toNat_natCast, getD_of hwB] at hg
  have d0 : (0:Int) ≤ (B : Int) := by omega
  have d1 : (B : Int) < (w.length : Int) := by omega
  have d2 : B < w.length := by omega
  by_cases hlt : wb < wB
  · rw [if_pos ⟨h6, .inr hlt⟩] at hg
    simp (maxSteps := 1000000) only [k2, k5, q6, hneg, c0, c1, c2, d0, d1, d2, Int.toNat_natCast, getD_map_of hwb, getD_map_of hwB, nRow, hlt, go_sem, setCells, setIn, runW_step]
    refine ⟨by subst hAA; exact allOk_pre aheadPFWorkD1 (by kernel_rfl) (Nat.le_of_ble_eq_true (by kernel_rfl)) (by kernel_rfl), ?_⟩
    refine vw_cond (t := true) rfl (fun _ => ?_) (fun h => nomatch h)
    refine vw_last rfl ?_; simp only [go_sem,setCells,setIn]
    refine (n_block (n_then ?_))
    refine vw_last rfl ?_; simp only [w1,go_sem,setCells,setIn]
    refine (n_then ?_)
    refine ⟨(b + 1, b), by simp only; omega, ⟨by simp only; omega, by simp only; omega, by simp only; omega, by rw [← hm2] at hg; exact hg⟩, ?_⟩
    refine norm_to [(2, 2)] rfl ?_ ?_ <;> simp only [go_sem]
  · rw [if_neg (fun h => by rcases h.2 with h | h; exact hneg h; exact hlt h)] at hg
    simp (maxSteps := 1000000) only [k2, k5, q6, hneg, c0, c1, c2, d0, d1, d2, Int.toNat_natCast, getD_map_of hwb, getD_map_of hwB, nRow, hlt, go_sem, setCells, setIn, runW_step]
    refine ⟨by subst hAA; exact allOk_pre aheadPFWorkD1 (by kernel_rfl) (Nat.le_of_ble_eq_true (by kernel_rfl)) (by kernel_rfl), ?_⟩
    refine vw_cond (t := false) rfl (fun h => nomatch h) (fun _ => ?_)
    refine vw_skip (n_block (n_then ?_))
    refine vw_last rfl ?_; simp only [w1,go_sem,setCells,setIn]
    refine (n_then ?_)
    refine ⟨(b + 1, B), by simp only; omega, ⟨by simp only; omega, b1, b2, by rw [← hm2] at hg; exact hg⟩, ?_⟩
    refine norm_to [(2, 2)] rfl ?_ ?_ <;> simp only [go_sem]
theorem runs_126 (p : List ByteArray) (w : List Int) (hp : p.length = 60) (hw : w.length = 10) : Runs Tryz.prog 126 [.agg [.v (.list false 1 (p.map sRow)), .v (.list false 1 (w.map nRow))]] [.one (.v (.int .i64 (openF p w)))] [] := by
  refine runs_tab (tab := [(0, .agg [.c (.list false 1 (p.map sRow)), .c (.list false 1 (w.map nRow))])]) (rts := []) (n := 15) (k := 2) Tryz.func126 rfl rfl (by simp) rfl (fun t => ?_) rfl ?_
  · rcases t with _ | t <;> rfl
  have rN := runs_129 p w hp hw
  have hin := nextF_in p w
  unfold openF
  generalize nextF p w = q at rN hin
  refine vw_go rfl ?_; simp only [go_sem,setCells,setIn]
  refine vw_go rfl ?_; simp only [go_sem,setCells,setIn]
  refine ⟨_, _, call_rx [0] Tryz.func129 (rN) rfl rfl rfl rfl rfl rfl rfl (by simp [lendAll,lendC,seek,fresh,nav,rcells,RT.cells,VV.cells,tabE_cons,tabS_cons,ev,take_map_len,sRow_r1,sRow_comp,sRow_clean,nRow_r1,nRow_comp,nRow_clean]) rfl (by simp [rcells,RT.cells,CT.clean,T.clean,sRow_r1,sRow_comp,sRow_clean,nRow_r1,nRow_comp,nRow_clean]) rfl rfl, ?_⟩
  simp only [runH,runX,go_sem,setCells,setIn]
  refine vw_seq ?_
  by_cases h0 : q < 0
  · rw [if_pos (.inl h0)]
    refine vw_go rfl ?_; simp only [h0,go_sem,setCells,setIn]
    refine vw_cond (t := true) rfl (fun _ => ?_) (fun h => nomatch h)
    refine vw_go rfl ?_; simp only [go_sem,setCells,setIn]
    exact vw_ret (r_then (e_ret (ret_of rfl rfl (by simp [RB]) rfl rfl)))
  have e1 : Int.tmod q 6 = q % 6 := Int.tmod_eq_emod_of_nonneg (by omega)
  have e2 : Int.tdiv q 6 = q / 6 := Int.tdiv_eq_ediv_of_nonneg (by omega)
  have v1 : IntKind.wrap .i64 (q % 6) = q % 6 := wrap_i64 (by omega) (by omega)
  have v2 : IntKind.wrap .i64 (q / 6) = q / 6 := wrap_i64 (by omega) (by omega)
  by_cases h6 : q % 6 = 0
  · rw [if_pos (.inr h6)]
    refine vw_go rfl ?_; simp only [h0,e1,v1,h6,go_sem,setCells,setIn]
    refine vw_cond (t := true) rfl (fun _ => ?_) (fun h => nomatch h)
    refine vw_go rfl ?_; simp only [go_sem,setCells,setIn]
    exact vw_ret (r_then (e_ret (ret_of rfl rfl (by simp [RB]) rfl rfl)))
  · rw [if_neg (by rintro (h | h); exact h0 h; exact h6 h)]
    refine vw_go rfl ?_; simp only [h0,e1,v1,h6,go_sem,setCells,setIn]
    refine vw_cond (t := false) rfl (fun h => nomatch h) (fun _ => ?_)
    refine vw_skip (n_then ?_)
    refine vw_go rfl ?_; simp only [e2,v2,go_sem,setCells,setIn]
    exact vw_ret (e_ret (ret_of rfl rfl (by simp [RB]) rfl rfl))
theorem big9 {x : Nat} (h : x ≤ 1000) : ¬ x * (8 + 1) > bigRow := by
  have : x * (8 + 1) ≤ 1000 * (8 + 1) := Nat.mul_le_mul_right _ h
  have h2 : 1000 * (8 + 1) ≤ bigRow := by decide
  omega
theorem runs_125 (p : List ByteArray) (w : List Int) (hp : p.length < 2 ^ 62) (hw : w.length < 2 ^ 62) : Runs Tryz.prog 125 [.agg [.v (.list false 1 (p.map sRow)), .v (.list false 1 (w.map nRow))]] [.one (.v (.list true 1 ((freeB p w).map nRow)))] [] := by
  refine runs_tab (tab := [(0, .agg [.c (.list false 1 (p.map sRow)), .c (.list false 1 (w.map nRow))])]) (rts := []) (n := 29) (k := 2) Tryz.func125 rfl rfl (by simp) rfl (fun t => ?_) rfl ?_
  · rcases t with _ | t <;> rfl
  have rO := runs_51 p w hp hw
  unfold freeB
  have h60 : chipOk p w = true → p.length = 60 ∧ w.length = 10 := fun hk => by
    unfold chipOk at hk
    simp only [Bool.and_eq_true,decide_eq_true_eq] at hk
    omega
  generalize chipOk p w = ok at rO h60
  refine vw_go rfl ?_; simp only [go_sem,setCells,setIn]
  refine vw_go rfl ?_; simp only [range1,List.replicate_succ,List.replicate_zero,List.flatten_cons,List.flatten_nil,List.range_zero,gt_iff_lt,go_sem,setCells,setIn]
  refine vw_seq ?_
  refine vw_go rfl ?_; simp only [go_sem,setCells,setIn]
  refine vw_block ?_
  refine vw_loop_tab (α := Nat × List Int × List Path) (fun x => 10 - x.1) (fun x => ⟨tabE [(1, .ptr 2 [] 0 0 0), (3, .al 3 [] 0 1 0 x.2.1.length), (4, .c (.int .i64 x.1))], tabS [(2, some ⟨true, 2, [[.list false 1 (p.map sRow), .list false 1 (w.map nRow)]], []⟩), (3, some ⟨false, 1, x.2.1.map nRow, x.2.2⟩)], 4⟩)
    (fun x => x.1 ≤ 10 ∧ x.2.1 = freeTo p x.1 ∧ (0 < x.1 → ok = true)) (x := (0, [], [])) ?round ?h0 ?hn
  case h0 => exact ⟨Nat.zero_le _, rfl, fun h => absurd h (Nat.lt_irrefl _)⟩
  case hn =>
    refine norm_to [(2, 2), (65538, 3)] rfl ?_ ?_ <;> simp only [go_sem]
  rintro ⟨b, q, lg⟩ ⟨hb, hq, hok⟩
  simp only at hb hq hok
  have hql := freeTo_len p b
  rw [← hq] at hql
  have bq : List.take q.length (q.map nRow) = q.map nRow := List.take_of_length_le (by simp)
  refine vw_seq ?_
  by_cases hc : (b : Int) < 10
  case neg =>
    obtain rfl : b = 10 := by omega
    rw [hok (by decide), if_pos rfl, ← hq]
    refine vw_go rfl ?_; simp only [hc,go_sem,setCells,setIn]
    refine vw_cond (t := false) rfl (fun h => nomatch h) (fun _ => ?_)
    refine vw_exit (x_then (x_then (x_block (n_then ?_))))
    refine vw_go rfl ?_; simp only [go_sem,setCells,setIn]
    exact vw_ret (e_ret (ret_by rfl rfl (by simp [RB]) rfl (by simp only [takeCs,takeC,go_sem,setCells,setIn])))
  refine vw_go rfl ?_; simp only [hc,go_sem,setCells,setIn]
  refine ⟨_, _, call_rx [0] Tryz.func51 (rO) rfl rfl rfl rfl rfl rfl rfl (by simp [lendAll,lendC,seek,fresh,nav,rcells,RT.cells,VV.cells,tabE_cons,tabS_cons,ev,take_map_len,sRow_r1,sRow_comp,sRow_clean,nRow_r1,nRow_comp,nRow_clean]) rfl (by simp [rcells,RT.cells,CT.clean,T.clean,sRow_r1,sRow_comp,sRow_clean,nRow_r1,nRow_comp,nRow_clean]) rfl rfl, ?_⟩
  cases ok
  case false =>
    obtain rfl : b = 0 := by
      rcases Nat.eq_zero_or_pos b with h | h
      · exact h
      · have := hok h; cases this
    obtain rfl : q = [] := hq
    simp only [runH,runX,hc,go_sem,setCells,setIn]
    refine vw_cond (t := false) rfl (fun h => nomatch h) (fun _ => ?_)
    refine vw_exit (x_then (x_then (x_block (n_then ?_))))
    refine vw_go rfl ?_; simp only [go_sem,setCells,setIn]
    exact vw_ret (e_ret (ret_by rfl rfl (by simp [RB]) rfl (by simp only [takeCs,takeC,go_sem,setCells,setIn])))
  have rC := runs_155 p w (h60 rfl).1 b (by omega)
  have hst : freeTo p (b + 1) = if (clearF p b).1 = 6 then q ++ [(b : Int)] else q := by rw [freeTo, ← hq]
  generalize clearF p b = C at rC hst
  obtain ⟨n, tail⟩ := C
  simp only at rC hst
  have w1 : IntKind.wrap .i64 ((b:Int) + 1) = ((b + 1 : Nat) : Int) := by rw [wrap_i64 (by omega) (by omega)]; rfl
  simp only [runH,runX,hc,go_sem,setCells,setIn]
  refine vw_cond (t := true) rfl (fun _ => ?_) (fun h => nomatch h)
  refine vw_skip (n_then ?_)
  refine vw_seq ?_
  refine vw_block ?_
  refine vw_go rfl ?_; simp only [go_sem,setCells,setIn]
  refine ⟨_, _, call_rx [0, 0] Tryz.func155 (rC) rfl rfl rfl rfl rfl rfl rfl (by simp [lendAll,lendC,seek,fresh,nav,rcells,RT.cells,VV.cells,tabE_cons,tabS_cons,ev,take_map_len,sRow_r1,sRow_comp,sRow_clean,nRow_r1,nRow_comp,nRow_clean]) rfl (by simp [rcells,RT.cells,CT.clean,T.clean,sRow_r1,sRow_comp,sRow_clean,nRow_r1,nRow_comp,nRow_clean]) rfl rfl, ?_⟩
  simp only [runH,runX,go_sem,setCells,setIn]
  by_cases h6 : n = 6
  · have q6 : (n : Int) = 6 := by omega
    rw [if_pos h6] at hst
    have B1 : ¬ (q.length + 1 + 1) * (8 + 1) > bigRow := big9 (by omega)
    refine vw_go rfl ?_; simp only [q6,go_sem,setCells,setIn]
    refine vw_cond (t := true) rfl (fun _ => ?_) (fun h => nomatch h)
    refine vw_last rfl ?_; simp only [bq,B1,range1,List.replicate_succ,List.replicate_zero,List.flatten_cons,List.flatten_nil,List.range_zero,gt_iff_lt,List.drop_length,go_sem,setCells,setIn]
    refine (n_block (n_then ?_))
    refine vw_last rfl ?_; simp only [w1,go_sem,setCells,setIn]
    refine (n_then ?_)
    have e4 : q.map nRow ++ [[.int .i64 (b : Int)]] = (q ++ [(b : Int)]).map nRow := by simp [nRow]
    rw [e4]
    refine ⟨(b + 1, q ++ [(b : Int)], []), by simp only; omega, ⟨by simp only; omega, hst.symm⟩, ?_⟩
    have e5 : q.length + 1 = (q ++ [(b : Int)]).length := by simp
    rw [e5]
    generalize q ++ [(b : Int)] = q'
    refine norm_to [(2, 2), (199684, 3)] rfl ?_ ?_ <;> simp only [go_sem]
  · have q6 : ¬ (n : Int) = 6 := by omega
    rw [if_neg h6] at hst
    refine vw_go rfl ?_; simp only [q6,go_sem,setCells,setIn]
    refine vw_cond (t := false) rfl (fun h => nomatch h) (fun _ => ?_)
    refine vw_skip (n_block (n_then ?_))
    refine vw_last rfl ?_; simp only [w1,go_sem,setCells,setIn]
    refine (n_then ?_)
    refine ⟨(b + 1, q, lg), by simp only; omega, ⟨by simp only; omega, hst.symm⟩, ?_⟩
    refine norm_to [(2, 2), (3, 3)] rfl ?_ ?_ <;> simp only [go_sem]
end Go.Proofs.YtkijdbljnefeaaaGreatDoor
namespace Go.Proofs.YtkijdbljnefeaaaGreatDoor
open Go.VM Go
structure ActV where
  kind : Int
  at_ : Int
  text : ByteArray
def actRow (a : ActV) : List T := [.int .i64 a.kind, .int .i64 a.at_, .str a.text]
structure WorkV where
  f : FtlV
  acts : List ActV
  ok : Bool
/-- The shape of what is worked on. -/
structure FShape (f : FtlV) : Prop where
  pl : f.pages.length = 60
  ps : ∀ s ∈ f.pages, s.size ≤ 800
  wl : f.wear.length = 10
  wb : ∀ n ∈ f.wear, 0 ≤ n ∧ n ≤ 1000000000
  ml : f.map.length = 26
  mb : ∀ n ∈ f.map, -1 ≤ n ∧ n < 60
  q1 : 1 ≤ f.seq
  q2 : f.seq ≤ 1000000000
theorem FShape.small {f : FtlV} (h : FShape f) : f.small :=
  ⟨by rw [h.pl]; decide, by rw [h.wl]; decide, by rw [h.ml]; decide, fun s hs => Nat.lt_of_le_of_lt (h.ps s hs) (by decide)⟩
theorem chipOk_parts {p : List ByteArray} {w : List Int} (h : chipOk p w = true) : p.length = 60 ∧ (∀ s ∈ p, s.size ≤ 800) ∧ w.length = 10 ∧ ∀ n ∈ w, 0 ≤ n ∧ n ≤ 1000000000 := by
  unfold chipOk at h
  simp only [Bool.and_eq_true,decide_eq_true_eq,Bool.not_eq_true',List.any_eq_false,decide_eq_false_iff_not] at h
  obtain ⟨⟨h1, h2⟩, h3, h4⟩ := h
  refine ⟨by omega, fun s hs => by have := h3 s hs; omega, by omega, fun n hn => ?_⟩
  have := h4 n hn
  unfold inB at this
  simpa using this
theorem chipOk_of {p : List ByteArray} {w : List Int} (h1 : p.length = 60) (h2 : ∀ s ∈ p, s.size ≤ 800) (h3 : w.length = 10) (h4 : ∀ n ∈ w, 0 ≤ n ∧ n ≤ 1000000000) : chipOk p w = true := by
  unfold chipOk
  simp only [Bool.and_eq_true,decide_eq_true_eq,Bool.not_eq_true',List.any_eq_false,decide_eq_false_iff_not]
  refine ⟨⟨by omega, by omega⟩, fun s hs => by have := h2 s hs; omega, fun n hn => ?_⟩
  have := h4 n hn
  unfold inB
  simpa using this
theorem mountC_shape {p : List ByteArray} {w : List Int} (h : chipOk p w = true) : FShape (mountC p w) ∧ (mountC p w).pages = p ∧ (mountC p w).wear = w := by
  obtain ⟨h1, h2, h3, h4⟩ := chipOk_parts h
  obtain ⟨m1, m2, m3⟩ := mount_inv p
  unfold mountC
  rw [if_pos h]
  refine ⟨⟨h1, h2, h3, h4, m1, fun n hn => ?_, m2.1, m2.2⟩, rfl, rfl⟩
  obtain ⟨j, hj⟩ := List.getElem?_of_mem hn
  rcases m3 j n hj with e | ⟨k, u, e, hk, _⟩
  · omega
  · have := (List.getElem?_eq_some_iff.1 hk).1
    omega
theorem recText_size (s q : Int) (d : ByteArray) : (recText s q d).size ≤ 800 := by
  unfold recText
  split
  · rw [show (⟨(putNum (sumB (recBody s q d)) ++ recBody s q d).toArray⟩ : ByteArray).size = (putNum (sumB (recBody s q d)) ++ recBody s q d).length from by simp [ByteArray.size]]
    unfold recBody
    simp only [List.length_append]
    have h1 := putNum_len (sumB ((putNum s ++ putNum q) ++ putText d))
    have h2 := putNum_len s
    have h3 := putNum_len q
    have h4 := putText_len d
    omega
  · exact Nat.zero_le _
theorem recText_sector {s q : Int} {d : ByteArray} (h : recText s q d ≠ ⟨#[]⟩) : 0 ≤ s ∧ s ≤ 25 := by
  unfold recText at h
  split at h
  · rename_i hk
    unfold recOkB inB at hk
    simp only [Bool.and_eq_true,decide_eq_true_eq] at hk
    omega
  · exact absurd rfl h
def burnW (W : WorkV) (s : Int) (d : ByteArray) : WorkV :=
  if nextF W.f.pages W.f.wear < 0 ∨ recText s W.f.seq d = ⟨#[]⟩ ∨ W.f.seq = 1000000000 then { W with ok := false }
  else ⟨⟨W.f.pages.set (nextF W.f.pages W.f.wear).toNat (recText s W.f.seq d), W.f.wear, W.f.map.set s.toNat (nextF W.f.pages W.f.wear), W.f.seq + 1⟩, W.acts ++ [⟨1, nextF W.f.pages W.f.wear, recText s W.f.seq d⟩], W.ok⟩
theorem burnW_shape {W : WorkV} (h : FShape W.f) (s : Int) (d : ByteArray) : FShape (burnW W s d).f ∧ (burnW W s d).acts.length ≤ W.acts.length + 1 := by
  unfold burnW
  split
  · exact ⟨h, Nat.le_succ _⟩
  · rename_i hc
    have hn := nextF_in W.f.pages W.f.wear
    refine ⟨⟨by simp only [List.length_set]; exact h.pl, fun t ht => ?_, h.wl, h.wb, by simp only [List.length_set]; exact h.ml, fun n hn2 => ?_, ?_, ?_⟩, by simp⟩
    · rcases List.mem_or_eq_of_mem_set ht with h1 | h1
      · exact h.ps t h1
      · rw [h1]; exact recText_size _ _ _
    · rcases List.mem_or_eq_of_mem_set hn2 with h1 | h1
      · exact h.mb n h1
      · rw [h1]; exact ⟨hn.1, hn.2⟩
    · have := h.q1; simp only; omega
    · have := h.q2
      have : ¬ W.f.seq = 1000000000 := fun e => hc (.inr (.inr e))
      simp only; omega
def wipeTo (p : List ByteArray) (b : Nat) : Nat → List ByteArray
  | 0 => p
  | i + 1 => (wipeTo p b i).set (b * 6 + i) ⟨#[]⟩
theorem wipeTo_shape (p : List ByteArray) (b m : Nat) (hp : ∀ s ∈ p, s.size ≤ m) : ∀ i, (wipeTo p b i).length = p.length ∧ ∀ s ∈ wipeTo p b i, s.size ≤ m
  | 0 => ⟨rfl, hp⟩
  | i + 1 => by
    obtain ⟨h1, h2⟩ := wipeTo_shape p b m hp i
    unfold wipeTo
    refine ⟨by rw [List.length_set, h1], fun s hs => ?_⟩
    rcases List.mem_or_eq_of_mem_set hs with h | h
    · exact h2 s h
    · rw [h]; exact Nat.zero_le _
def wearUp (w : List Int) (b : Nat) : List Int := w.set b (w.getD b 0 + 1)
theorem wearUp_ok {w : List Int} {b : Nat} (hw : ∀ n ∈ w, 0 ≤ n ∧ n ≤ 1000000000) (h : w.getD b 0 ≠ 1000000000) : ∀ n ∈ wearUp w b, 0 ≤ n ∧ n ≤ 1000000000 := by
  intro n hn
  unfold wearUp at hn
  rcases List.mem_or_eq_of_mem_set hn with h1 | h1
  · exact hw n h1
  · have : 0 ≤ w.getD b 0 ∧ w.getD b 0 ≤ 1000000000 := by
      rw [List.getD_eq_getElem?_getD]
      cases e : w[b]? with
      | none => exact ⟨by decide, by decide⟩
      | some x => exact hw x (List.mem_of_getElem? e)
    omega
/-- Over what lives in a block. -/
def cleanGo (b : Int) : List Int → WorkV → WorkV
  | [], W => W
  | x :: r, W => if W.ok = false then W
    else if nextF W.f.pages W.f.wear < 0 ∨ nextF W.f.pages W.f.wear / 6 = b then { W with ok := false }
    else cleanGo b r (burnW W (recReadS (W.f.pages.getD x.toNat ⟨#[]⟩)).1.1 (recReadS (W.f.pages.getD x.toNat ⟨#[]⟩)).1.2.2)
theorem cleanGo_shape (b : Int) : ∀ (l : List Int) (W : WorkV), FShape W.f → FShape (cleanGo b l W).f ∧ (cleanGo b l W).acts.length ≤ W.acts.length + l.length
  | [], W, h => ⟨h, Nat.le_refl _⟩
  | x :: r, W, h => by
    unfold cleanGo
    split
    · exact ⟨h, by simp⟩
    split
    · exact ⟨h, by simp⟩
    · obtain ⟨h1, h2⟩ := burnW_shape h (recReadS (W.f.pages.getD x.toNat ⟨#[]⟩)).1.1 (recReadS (W.f.pages.getD x.toNat ⟨#[]⟩)).1.2.2
      obtain ⟨h3, h4⟩ := cleanGo_shape b r _ h1
      exact ⟨h3, by rw [List.length_cons]; omega⟩
def cleanEnd (W : WorkV) (b : Nat) : WorkV :=
  if W.ok = false ∨ W.f.wear.getD b 0 = 1000000000 then { W with ok := false }
  else ⟨mountC (wipeTo W.f.pages b 6) (wearUp W.f.wear b), W.acts ++ [⟨2, b, ⟨#[]⟩⟩], W.ok⟩
theorem cleanEnd_shape {W : WorkV} (h : FShape W.f) (b : Nat) : FShape (cleanEnd W b).f ∧ (cleanEnd W b).acts.length ≤ W.acts.length + 1 := by
  unfold cleanEnd
  split
  · exact ⟨h, Nat.le_succ _⟩
  · rename_i hc
    obtain ⟨h1, h2⟩ := wipeTo_shape W.f.pages b 800 h.ps 6
    refine ⟨(mountC_shape (chipOk_of (by rw [h1, h.pl]) h2 (by unfold wearUp; rw [List.length_set, h.wl]) (wearUp_ok h.wb (fun e => hc (.inr e))))).1, by simp⟩
def cleanW (W : WorkV) (b : Nat) : WorkV := cleanEnd (cleanGo b (livesF W.f.map b) W) b
theorem once_le {v : Int} : ∀ {l : List Int}, (∀ i j : Nat, l[i]? = some v → l[j]? = some v → i = j) → (l.filter (fun x => decide (x = v))).length ≤ 1
  | [], _ => Nat.zero_le _
  | x :: l, h => by
    rw [List.filter_cons]
    by_cases hx : x = v
    · have hn : ∀ y ∈ l, ¬ y = v := fun y hy e => by
        obtain ⟨j, hj⟩ := List.getElem?_of_mem hy
        have := h 0 (j + 1) (by rw [List.getElem?_cons_zero, hx]) (by rw [List.getElem?_cons_succ, hj, e])
        omega
      rw [decide_eq_true hx, if_pos rfl, List.filter_eq_nil_iff.2 (fun y hy => by simp [hn y hy])]
      exact Nat.le_refl _
    · rw [decide_eq_false hx, if_neg (by simp)]
      exact once_le (fun i j hi hj => by
        have := h (i + 1) (j + 1) (by simpa using hi) (by simpa using hj)
        omega)
theorem right_once {f : FtlV} (h : f.right) (v : Nat) : ∀ i j : Nat, f.map[i]? = some (v : Int) → f.map[j]? = some (v : Int) → i = j := by
  intro i j hi hj
  rcases h.at_ i _ hi with e | ⟨a, u, ea, hu, _, es⟩
  · omega
  rcases h.at_ j _ hj with e | ⟨b, t, eb, ht, _, et⟩
  · omega
  obtain rfl : a = b := by omega
  rw [hu] at ht
  obtain rfl := Option.some.inj ht
  omega
theorem livesTo_len {f : FtlV} (h : f.right) (b : Nat) : ∀ i, (livesTo f.map b i).length ≤ i
  | 0 => Nat.le_refl _
  | i + 1 => by
    have h1 := livesTo_len h b i
    have h2 := once_le (right_once h (b * 6 + i))
    unfold livesTo
    rw [List.length_append]
    omega
theorem livesF_len {f : FtlV} (h : f.right) (b : Nat) : (livesF f.map b).length ≤ 6 := livesTo_len h b 6
theorem mountC_right {p : List ByteArray} {w : List Int} (h : chipOk p w = true) : (mountC p w).right := by
  obtain ⟨h1, h2, h3⟩ := mountC_shape h
  obtain ⟨m1, m2, m3⟩ := mount_inv p
  refine ⟨h1.small, h1.ml, ?_⟩
  unfold mountC
  rw [if_pos h]
  exact m3
theorem livesF_mem {m : List Int} {b : Nat} {x : Int} (h : x ∈ livesF m b) : ∃ i : Nat, i < 6 ∧ x = ((b * 6 + i : Nat) : Int) ∧ x ∈ m := by
  have hg : ∀ i, x ∈ livesTo m b i → ∃ j : Nat, j < i ∧ x = ((b * 6 + j : Nat) : Int) ∧ x ∈ m := by
    intro i
    induction i with
    | zero => intro h; cases h
    | succ i ih =>
      intro h
      unfold livesTo at h
      rcases List.mem_append.1 h with h | h
      · obtain ⟨j, h1, h2⟩ := ih h
        exact ⟨j, by omega, h2⟩
      · rw [List.mem_filter, decide_eq_true_eq] at h
        exact ⟨i, by omega, h.2, h.1⟩
  exact hg 6 h
/-- What is right, and of the shape. -/
structure FGood (f : FtlV) : Prop where
  shape : FShape f
  right : f.right
theorem shape_chip {f : FtlV} (h : FShape f) : chipOk f.pages f.wear = true := chipOk_of h.pl h.ps h.wl h.wb
theorem mountC_good {p : List ByteArray} {w : List Int} (h : chipOk p w = true) : FGood (mountC p w) := ⟨(mountC_shape h).1, mountC_right h⟩
theorem cleanW_shape {W : WorkV} (h : FGood W.f) (b : Nat) : FShape (cleanW W b).f ∧ (cleanW W b).acts.length ≤ W.acts.length + 7 ∧ ((cleanW W b).ok = true → FGood (cleanW W b).f) := by
  obtain ⟨h1, h2⟩ := cleanGo_shape b (livesF W.f.map b) W h.shape
  obtain ⟨h3, h4⟩ := cleanEnd_shape h1 b
  have h5 := livesF_len h.right b
  refine ⟨h3, by unfold cleanW; omega, fun hok => ?_⟩
  unfold cleanW at hok ⊢
  generalize cleanGo b (livesF W.f.map b) W = V at h1 hok h3
  unfold cleanEnd at hok h3 ⊢
  split at hok
  · cases hok
  · rename_i hc
    rw [if_neg hc] at h3 ⊢
    obtain ⟨g1, g2⟩ := wipeTo_shape V.f.pages b 800 h1.ps 6
    exact mountC_good (chipOk_of (by rw [g1, h1.pl]) g2 (by unfold wearUp; rw [List.length_set, h1.wl]) (wearUp_ok h1.wb (fun e => hc (.inr e))))
/-- The block that is worth the least, out of those but the open one. -/
def worstGo (f : FtlV) (op : Int) : Nat → Nat → Int → Int → Int × Int
  | 0, _, best, few => (best, few)
  | n + 1, b, best, few =>
    if (clearF f.pages b).1 = 6 ∨ (b : Int) = op then worstGo f op n (b + 1) best few
    else if best < 0 ∨ ((livesF f.map b).length : Int) < few ∨ (((livesF f.map b).length : Int) = few ∧ f.wear.getD b 0 < f.wear.getD best.toNat 0) then worstGo f op n (b + 1) b (livesF f.map b).length
    else worstGo f op n (b + 1) best few
def worstF (f : FtlV) : Int := if ftlOk f = true then (if (worstGo f (openF f.pages f.wear) 10 0 (-1) 0).2 = 6 then -1 else (worstGo f (openF f.pages f.wear) 10 0 (-1) 0).1) else -1
theorem worstGo_in (f : FtlV) (op : Int) : ∀ (n b : Nat) (best few : Int), b + n = 10 → -1 ≤ best → best < 10 → -1 ≤ (worstGo f op n b best few).1 ∧ (worstGo f op n b best few).1 < 10
  | 0, b, best, few, _, h1, h2 => ⟨h1, h2⟩
  | n + 1, b, best, few, hb, h1, h2 => by
    unfold worstGo
    split
    · exact worstGo_in f op n (b + 1) best few (by omega) h1 h2
    split
    · exact worstGo_in f op n (b + 1) b _ (by omega) (by omega) (by omega)
    · exact worstGo_in f op n (b + 1) best few (by omega) h1 h2
theorem worstF_in (f : FtlV) : -1 ≤ worstF f ∧ worstF f < 10 := by
  unfold worstF
  split
  · split
    · decide
    · exact worstGo_in f _ 10 0 (-1) 0 rfl (by decide) (by decide)
  · decide
def roomGo : Nat → WorkV → WorkV
  | 0, W => W
  | n + 1, W => if W.ok = false then W
    else if 2 < (freeB W.f.pages W.f.wear).length ∨ ((freeB W.f.pages W.f.wear).length = 2 ∧ 0 ≤ openF W.f.pages W.f.wear) then W
    else if worstF W.f < 0 then { W with ok := false }
    else roomGo n (cleanW W (worstF W.f).toNat)
theorem roomGo_shape : ∀ (n : Nat) (W : WorkV), FShape W.f → (W.ok = true → FGood W.f) → FShape (roomGo n W).f ∧ (roomGo n W).acts.length ≤ W.acts.length + 7 * n
  | 0, W, h, _ => ⟨h, Nat.le_refl _⟩
  | n + 1, W, h, hg => by
    unfold roomGo
    split
    · exact ⟨h, by omega⟩
    rename_i hok
    have hg := hg (by cases e : W.ok; exact absurd e hok; rfl)
    split
    · exact ⟨h, by omega⟩
    split
    · exact ⟨h, by simp only; omega⟩
    · obtain ⟨h1, h2, h3⟩ := cleanW_shape hg (worstF W.f).toNat
      obtain ⟨h4, h5⟩ := roomGo_shape n _ h1 h3
      exact ⟨h4, by omega⟩
def doneW (f : FtlV) (W : WorkV) : List ActV × FtlV × Bool := if W.ok = false then ([], f, false) else (W.acts, mountC W.f.pages W.f.wear, true)
def planW (f : FtlV) (s : Int) (d : ByteArray) : WorkV := if (roomGo 10 ⟨f, [], recOkB s f.seq d⟩).ok = true then burnW (roomGo 10 ⟨f, [], recOkB s f.seq d⟩) s d else roomGo 10 ⟨f, [], recOkB s f.seq d⟩
def planF (f : FtlV) (s : Int) (d : ByteArray) : List ActV × FtlV × Bool := if ftlOk f = true then doneW f (planW f s d) else ([], zFtl, false)
theorem planW_shape {f : FtlV} (h : FGood f) (s : Int) (d : ByteArray) : FShape (planW f s d).f ∧ (planW f s d).acts.length ≤ 71 := by
  obtain ⟨h1, h2⟩ := roomGo_shape 10 ⟨f, [], recOkB s f.seq d⟩ h.shape (fun _ => h)
  unfold planW
  simp only [List.length_nil] at h2
  split
  · obtain ⟨h3, h4⟩ := burnW_shape h1 s d
    exact ⟨h3, by omega⟩
  · exact ⟨h1, by omega⟩
theorem planF_shape {f : FtlV} (h : FGood f) (s : Int) (d : ByteArray) : (planF f s d).1.length ≤ 71 ∧ ((planF f s d).2.2 = true → FGood (planF f s d).2.1) := by
  obtain ⟨h1, h2⟩ := planW_shape h s d
  unfold planF doneW
  split
  · split
    · exact ⟨Nat.zero_le _, fun h => nomatch h⟩
    · exact ⟨h2, fun _ => mountC_good (shape_chip h1)⟩
  · exact ⟨Nat.zero_le _, fun h => nomatch h⟩
end Go.Proofs.YtkijdbljnefeaaaGreatDoor
