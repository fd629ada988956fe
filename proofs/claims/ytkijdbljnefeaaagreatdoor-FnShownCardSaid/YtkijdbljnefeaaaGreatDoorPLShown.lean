/- The law FnShown. -/
import Derived.Test.YtkijdbljnefeaaaGreatDoorPFBigG
import Derived.Test.YtkijdbljnefeaaaGreatDoorPFShow
import Derived.Test.YtkijdbljnefeaaaGreatDoorPLShownL
set_option linter.unusedSimpArgs false
set_option linter.unusedVariables false
namespace Go.Proofs.YtkijdbljnefeaaaGreatDoor
open Go.VM Go
set_option maxRecDepth 100000
attribute [-go_sem] runW_cons
attribute [local congr] vw_congr runV_congr runH_congr runW_congr runX_congr stuckV_congr stuckX_congr
set_option maxHeartbeats 4000000 in
theorem runs_3 (L : List UInt8) (hL63 : L.length < 2 ^ 63) : Runs Tryz.prog 3 [.one (.v (.list false 1 (L.map bRow)))] [.one (.v (.bool true))] [] := by
  refine runs_tab (tab := [(0, .c (.list false 1 (L.map bRow)))]) (rts := []) (n := 133) (k := 1) Tryz.func3 rfl rfl (by simp) rfl (fun t => ?_) rfl ?_
  · rcases t with _ | t <;> rfl
  have rB := runs_4 L hL63
  by_cases hbig : 1048576 < (L.length : Int)
  · rw [decide_eq_true hbig] at rB
    refine vw_go rfl ?_; simp only [go_sem,setCells,setIn]
    refine vw_seq ?_
    refine vw_go rfl ?_; simp only [go_sem,setCells,setIn]
    refine ⟨_, _, call_rx [0] Tryz.func4 (rB) rfl rfl rfl rfl rfl rfl rfl (by simp [lendAll,lendC,seek,fresh,nav,rcells,RT.cells,VV.cells,tabE_cons,tabS_cons,ev,take_map_len,sRow_r1,sRow_comp,sRow_clean,nRow_r1,nRow_comp,nRow_clean,bRow_r1,bRow_clean,iRow_r1,iRow_clean]) rfl (by simp [rcells,RT.cells,CT.clean,T.clean,sRow_r1,sRow_comp,sRow_clean,nRow_r1,nRow_comp,nRow_clean,bRow_r1,bRow_clean,iRow_r1,iRow_clean]) rfl rfl, ?_⟩
    simp only [runH,runX,go_sem,setCells,setIn]
    refine vw_cond (t := true) rfl (fun _ => ?_) (fun h => nomatch h)
    refine vw_go rfl ?_; simp only [go_sem,setCells,setIn]
    exact vw_ret (r_then (e_ret (ret_of rfl rfl (by simp [RB]) rfl rfl)))
  have hL : L.length < 2 ^ 60 := by omega
  rw [decide_eq_false hbig] at rB
  have hls := drawI_fit L (newC L)
  have rD1 := runs_5 L hL _ rfl
  generalize (drawI L (newC L)).1 = l at rD1 hls
  have hfs := drawFt_small L (newC L)
  have rD2 := runs_6 L hL _ rfl
  generalize (drawFt L (newC L)).1 = f at rD2 hfs
  have rD3 := runs_7 L hL _ rfl
  generalize belV L (newC L) 11 - 1 = k at rD3
  have hss := drawLine_size L (newC L)
  have rD4 := runs_14 L hL _ rfl
  generalize drawLine L (newC L) = s at rD4 hss
  have hz := sizeL_le hls.2
  have hln := hls.1
  clear hls
  have rIi := runs_8 l (by omega) (by omega)
  have rIs := runs_11 l (by omega) (by omega)
  have rCi := runs_9 f hfs
  have rCs := runs_12 f hfs
  have rKi := runs_10 k
  have rKs := runs_13 k
  have hshow := show_law f hfs
  have hml := hfs.map
  have hcz : (showF f).size < 2 ^ 60 := by
    rcases hshow with h | h
    · rw [h.1]; decide
    · rw [h.2.1]; decide
  generalize codeT k = ck at rKi rKs
  generalize showF f = cs at rCi rCs hshow hcz
  generalize itemsL l ⟨#[]⟩ = it at rIi rIs
  obtain ⟨X, hX⟩ : ∃ X, X = opReadF s := ⟨_, rfl⟩
  have rOi := runs_15 s (by omega) X hX
  have rOs := runs_16 s (by omega) X hX
  have hop := opRead_law s
  have hops := opRead_size s
  rw [← hX] at hop hops
  obtain ⟨o, ok⟩ := X
  simp only at rOi rOs hop hops
  clear hX
  have bl : List.take l.length (l.map iRow) = l.map iRow := List.take_of_length_le (by simp)
  have gp : List.take f.pages.length (f.pages.map sRow) = f.pages.map sRow := List.take_of_length_le (by simp)
  have gw : List.take f.wear.length (f.wear.map nRow) = f.wear.map nRow := List.take_of_length_le (by simp)
  have gm : List.take f.map.length (f.map.map nRow) = f.map.map nRow := List.take_of_length_le (by simp)
  refine vw_go rfl ?_; simp only [go_sem,setCells,setIn]
  refine vw_seq ?_
  refine vw_go rfl ?_; simp only [go_sem,setCells,setIn]
  refine ⟨_, _, call_rx [0] Tryz.func4 (rB) rfl rfl rfl rfl rfl rfl rfl (by simp [lendAll,lendC,seek,fresh,nav,rcells,RT.cells,VV.cells,tabE_cons,tabS_cons,ev,take_map_len,sRow_r1,sRow_comp,sRow_clean,nRow_r1,nRow_comp,nRow_clean,bRow_r1,bRow_clean,iRow_r1,iRow_clean]) rfl (by simp [rcells,RT.cells,CT.clean,T.clean,sRow_r1,sRow_comp,sRow_clean,nRow_r1,nRow_comp,nRow_clean,bRow_r1,bRow_clean,iRow_r1,iRow_clean]) rfl rfl, ?_⟩
  simp only [runH,runX,go_sem,setCells,setIn]
  refine vw_cond (t := false) rfl (fun h => nomatch h) (fun _ => ?_)
  refine vw_skip (n_then ?_)
  refine vw_go rfl ?_; simp only [go_sem,setCells,setIn]
  refine ⟨_, _, call_rx [0] Tryz.func5 (rD1) rfl rfl rfl rfl rfl rfl rfl (by simp [lendAll,lendC,seek,fresh,nav,rcells,RT.cells,VV.cells,tabE_cons,tabS_cons,ev,take_map_len,sRow_r1,sRow_comp,sRow_clean,nRow_r1,nRow_comp,nRow_clean,bRow_r1,bRow_clean,iRow_r1,iRow_clean]) rfl (by simp [rcells,RT.cells,CT.clean,T.clean,sRow_r1,sRow_comp,sRow_clean,nRow_r1,nRow_comp,nRow_clean,bRow_r1,bRow_clean,iRow_r1,iRow_clean]) rfl rfl, ?_⟩
  simp only [runH,runX,bl,go_sem,setCells,setIn]
  refine vw_go rfl ?_; simp only [bl,go_sem,setCells,setIn]
  refine ⟨_, _, call_rx [0] Tryz.func6 (rD2) rfl rfl rfl rfl rfl rfl rfl (by simp [lendAll,lendC,seek,fresh,nav,rcells,RT.cells,VV.cells,tabE_cons,tabS_cons,ev,take_map_len,sRow_r1,sRow_comp,sRow_clean,nRow_r1,nRow_comp,nRow_clean,bRow_r1,bRow_clean,iRow_r1,iRow_clean]) rfl (by simp [rcells,RT.cells,CT.clean,T.clean,sRow_r1,sRow_comp,sRow_clean,nRow_r1,nRow_comp,nRow_clean,bRow_r1,bRow_clean,iRow_r1,iRow_clean]) rfl rfl, ?_⟩
  simp only [runH,runX,bl,gp,gw,gm,List.drop_length,go_sem,setCells,setIn]
  refine vw_go rfl ?_; simp only [bl,gp,gw,gm,go_sem,setCells,setIn]
  refine ⟨_, _, call_rx [0] Tryz.func7 (rD3) rfl rfl rfl rfl rfl rfl rfl (by simp [lendAll,lendC,seek,fresh,nav,rcells,RT.cells,VV.cells,tabE_cons,tabS_cons,ev,take_map_len,sRow_r1,sRow_comp,sRow_clean,nRow_r1,nRow_comp,nRow_clean,bRow_r1,bRow_clean,iRow_r1,iRow_clean]) rfl (by simp [rcells,RT.cells,CT.clean,T.clean,sRow_r1,sRow_comp,sRow_clean,nRow_r1,nRow_comp,nRow_clean,bRow_r1,bRow_clean,iRow_r1,iRow_clean]) rfl rfl, ?_⟩
  simp only [runH,runX,bl,gp,gw,gm,List.drop_length,go_sem,setCells,setIn]
  refine vw_drawA mixed rfl rfl ?_; intro A hAA
  simp (maxSteps := 1000000) only [bl, gp, gw, gm, List.drop_length, go_sem, setCells, setIn, runW_step]
  refine ⟨_, _, _, call_rx_at [0] [132097] Tryz.func8 (rIi) rfl rfl rfl rfl rfl rfl rfl (fun st1 hst1 => by (try simp only [List.mem_cons,List.not_mem_nil,or_false,false_or,forall_eq_or_imp,forall_eq] at hst1); simp [lendAll,lendC,seek,fresh,nav,rcells,RT.cells,VV.cells,tabE_cons,tabS_cons,ev,take_map_len,hst1,sRow_r1,sRow_comp,sRow_clean,nRow_r1,nRow_comp,nRow_clean,bRow_r1,bRow_clean,iRow_r1,iRow_clean,bl]) rfl (by simp [rcells,RT.cells,CT.clean,T.clean,sRow_r1,sRow_comp,sRow_clean,nRow_r1,nRow_comp,nRow_clean,bRow_r1,bRow_clean,iRow_r1,iRow_clean,bl]) rfl rfl, ?_⟩
  (unfold runX; simp (maxSteps := 1000000) only [bl, gp, gw, gm, List.drop_length, go_sem, setCells, setIn, runW_step])
  refine ⟨_, _, _, call_rx_at [0] [198657] Tryz.func9 (rCi) rfl rfl rfl rfl rfl rfl rfl (fun st1 hst1 => by (try simp only [List.mem_cons,List.not_mem_nil,or_false,false_or,forall_eq_or_imp,forall_eq] at hst1); simp [lendAll,lendC,seek,fresh,nav,rcells,RT.cells,VV.cells,tabE_cons,tabS_cons,ev,take_map_len,hst1,sRow_r1,sRow_comp,sRow_clean,nRow_r1,nRow_comp,nRow_clean,bRow_r1,bRow_clean,iRow_r1,iRow_clean,gp,gw,gm]) rfl (by simp [rcells,RT.cells,CT.clean,T.clean,sRow_r1,sRow_comp,sRow_clean,nRow_r1,nRow_comp,nRow_clean,bRow_r1,bRow_clean,iRow_r1,iRow_clean,gp,gw,gm]) rfl rfl, ?_⟩
  (unfold runX; simp (maxSteps := 1000000) only [bl, gp, gw, gm, List.drop_length, go_sem, setCells, setIn, runW_step])
  refine ⟨_, _, _, call_rx_at [0] [] Tryz.func10 (rKi) rfl rfl rfl rfl rfl rfl rfl (fun st1 hst1 => by (try simp only [List.mem_cons,List.not_mem_nil,or_false,false_or,forall_eq_or_imp,forall_eq] at hst1); simp [lendAll,lendC,seek,fresh,nav,rcells,RT.cells,VV.cells,tabE_cons,tabS_cons,ev,take_map_len,hst1,sRow_r1,sRow_comp,sRow_clean,nRow_r1,nRow_comp,nRow_clean,bRow_r1,bRow_clean,iRow_r1,iRow_clean]) rfl (by simp [rcells,RT.cells,CT.clean,T.clean,sRow_r1,sRow_comp,sRow_clean,nRow_r1,nRow_comp,nRow_clean,bRow_r1,bRow_clean,iRow_r1,iRow_clean]) rfl rfl, ?_⟩
  (unfold runX; simp (maxSteps := 1000000) only [bl, gp, gw, gm, List.drop_length, go_sem, setCells, setIn, runW_step])
  refine ⟨by subst hAA; unfold allOk; kernel_rfl, ?_⟩
  refine vw_join (α := Unit) (fun z => ⟨tabE [(0, .c (.list false 1 (L.map bRow))), (4, .ptr 1 [] 0 0 0), (7, .c (.str cs))],
    tabS [(1, some ⟨true, 4, [[.list true 1 (f.pages.map sRow), .list true 1 (f.wear.map nRow), .list true 1 (f.map.map nRow), .int .i64 f.seq]], [[(0, 0)], [(0, 1)], [(0, 2)]]⟩)], 3⟩) (fun z => True) ?_ ?_
  · (refine vw_go rfl ?_; simp only [bl,gp,gw,gm,go_sem,setCells,setIn])
    refine ⟨_, _, call_rx [0] Tryz.func11 (rIs) rfl rfl rfl rfl rfl rfl rfl (by simp [lendAll,lendC,seek,fresh,nav,rcells,RT.cells,VV.cells,tabE_cons,tabS_cons,ev,take_map_len,sRow_r1,sRow_comp,sRow_clean,nRow_r1,nRow_comp,nRow_clean,bRow_r1,bRow_clean,iRow_r1,iRow_clean,bl]) rfl (by simp [rcells,RT.cells,CT.clean,T.clean,sRow_r1,sRow_comp,sRow_clean,nRow_r1,nRow_comp,nRow_clean,bRow_r1,bRow_clean,iRow_r1,iRow_clean,bl]) rfl rfl, ?_⟩
    (unfold runH; simp (maxSteps := 1000000) only [bl, gp, gw, gm, eq_self, decide_true, go_sem, setCells, setIn])
    refine ⟨_, _, call_rx [0] Tryz.func12 (rCs) rfl rfl rfl rfl rfl rfl rfl (by simp [lendAll,lendC,seek,fresh,nav,rcells,RT.cells,VV.cells,tabE_cons,tabS_cons,ev,take_map_len,sRow_r1,sRow_comp,sRow_clean,nRow_r1,nRow_comp,nRow_clean,bRow_r1,bRow_clean,iRow_r1,iRow_clean,gp,gw,gm]) rfl (by simp [rcells,RT.cells,CT.clean,T.clean,sRow_r1,sRow_comp,sRow_clean,nRow_r1,nRow_comp,nRow_clean,bRow_r1,bRow_clean,iRow_r1,iRow_clean,gp,gw,gm]) rfl rfl, ?_⟩
    (unfold runH; simp (maxSteps := 1000000) only [bl, gp, gw, gm, eq_self, decide_true, go_sem, setCells, setIn])
    refine ⟨_, _, call_rx [0] Tryz.func13 (rKs) rfl rfl rfl rfl rfl rfl rfl (by simp [lendAll,lendC,seek,fresh,nav,rcells,RT.cells,VV.cells,tabE_cons,tabS_cons,ev,take_map_len,sRow_r1,sRow_comp,sRow_clean,nRow_r1,nRow_comp,nRow_clean,bRow_r1,bRow_clean,iRow_r1,iRow_clean]) rfl (by simp [rcells,RT.cells,CT.clean,T.clean,sRow_r1,sRow_comp,sRow_clean,nRow_r1,nRow_comp,nRow_clean,bRow_r1,bRow_clean,iRow_r1,iRow_clean]) rfl rfl, ?_⟩
    simp only [runH,runX,bl,gp,gw,gm,eq_self,decide_true,go_sem,setCells,setIn]
    refine vw_cond (t := false) rfl (fun h => nomatch h) (fun _ => ?_)
    refine vw_skip (n_then ⟨(), ?_⟩)
    refine norm_to [(198657, 1)] rfl ?_ ?_ <;> simp only [go_sem]
  intro z _
  refine vw_go rfl ?_; simp only [go_sem,setCells,setIn]
  refine ⟨_, _, call_rx [0] Tryz.func14 (rD4) rfl rfl rfl rfl rfl rfl rfl (by simp [lendAll,lendC,seek,fresh,nav,rcells,RT.cells,VV.cells,tabE_cons,tabS_cons,ev,take_map_len,sRow_r1,sRow_comp,sRow_clean,nRow_r1,nRow_comp,nRow_clean,bRow_r1,bRow_clean,iRow_r1,iRow_clean]) rfl (by simp [rcells,RT.cells,CT.clean,T.clean,sRow_r1,sRow_comp,sRow_clean,nRow_r1,nRow_comp,nRow_clean,bRow_r1,bRow_clean,iRow_r1,iRow_clean]) rfl rfl, ?_⟩
  simp only [runH,runX,go_sem,setCells,setIn]
  refine vw_go rfl ?_; simp only [go_sem,setCells,setIn]
  refine ⟨_, _, call_rd [0] Tryz.func15 (rOi) rfl rfl rfl rfl rfl rfl rfl rfl rfl rfl rfl rfl rfl, ?_⟩
  simp only [runH,runX,go_sem,setCells,setIn]
  refine vw_go rfl ?_; simp only [go_sem,setCells,setIn]
  refine ⟨_, _, call_rd [0] Tryz.func16 (rOs) rfl rfl rfl rfl rfl rfl rfl rfl rfl rfl rfl rfl rfl, ?_⟩
  simp only [runH,runX,go_sem,setCells,setIn]
  refine vw_join (α := Unit) (fun z => ⟨tabE [(4, .ptr 1 [] 0 0 0), (7, .c (.str cs)), (10, .ptr 2 [] 0 0 0), (11, .c (.bool ok))],
    tabS [(1, some ⟨true, 4, [[.list true 1 (f.pages.map sRow), .list true 1 (f.wear.map nRow), .list true 1 (f.map.map nRow), .int .i64 f.seq]], [[(0, 0)], [(0, 1)], [(0, 2)]]⟩), (2, some ⟨true, 4, [[.int .i64 o.kind, .str o.path, .str o.to, .str o.data]], []⟩)], 3⟩) (fun z => True) ?_ ?_
  · cases ok
    · (refine vw_go rfl ?_; simp only [eq_self,decide_true,go_sem,setCells,setIn])
      refine vw_cond (t := false) rfl (fun h => nomatch h) (fun _ => ?_)
      refine vw_skip (n_then ⟨(), ?_⟩)
      refine norm_to [(1, 1), (70659, 2)] rfl ?_ ?_ <;> simp only [go_sem]
    · (refine vw_go rfl ?_; simp only [eq_self,decide_true,go_sem,setCells,setIn])
      refine vw_cond (t := false) rfl (fun h => nomatch h) (fun _ => ?_)
      refine vw_skip (n_then ⟨(), ?_⟩)
      refine norm_to [(1, 1), (70659, 2)] rfl ?_ ?_ <;> simp only [go_sem]
  intro z2 _
  refine vw_go rfl ?_; simp only [go_sem,setCells,setIn]
  refine vw_seq ?_
  refine vw_go rfl ?_; simp only [go_sem,setCells,setIn]
  refine vw_block ?_
  refine vw_loop_tab (α := Nat) (fun x => cs.size - x) (fun x => ⟨tabE [(4, .ptr 1 [] 0 0 0), (7, .c (.str cs)), (10, .ptr 2 [] 0 0 0), (11, .c (.bool ok)), (14, .c (.int .i64 (cntL (cs.data.toList.take x) : Nat))), (15, .c (.int .i64 x))],
    tabS [(1, some ⟨true, 4, [[.list true 1 (f.pages.map sRow), .list true 1 (f.wear.map nRow), .list true 1 (f.map.map nRow), .int .i64 f.seq]], [[(0, 0)], [(0, 1)], [(0, 2)]]⟩), (2, some ⟨true, 4, [[.int .i64 o.kind, .str o.path, .str o.to, .str o.data]], []⟩)], 3⟩)
    (fun x => x ≤ cs.size) (x := 0) ?round ?h0 ?hn
  case h0 => exact Nat.zero_le _
  case hn =>
    refine norm_to [(1, 1), (2, 2)] rfl ?_ ?_ <;> simp only [go_sem]
    · rfl
  rintro i hi
  refine vw_seq ?_
  by_cases hd : (i : Int) < cs.size
  case pos =>
    rcases get_or cs.data.toList i with ⟨b, hx, hlt⟩ | ⟨_, hge⟩
    case inr => rw [bs_len] at hge; omega
    have g := getD_of (d := 0) hx
    have c1 : (0:Int) ≤ (i : Int) := by omega
    have w3 : IntKind.wrap .i64 ((i:Int) + 1) = ((i + 1 : Nat) : Int) := by rw [wrap_i64 (by omega) (by omega)]; rfl
    have hct := cnt_take hx
    have hcl := cnt_le (cs.data.toList.take i)
    rw [List.length_take] at hcl
    generalize cntL (cs.data.toList.take i) = n at hct hcl
    refine vw_go rfl ?_; simp only [hd,go_sem,setCells,setIn]
    refine vw_cond (t := true) rfl (fun _ => ?_) (fun h => nomatch h)
    refine vw_skip (n_then ?_)
    refine vw_seq ?_
    refine vw_block ?_
    by_cases hb : b = 111
    · rw [if_pos hb] at hct
      have hb' : ((b.toNat : Int) = 111) = True := eq_true ((b_iff b 111 (by decide)).2 hb)
      have w1 : IntKind.wrap .i64 ((n:Int) + 1) = ((n + 1 : Nat) : Int) := by rw [wrap_i64 (by omega) (by omega)]; rfl
      refine vw_go rfl ?_; simp only [c1,hd,Int.toNat_natCast,g,hb',go_sem,setCells,setIn]
      refine vw_cond (t := true) rfl (fun _ => ?_) (fun h => nomatch h)
      refine vw_last rfl ?_; simp only [w1,go_sem,setCells,setIn]
      refine (n_block (n_then ?_))
      refine vw_last rfl ?_; simp only [w3,go_sem,setCells,setIn]
      refine (n_then ?_)
      refine ⟨i + 1, by omega, by omega, ?_⟩
      rw [hct]
      refine norm_to [(1, 1), (2, 2)] rfl ?_ ?_ <;> simp only [go_sem]
    · rw [if_neg hb] at hct
      have hb' : ((b.toNat : Int) = 111) = False := eq_false (fun h => hb ((b_iff b 111 (by decide)).1 h))
      refine vw_go rfl ?_; simp only [c1,hd,Int.toNat_natCast,g,hb',go_sem,setCells,setIn]
      refine vw_cond (t := false) rfl (fun h => nomatch h) (fun _ => ?_)
      refine vw_skip (n_block (n_then ?_))
      refine vw_last rfl ?_; simp only [w3,go_sem,setCells,setIn]
      refine (n_then ?_)
      refine ⟨i + 1, by omega, by omega, ?_⟩
      rw [hct]
      refine norm_to [(1, 1), (2, 2)] rfl ?_ ?_ <;> simp only [go_sem]
  obtain rfl : i = cs.size := by omega
  rw [List.take_of_length_le (by rw [bs_len]; exact Nat.le_refl _)]
  generalize hN : cntL cs.data.toList = N at hshow
  refine vw_go rfl ?_; simp only [hd,go_sem,setCells,setIn]
  refine vw_cond (t := false) rfl (fun h => nomatch h) (fun _ => ?_)
  refine vw_exit (x_then (x_then (x_block (n_then ?_))))
  refine vw_go rfl ?_; simp only [go_sem,setCells,setIn]
  refine vw_seq ?_
  refine vw_go rfl ?_; simp only [go_sem,setCells,setIn]
  refine vw_block ?_
  refine vw_loop_tab (α := Nat) (fun x => f.map.length - x) (fun x => ⟨tabE [(4, .ptr 1 [] 0 0 0), (7, .c (.str cs)), (10, .ptr 2 [] 0 0 0), (11, .c (.bool ok)), (14, .c (.int .i64 (N : Nat))), (16, .c (.int .i64 ((f.map.take x).countP (fun x => decide (0 ≤ x)) : Nat))), (17, .c (.int .i64 x))],
    tabS [(1, some ⟨true, 4, [[.list true 1 (f.pages.map sRow), .list true 1 (f.wear.map nRow), .list true 1 (f.map.map nRow), .int .i64 f.seq]], [[(0, 0)], [(0, 1)], [(0, 2)]]⟩), (2, some ⟨true, 4, [[.int .i64 o.kind, .str o.path, .str o.to, .str o.data]], []⟩)], 3⟩)
    (fun x => x ≤ f.map.length ∧ (cs = ⟨#[]⟩ → x = 0)) (x := 0) ?round2 ?h02 ?hn2
  case h02 => exact ⟨Nat.zero_le _, fun _ => rfl⟩
  case hn2 =>
    refine norm_to [(1, 1), (2, 2)] rfl ?_ ?_ <;> simp only [go_sem]
    · rfl
  rintro j ⟨hj, hj0⟩
  refine vw_seq ?_
  by_cases hE : cs = ⟨#[]⟩
  · have q1 : decide (cs = ⟨#[]⟩) = true := decide_eq_true hE
    have hN0 : N = 0 := by
      rcases hshow with h | h
      · exact h.2
      · exact absurd hE h.1
    obtain rfl : j = 0 := hj0 hE
    subst hN0
    rw [List.take_zero, List.countP_nil]
    by_cases hd2 : (0 : Int) < f.map.length
    · (refine vw_go rfl ?_; simp only [hd2,gm,q1,go_sem,setCells,setIn])
      refine vw_cond (t := false) rfl (fun h => nomatch h) (fun _ => ?_)
      refine vw_exit (x_then (x_then (x_block (n_then ?_))))
      rcases hop with ⟨h1, h2, h3⟩ | ⟨h1, h2⟩
      · subst h1
        have rP := runs_17 o.path (by omega)
        rw [h2] at rP
        refine vw_go rfl ?_; simp only [q1,h3,eq_self,decide_true,go_sem,setCells,setIn]
        refine ⟨_, _, call_rd [0] Tryz.func17 (rP) rfl rfl rfl rfl rfl rfl rfl rfl rfl rfl rfl rfl rfl, ?_⟩
        simp only [runH,runX,q1,h3,eq_self,decide_true,go_sem,setCells,setIn]
        exact vw_ret (e_ret (ret_by rfl rfl (by simp [RB]) rfl (by simp only [takeCs,takeC,go_sem,setCells,setIn])))
      · subst h1
        obtain rfl : o = ⟨0, ⟨#[]⟩, ⟨#[]⟩, ⟨#[]⟩⟩ := h2
        refine vw_go rfl ?_; simp only [q1,eq_self,decide_true,go_sem,setCells,setIn]
        exact vw_ret (e_ret (ret_by rfl rfl (by simp [RB]) rfl (by simp only [takeCs,takeC,go_sem,setCells,setIn])))
    · (refine vw_go rfl ?_; simp only [hd2,gm,q1,go_sem,setCells,setIn])
      refine vw_cond (t := false) rfl (fun h => nomatch h) (fun _ => ?_)
      refine vw_exit (x_then (x_then (x_block (n_then ?_))))
      rcases hop with ⟨h1, h2, h3⟩ | ⟨h1, h2⟩
      · subst h1
        have rP := runs_17 o.path (by omega)
        rw [h2] at rP
        refine vw_go rfl ?_; simp only [q1,h3,eq_self,decide_true,go_sem,setCells,setIn]
        refine ⟨_, _, call_rd [0] Tryz.func17 (rP) rfl rfl rfl rfl rfl rfl rfl rfl rfl rfl rfl rfl rfl, ?_⟩
        simp only [runH,runX,q1,h3,eq_self,decide_true,go_sem,setCells,setIn]
        exact vw_ret (e_ret (ret_by rfl rfl (by simp [RB]) rfl (by simp only [takeCs,takeC,go_sem,setCells,setIn])))
      · subst h1
        obtain rfl : o = ⟨0, ⟨#[]⟩, ⟨#[]⟩, ⟨#[]⟩⟩ := h2
        refine vw_go rfl ?_; simp only [q1,eq_self,decide_true,go_sem,setCells,setIn]
        exact vw_ret (e_ret (ret_by rfl rfl (by simp [RB]) rfl (by simp only [takeCs,takeC,go_sem,setCells,setIn])))
  have q1 : decide (cs = ⟨#[]⟩) = false := decide_eq_false hE
  obtain ⟨hsz, hNM⟩ : cs.size = 69 ∧ N = f.map.countP (fun x => decide (0 ≤ x)) := by
    rcases hshow with h | h
    · exact absurd h.1 hE
    · exact h.2
  by_cases hd2 : (j : Int) < f.map.length
  case neg =>
    obtain rfl : j = f.map.length := by omega
    rw [List.take_length, ← hNM]
    have q2 : (cs.size : Int) = 69 := by omega
    refine vw_go rfl ?_; simp only [hd2,gm,q1,go_sem,setCells,setIn]
    refine vw_cond (t := false) rfl (fun h => nomatch h) (fun _ => ?_)
    refine vw_exit (x_then (x_then (x_block (n_then ?_))))
    rcases hop with ⟨h1, h2, h3⟩ | ⟨h1, h2⟩
    · subst h1
      have rP := runs_17 o.path (by omega)
      rw [h2] at rP
      refine vw_go rfl ?_; simp only [q1,q2,h3,eq_self,decide_true,go_sem,setCells,setIn]
      refine ⟨_, _, call_rd [0] Tryz.func17 (rP) rfl rfl rfl rfl rfl rfl rfl rfl rfl rfl rfl rfl rfl, ?_⟩
      simp only [runH,runX,q1,q2,h3,eq_self,decide_true,go_sem,setCells,setIn]
      exact vw_ret (e_ret (ret_by rfl rfl (by simp [RB]) rfl (by simp only [takeCs,takeC,go_sem,setCells,setIn])))
    · subst h1
      obtain rfl : o = ⟨0, ⟨#[]⟩, ⟨#[]⟩, ⟨#[]⟩⟩ := h2
      refine vw_go rfl ?_; simp only [q1,q2,eq_self,decide_true,go_sem,setCells,setIn]
      exact vw_ret (e_ret (ret_by rfl rfl (by simp [RB]) rfl (by simp only [takeCs,takeC,go_sem,setCells,setIn])))
  obtain ⟨x, hx⟩ : ∃ x, f.map[j]? = some x := ⟨_, List.getElem?_eq_getElem (by omega)⟩
  have c1 : (0:Int) ≤ (j : Int) := by omega
  have d1 : j < f.map.length := by omega
  have w3 : IntKind.wrap .i64 ((j:Int) + 1) = ((j + 1 : Nat) : Int) := by rw [wrap_i64 (by omega) (by omega)]; rfl
  have hct := nn_take hx
  have hcl : (f.map.take j).countP (fun x => decide (0 ≤ x)) ≤ (f.map.take j).length := List.countP_le_length
  rw [List.length_take] at hcl
  generalize (f.map.take j).countP (fun x => decide (0 ≤ x)) = n at hct hcl
  refine vw_go rfl ?_; simp only [hd2,gm,q1,go_sem,setCells,setIn]
  refine vw_cond (t := true) rfl (fun _ => ?_) (fun h => nomatch h)
  refine vw_skip (n_then ?_)
  refine vw_seq ?_
  refine vw_block ?_
  by_cases hb : 0 ≤ x
  · rw [if_pos hb] at hct
    have w1 : IntKind.wrap .i64 ((n:Int) + 1) = ((n + 1 : Nat) : Int) := by rw [wrap_i64 (by omega) (by omega)]; rfl
    refine vw_go rfl ?_; simp only [c1,hd2,d1,Int.toNat_natCast,getD_map_of hx,nRow,hb,gm,go_sem,setCells,setIn]
    refine vw_cond (t := true) rfl (fun _ => ?_) (fun h => nomatch h)
    refine vw_last rfl ?_; simp only [w1,go_sem,setCells,setIn]
    refine (n_block (n_then ?_))
    refine vw_last rfl ?_; simp only [w3,go_sem,setCells,setIn]
    refine (n_then ?_)
    refine ⟨j + 1, by omega, ⟨by omega, fun h => absurd h hE⟩, ?_⟩
    rw [hct]
    refine norm_to [(1, 1), (2, 2)] rfl ?_ ?_ <;> simp only [go_sem]
  · rw [if_neg hb] at hct
    refine vw_go rfl ?_; simp only [c1,hd2,d1,Int.toNat_natCast,getD_map_of hx,nRow,hb,gm,go_sem,setCells,setIn]
    refine vw_cond (t := false) rfl (fun h => nomatch h) (fun _ => ?_)
    refine vw_skip (n_block (n_then ?_))
    refine vw_last rfl ?_; simp only [w3,go_sem,setCells,setIn]
    refine (n_then ?_)
    refine ⟨j + 1, by omega, ⟨by omega, fun h => absurd h hE⟩, ?_⟩
    rw [hct]
    refine norm_to [(1, 1), (2, 2)] rfl ?_ ?_ <;> simp only [go_sem]
end Go.Proofs.YtkijdbljnefeaaaGreatDoor
