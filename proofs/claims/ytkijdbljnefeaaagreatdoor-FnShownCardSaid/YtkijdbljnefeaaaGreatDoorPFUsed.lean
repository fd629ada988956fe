/- What is asked of a volume, of the reference: moves; Ask and Change whole. What is asked of a volume, of the reference: Ask and Change whole. Volumes: how many nodes are used, a free one, a new volume; of both. -/
import Derived.Test.YtkijdbljnefeaaaGreatDoorPFDone
import Derived.Test.YtkijdbljnefeaaaGreatDoorPFItem
import Derived.Test.YtkijdbljnefeaaaGreatDoorPFNodeI
set_option linter.unusedSimpArgs false
set_option linter.unusedVariables false
namespace Go.Proofs.YtkijdbljnefeaaaGreatDoor
open Go.VM Go
set_option maxRecDepth 100000
attribute [-go_sem] runW_cons
attribute [local congr] vw_congr runV_congr runH_congr runW_congr runX_congr stuckV_congr stuckX_congr
def moveF (l : List ByteArray) (o : OpV) (at_ : Nat) : Told3 :=
  if o.path = ⟨#[]⟩ ∨ underB o.to o.path = true then none3 6
  else if 0 ≤ walkG l (namesZ o.to) 0 then none3 3
  else if (folderF l o.to).2.2.2 ≠ 0 then none3 (folderF l o.to).2.2.2
  else if 4 < ((namesZ o.to).length : Int) + highG l 5 at_ then none3 5
  else if (folderF l o.path).1 = (folderF l o.to).1 then (0, ⟨#[]⟩, [putF (folderF l o.to).1 (kidPutF (kidDropF (folderF l o.path).2.1 (folderF l o.path).2.2.1) (folderF l o.to).2.2.1 at_)])
  else (0, ⟨#[]⟩, sortF (putF (folderF l o.to).1 (kidPutF (folderF l o.to).2.1 (folderF l o.to).2.2.1 at_)) (putF (folderF l o.path).1 (kidDropF (folderF l o.path).2.1 (folderF l o.path).2.2.1)))
set_option maxHeartbeats 2000000 in
theorem runs_122 (l : List ByteArray) (hl : l.length = 12) (hsz : ∀ s ∈ l, s.size ≤ 2 ^ 20) (o : OpV) (hp : o.path.size ≤ 2 ^ 20) (ht : o.to.size ≤ 2 ^ 20) (at_ : Nat) (hat : at_ < 12) (hd : deepOk l 5 at_) (R : Told3) (hR : R = moveF l o at_) :
    Runs Tryz.prog 122 [.one (.v (.list false 1 (l.map sRow))), .agg [.v (.int .i64 o.kind), .v (.str o.path), .v (.str o.to), .v (.str o.data)], .one (.v (.int .i64 at_))] [.one (.v (.int .i64 R.1)), .one (.v (.str R.2.1)), .one (.v (.list true 2 (R.2.2.map putRow)))] [] := by
  refine runs_tab (tab := [(0, .c (.list false 1 (l.map sRow))), (1, .agg [.c (.int .i64 o.kind), .c (.str o.path), .c (.str o.to), .c (.str o.data)]), (2, .c (.int .i64 at_))]) (rts := []) (n := 104) (k := 6) Tryz.func122 rfl rfl (by simp) rfl (fun t => ?_) rfl ?_
  · rcases t with _ | _ | _ | t <;> rfl
  unfold moveF none3 putF at hR
  have rU := runs_153 o.to o.path ht hp
  have rW := runs_120 l hl hsz o.to ht
  have rF := runs_147 l hl hsz o.to ht _ rfl
  have rG := runs_147 l hl hsz o.path hp _ rfl
  have rN := runs_80 o.to ht
  have hle := namesZ_le o.to
  have rH := runs_154 l hl hsz 5 at_ hat hd (by decide)
  have hh := highG_in l 5 at_
  obtain ⟨f1, f2, f3⟩ := folderF_fit l o.to
  obtain ⟨g1, g2, g3⟩ := folderF_fit l o.path
  generalize underB o.to o.path = ub at rU hR
  generalize walkG l (namesZ o.to) 0 = w at rW hR
  generalize folderF l o.to = F at rF f1 f2 f3 hR
  generalize folderF l o.path = G at rG g1 g2 g3 hR
  generalize namesZ o.to = st at rN hle hR
  generalize highG l 5 at_ = hi at rH hh hR
  obtain ⟨k, n, nm, code⟩ := F
  obtain ⟨j, q, old, code2⟩ := G
  simp only at rF f1 f2 f3 rG g1 g2 g3 hR
  have bn : List.take n.names.length (n.names.map sRow) = n.names.map sRow := List.take_of_length_le (by simp)
  have bk : List.take n.kids.length (n.kids.map nRow) = n.kids.map nRow := List.take_of_length_le (by simp)
  have bq : List.take q.names.length (q.names.map sRow) = q.names.map sRow := List.take_of_length_le (by simp)
  have br : List.take q.kids.length (q.kids.map nRow) = q.kids.map nRow := List.take_of_length_le (by simp)
  have bs : List.take st.length (st.map sRow) = st.map sRow := List.take_of_length_le (by simp)
  have w5 : IntKind.wrap .i64 ((st.length : Int) + hi) = (st.length : Int) + hi := wrap_i64 (by omega) (by omega)
  refine vw_go rfl ?_; simp only [go_sem,setCells,setIn]
  refine vw_seq ?_
  refine vw_block ?_
  by_cases hz : o.path = ⟨#[]⟩
  · rw [if_pos (.inl hz)] at hR
    subst hR
    have hz' : decide (o.path = ⟨#[]⟩) = true := by simp [hz]
    refine vw_go rfl ?_; simp only [hz',go_sem,setCells,setIn]
    refine vw_cond (t := true) rfl (fun _ => ?_) (fun h => nomatch h)
    refine vw_go rfl ?_; simp only [go_sem,setCells,setIn]
    refine ⟨_, _, call_rx [0] Tryz.func118 (runs_118 6) rfl rfl rfl rfl rfl rfl rfl (by simp [lendAll,lendC,seek,fresh,nav,rcells,RT.cells,VV.cells,tabE_cons,tabS_cons,ev,take_map_len,lit,cleanRs]) rfl (by simp [rcells,RT.cells,CT.clean,T.clean,lit,cleanRs]) rfl rfl, ?_⟩
    simp only [runH,runX,go_sem,setCells,setIn]
    exact vw_ret (r_block (r_then (e_ret (ret_by rfl rfl (by simp [RB]) rfl (by simp only [takeCs,takeC,go_sem,setCells,setIn])))))
  have hz' : decide (o.path = ⟨#[]⟩) = false := by simp [hz]
  refine vw_go rfl ?_; simp only [hz',go_sem,setCells,setIn]
  refine ⟨_, _, call_rx [0, 0] Tryz.func153 (rU) rfl rfl rfl rfl rfl rfl rfl (by simp [lendAll,lendC,seek,fresh,nav,rcells,RT.cells,VV.cells,tabE_cons,tabS_cons,ev,take_map_len,sRow_r1,sRow_comp,sRow_clean,nRow_r1,nRow_comp,nRow_clean,putRow_clean]) rfl (by simp [rcells,RT.cells,CT.clean,T.clean,sRow_r1,sRow_comp,sRow_clean,nRow_r1,nRow_comp,nRow_clean,putRow_clean]) rfl rfl, ?_⟩
  cases ub
  case true =>
    rw [if_pos (.inr rfl)] at hR
    subst hR
    simp only [runH,runX,go_sem,setCells,setIn]
    refine vw_cond (t := true) rfl (fun _ => ?_) (fun h => nomatch h)
    refine vw_go rfl ?_; simp only [go_sem,setCells,setIn]
    refine ⟨_, _, call_rx [0] Tryz.func118 (runs_118 6) rfl rfl rfl rfl rfl rfl rfl (by simp [lendAll,lendC,seek,fresh,nav,rcells,RT.cells,VV.cells,tabE_cons,tabS_cons,ev,take_map_len,lit,cleanRs]) rfl (by simp [rcells,RT.cells,CT.clean,T.clean,lit,cleanRs]) rfl rfl, ?_⟩
    simp only [runH,runX,go_sem,setCells,setIn]
    exact vw_ret (r_block (r_then (e_ret (ret_by rfl rfl (by simp [RB]) rfl (by simp only [takeCs,takeC,go_sem,setCells,setIn])))))
  rw [if_neg (by rintro (h | h); exact hz h; cases h)] at hR
  simp only [runH,runX,go_sem,setCells,setIn]
  refine vw_cond (t := false) rfl (fun h => nomatch h) (fun _ => ?_)
  refine vw_go rfl ?_; simp only [go_sem,setCells,setIn]
  refine ⟨_, _, call_rx [0, 0] Tryz.func120 (rW) rfl rfl rfl rfl rfl rfl rfl (by simp [lendAll,lendC,seek,fresh,nav,rcells,RT.cells,VV.cells,tabE_cons,tabS_cons,ev,take_map_len,sRow_r1,sRow_comp,sRow_clean,nRow_r1,nRow_comp,nRow_clean,putRow_clean]) rfl (by simp [rcells,RT.cells,CT.clean,T.clean,sRow_r1,sRow_comp,sRow_clean,nRow_r1,nRow_comp,nRow_clean,putRow_clean]) rfl rfl, ?_⟩
  by_cases h0 : 0 ≤ w
  · rw [if_pos h0] at hR
    subst hR
    simp only [runH,runX,h0,go_sem,setCells,setIn]
    refine vw_cond (t := true) rfl (fun _ => ?_) (fun h => nomatch h)
    refine vw_go rfl ?_; simp only [go_sem,setCells,setIn]
    refine ⟨_, _, call_rx [0] Tryz.func118 (runs_118 3) rfl rfl rfl rfl rfl rfl rfl (by simp [lendAll,lendC,seek,fresh,nav,rcells,RT.cells,VV.cells,tabE_cons,tabS_cons,ev,take_map_len,lit,cleanRs]) rfl (by simp [rcells,RT.cells,CT.clean,T.clean,lit,cleanRs]) rfl rfl, ?_⟩
    simp only [runH,runX,go_sem,setCells,setIn]
    exact vw_ret (r_block (r_then (e_ret (ret_by rfl rfl (by simp [RB]) rfl (by simp only [takeCs,takeC,go_sem,setCells,setIn])))))
  rw [if_neg h0] at hR
  simp only [runH,runX,h0,go_sem,setCells,setIn]
  refine vw_cond (t := false) rfl (fun h => nomatch h) (fun _ => ?_)
  refine vw_skip (n_block (n_then ?_))
  refine vw_go rfl ?_; simp only [go_sem,setCells,setIn]
  refine ⟨_, _, call_rx [0, 0] Tryz.func147 (rF) rfl rfl rfl rfl rfl rfl rfl (by simp [lendAll,lendC,seek,fresh,nav,rcells,RT.cells,VV.cells,tabE_cons,tabS_cons,ev,take_map_len,sRow_r1,sRow_comp,sRow_clean,nRow_r1,nRow_comp,nRow_clean,putRow_clean]) rfl (by simp [rcells,RT.cells,CT.clean,T.clean,sRow_r1,sRow_comp,sRow_clean,nRow_r1,nRow_comp,nRow_clean,putRow_clean]) rfl rfl, ?_⟩
  simp only [runH,runX,bn,bk,go_sem,setCells,setIn]
  refine vw_seq ?_
  by_cases h1 : code = 0
  case neg =>
    rw [if_pos h1] at hR
    subst hR
    refine vw_go rfl ?_; simp only [h1,go_sem,setCells,setIn]
    refine vw_cond (t := true) rfl (fun _ => ?_) (fun h => nomatch h)
    refine vw_go rfl ?_; simp only [go_sem,setCells,setIn]
    refine ⟨_, _, call_rx [0] Tryz.func118 (runs_118 code) rfl rfl rfl rfl rfl rfl rfl (by simp [lendAll,lendC,seek,fresh,nav,rcells,RT.cells,VV.cells,tabE_cons,tabS_cons,ev,take_map_len,lit,cleanRs]) rfl (by simp [rcells,RT.cells,CT.clean,T.clean,lit,cleanRs]) rfl rfl, ?_⟩
    simp only [runH,runX,go_sem,setCells,setIn]
    exact vw_ret (r_then (e_ret (ret_by rfl rfl (by simp [RB]) rfl (by simp only [takeCs,takeC,go_sem,setCells,setIn]))))
  rw [if_neg (fun h => h h1)] at hR
  refine vw_go rfl ?_; simp only [h1,go_sem,setCells,setIn]
  refine vw_cond (t := false) rfl (fun h => nomatch h) (fun _ => ?_)
  refine vw_skip (n_then ?_)
  refine vw_seq ?_
  refine vw_go rfl ?_; simp only [go_sem,setCells,setIn]
  refine ⟨_, _, call_rx [0] Tryz.func80 (rN) rfl rfl rfl rfl rfl rfl rfl (by simp [lendAll,lendC,seek,fresh,nav,rcells,RT.cells,VV.cells,tabE_cons,tabS_cons,ev,take_map_len,sRow_r1,sRow_comp,sRow_clean,nRow_r1,nRow_comp,nRow_clean,putRow_clean]) rfl (by simp [rcells,RT.cells,CT.clean,T.clean,sRow_r1,sRow_comp,sRow_clean,nRow_r1,nRow_comp,nRow_clean,putRow_clean]) rfl rfl, ?_⟩
  simp only [runH,runX,bs,go_sem,setCells,setIn]
  refine ⟨_, _, call_rx [0, 0] Tryz.func154 (rH) rfl rfl rfl rfl rfl rfl rfl (by simp [lendAll,lendC,seek,fresh,nav,rcells,RT.cells,VV.cells,tabE_cons,tabS_cons,ev,take_map_len,sRow_r1,sRow_comp,sRow_clean,nRow_r1,nRow_comp,nRow_clean,putRow_clean]) rfl (by simp [rcells,RT.cells,CT.clean,T.clean,sRow_r1,sRow_comp,sRow_clean,nRow_r1,nRow_comp,nRow_clean,putRow_clean]) rfl rfl, ?_⟩
  by_cases h2 : 4 < (st.length : Int) + hi
  · rw [if_pos h2] at hR
    subst hR
    simp only [runH,runX,w5,h2,go_sem,setCells,setIn]
    refine vw_cond (t := true) rfl (fun _ => ?_) (fun h => nomatch h)
    refine vw_go rfl ?_; simp only [go_sem,setCells,setIn]
    refine ⟨_, _, call_rx [0] Tryz.func118 (runs_118 5) rfl rfl rfl rfl rfl rfl rfl (by simp [lendAll,lendC,seek,fresh,nav,rcells,RT.cells,VV.cells,tabE_cons,tabS_cons,ev,take_map_len,lit,cleanRs]) rfl (by simp [rcells,RT.cells,CT.clean,T.clean,lit,cleanRs]) rfl rfl, ?_⟩
    simp only [runH,runX,go_sem,setCells,setIn]
    exact vw_ret (r_then (e_ret (ret_by rfl rfl (by simp [RB]) rfl (by simp only [takeCs,takeC,go_sem,setCells,setIn]))))
  rw [if_neg h2] at hR
  simp only [runH,runX,w5,h2,go_sem,setCells,setIn]
  refine vw_cond (t := false) rfl (fun h => nomatch h) (fun _ => ?_)
  refine vw_skip (n_then ?_)
  refine vw_go rfl ?_; simp only [go_sem,setCells,setIn]
  refine ⟨_, _, call_rx [0, 0] Tryz.func147 (rG) rfl rfl rfl rfl rfl rfl rfl (by simp [lendAll,lendC,seek,fresh,nav,rcells,RT.cells,VV.cells,tabE_cons,tabS_cons,ev,take_map_len,sRow_r1,sRow_comp,sRow_clean,nRow_r1,nRow_comp,nRow_clean,putRow_clean]) rfl (by simp [rcells,RT.cells,CT.clean,T.clean,sRow_r1,sRow_comp,sRow_clean,nRow_r1,nRow_comp,nRow_clean,putRow_clean]) rfl rfl, ?_⟩
  simp only [runH,runX,bq,br,go_sem,setCells,setIn]
  refine vw_seq ?_
  have rD := runs_152 q g1.len (by omega) old _ rfl
  have hfd := g1.drop old
  have hdl : (kidDropF q old).names.length ≤ 11 := Nat.le_trans (skipN_le _ _ _) g2
  by_cases h3 : j = k
  · rw [if_pos h3] at hR
    subst hR h3
    generalize kidDropF q old = d at rD hfd hdl
    have rP := runs_150 d hfd.len (by omega) nm at_ _ rfl
    have hfp := hfd.put (by omega) nm (by omega) at_
    generalize kidPutF d nm at_ = m at rP hfp
    have rA := text_fit hfp j
    have bd : List.take d.names.length (d.names.map sRow) = d.names.map sRow := List.take_of_length_le (by simp)
    have be : List.take d.kids.length (d.kids.map nRow) = d.kids.map nRow := List.take_of_length_le (by simp)
    have bm : List.take m.names.length (m.names.map sRow) = m.names.map sRow := List.take_of_length_le (by simp)
    have bm2 : List.take m.kids.length (m.kids.map nRow) = m.kids.map nRow := List.take_of_length_le (by simp)
    refine vw_go rfl ?_; simp only [go_sem,setCells,setIn]
    refine vw_cond (t := true) rfl (fun _ => ?_) (fun h => nomatch h)
    refine vw_go rfl ?_; simp only [List.drop_length,bq,br,go_sem,setCells,setIn]
    refine ⟨_, _, call_rx [0, 0] Tryz.func152 (rD) rfl rfl rfl rfl rfl rfl rfl (by simp [lendAll,lendC,seek,fresh,nav,rcells,RT.cells,VV.cells,tabE_cons,tabS_cons,ev,take_map_len,sRow_r1,sRow_comp,sRow_clean,nRow_r1,nRow_comp,nRow_clean,putRow_clean,bq,br]) rfl (by simp [rcells,RT.cells,CT.clean,T.clean,sRow_r1,sRow_comp,sRow_clean,nRow_r1,nRow_comp,nRow_clean,putRow_clean,bq,br]) rfl rfl, ?_⟩
    simp only [runH,runX,bd,be,go_sem,setCells,setIn]
    refine ⟨_, _, call_rx [0, 0, 0] Tryz.func150 (rP) rfl rfl rfl rfl rfl rfl rfl (by simp [lendAll,lendC,seek,fresh,nav,rcells,RT.cells,VV.cells,tabE_cons,tabS_cons,ev,take_map_len,sRow_r1,sRow_comp,sRow_clean,nRow_r1,nRow_comp,nRow_clean,putRow_clean,bd,be]) rfl (by simp [rcells,RT.cells,CT.clean,T.clean,sRow_r1,sRow_comp,sRow_clean,nRow_r1,nRow_comp,nRow_clean,putRow_clean,bd,be]) rfl rfl, ?_⟩
    simp only [runH,runX,bm,bm2,go_sem,setCells,setIn]
    refine ⟨_, _, call_rx [0, 0] Tryz.func123 (rA) rfl rfl rfl rfl rfl rfl rfl (by simp [lendAll,lendC,seek,fresh,nav,rcells,RT.cells,VV.cells,tabE_cons,tabS_cons,ev,take_map_len,sRow_r1,sRow_comp,sRow_clean,nRow_r1,nRow_comp,nRow_clean,putRow_clean,bm,bm2]) rfl (by simp [rcells,RT.cells,CT.clean,T.clean,sRow_r1,sRow_comp,sRow_clean,nRow_r1,nRow_comp,nRow_clean,putRow_clean,bm,bm2]) rfl rfl, ?_⟩
    simp only [runH,runX,range1,List.replicate_succ,List.replicate_zero,List.flatten_cons,List.flatten_nil,List.range_zero,gt_iff_lt,go_sem,setCells,setIn]
    rw [show putRow (⟨j, nodeText m⟩ : PutV) = [.int .i64 j, .str (nodeText m)] from rfl]
    exact vw_ret (r_then (e_ret (ret_by rfl rfl (by simp [RB]) rfl (by simp only [takeCs,takeC,go_sem,setCells,setIn]))))
  rw [if_neg h3] at hR
  subst hR
  have rP := runs_150 n f1.len (by omega) nm at_ _ rfl
  have hfp := f1.put (by omega) nm (by omega) at_
  generalize kidPutF n nm at_ = m at rP hfp
  generalize kidDropF q old = d at rD hfd hdl
  have rA := text_fit hfp k
  have rB := text_fit hfd j
  have rS := runs_149 ⟨k, nodeText m⟩ ⟨j, nodeText d⟩
  simp only at rS
  have bd : List.take d.names.length (d.names.map sRow) = d.names.map sRow := List.take_of_length_le (by simp)
  have be : List.take d.kids.length (d.kids.map nRow) = d.kids.map nRow := List.take_of_length_le (by simp)
  have bm : List.take m.names.length (m.names.map sRow) = m.names.map sRow := List.take_of_length_le (by simp)
  have bm2 : List.take m.kids.length (m.kids.map nRow) = m.kids.map nRow := List.take_of_length_le (by simp)
  refine vw_go rfl ?_; simp only [h3,go_sem,setCells,setIn]
  refine vw_cond (t := false) rfl (fun h => nomatch h) (fun _ => ?_)
  refine vw_skip (n_then ?_)
  refine vw_drawA mixed rfl rfl ?_; intro A hAA
  simp (maxSteps := 1000000) only [bn, bk, bq, br, List.drop_length, go_sem, setCells, setIn, runW_step]
  refine ⟨_, _, _, call_rx_at [0, 0, 0] [205830] Tryz.func150 (rP) rfl rfl rfl rfl rfl rfl rfl (fun st1 hst1 => by (try simp only [List.mem_cons,List.not_mem_nil,or_false,false_or,forall_eq_or_imp,forall_eq] at hst1); simp [lendAll,lendC,seek,fresh,nav,rcells,RT.cells,VV.cells,tabE_cons,tabS_cons,ev,take_map_len,hst1,sRow_r1,sRow_comp,sRow_clean,nRow_r1,nRow_comp,nRow_clean,putRow_clean,bn,bk]) rfl (by simp [rcells,RT.cells,CT.clean,T.clean,sRow_r1,sRow_comp,sRow_clean,nRow_r1,nRow_comp,nRow_clean,putRow_clean,bn,bk]) rfl rfl, ?_⟩
  (unfold runX; simp (maxSteps := 1000000) only [bn, bk, bq, br, bm, bm2, List.drop_length, go_sem, setCells, setIn, runW_step])
  refine ⟨_, _, _, call_rx_at [0, 0] [528391, 528392] Tryz.func123 (rA) rfl rfl rfl rfl rfl rfl rfl (fun st1 hst1 => by (try simp only [List.mem_cons,List.not_mem_nil,or_false,false_or,forall_eq_or_imp,forall_eq] at hst1); simp [lendAll,lendC,seek,fresh,nav,rcells,RT.cells,VV.cells,tabE_cons,tabS_cons,ev,take_map_len,hst1,sRow_r1,sRow_comp,sRow_clean,nRow_r1,nRow_comp,nRow_clean,putRow_clean,bm,bm2]) rfl (by simp [rcells,RT.cells,CT.clean,T.clean,sRow_r1,sRow_comp,sRow_clean,nRow_r1,nRow_comp,nRow_clean,putRow_clean,bm,bm2]) rfl rfl, ?_⟩
  (unfold runX; simp (maxSteps := 1000000) only [bn, bk, bq, br, List.drop_length, go_sem, setCells, setIn, runW_step])
  refine ⟨_, _, _, call_rx_at [0, 0] [402438] Tryz.func152 (rD) rfl rfl rfl rfl rfl rfl rfl (fun st1 hst1 => by (try simp only [List.mem_cons,List.not_mem_nil,or_false,false_or,forall_eq_or_imp,forall_eq] at hst1); simp [lendAll,lendC,seek,fresh,nav,rcells,RT.cells,VV.cells,tabE_cons,tabS_cons,ev,take_map_len,hst1,sRow_r1,sRow_comp,sRow_clean,nRow_r1,nRow_comp,nRow_clean,putRow_clean,bq,br]) rfl (by simp [rcells,RT.cells,CT.clean,T.clean,sRow_r1,sRow_comp,sRow_clean,nRow_r1,nRow_comp,nRow_clean,putRow_clean,bq,br]) rfl rfl, ?_⟩
  (unfold runX; simp (maxSteps := 1000000) only [bq, br, bd, be, List.drop_length, go_sem, setCells, setIn, runW_step])
  refine ⟨_, _, _, call_rx_at [0, 0] [533511, 533512] Tryz.func123 (rB) rfl rfl rfl rfl rfl rfl rfl (fun st1 hst1 => by (try simp only [List.mem_cons,List.not_mem_nil,or_false,false_or,forall_eq_or_imp,forall_eq] at hst1); simp [lendAll,lendC,seek,fresh,nav,rcells,RT.cells,VV.cells,tabE_cons,tabS_cons,ev,take_map_len,hst1,sRow_r1,sRow_comp,sRow_clean,nRow_r1,nRow_comp,nRow_clean,putRow_clean,bd,be]) rfl (by simp [rcells,RT.cells,CT.clean,T.clean,sRow_r1,sRow_comp,sRow_clean,nRow_r1,nRow_comp,nRow_clean,putRow_clean,bd,be]) rfl rfl, ?_⟩
  (unfold runX; simp (maxSteps := 1000000) only [List.drop_length, go_sem, setCells, setIn, runW_step])
  refine ⟨_, _, _, call_rx_at [0, 0] [] Tryz.func149 (rS) rfl rfl rfl rfl rfl rfl rfl (fun st1 hst1 => by (try simp only [List.mem_cons,List.not_mem_nil,or_false,false_or,forall_eq_or_imp,forall_eq] at hst1); simp [lendAll,lendC,seek,fresh,nav,rcells,RT.cells,VV.cells,tabE_cons,tabS_cons,ev,take_map_len,hst1,sRow_r1,sRow_comp,sRow_clean,nRow_r1,nRow_comp,nRow_clean,putRow_clean]) rfl (by simp [rcells,RT.cells,CT.clean,T.clean,sRow_r1,sRow_comp,sRow_clean,nRow_r1,nRow_comp,nRow_clean,putRow_clean]) rfl rfl, ?_⟩
  (unfold runX; simp (maxSteps := 1000000) only [List.drop_length, go_sem, setCells, setIn, runW_step])
  refine ⟨by subst hAA; unfold allOk; kernel_rfl, ?_⟩
  exact vw_ret (e_ret (ret_by rfl rfl (by simp [RB]) rfl (by simp only [takeCs,takeC,go_sem,setCells,setIn])))
end Go.Proofs.YtkijdbljnefeaaaGreatDoor
namespace Go.Proofs.YtkijdbljnefeaaaGreatDoor
open Go.VM Go
set_option maxRecDepth 100000
attribute [local congr] vw_congr runV_congr runH_congr runW_congr runX_congr stuckV_congr stuckX_congr
/-! ### depth -/
theorem goKids_mono {g h : Nat → List Bool → Bool × List Bool} (H : ∀ k m, (g k m).1 = true → h k m = g k m) : ∀ (ys : List Int) (m : List Bool), (goKids g ys m).1 = true → goKids h ys m = goKids g ys m
  | [], m, _ => rfl
  | y :: ys, m, e => by
    rw [goKids] at e ⊢
    rw [goKids]
    split at e
    · rename_i c
      rw [H _ _ c, if_pos c, if_pos c, goKids_mono H ys _ e]
    · cases e
theorem goI_mono (l : List ByteArray) : ∀ (f k : Nat) (m : List Bool), (goI l f k m).1 = true → goI l (f + 1) k m = goI l f k m
  | 0, k, m, h => nomatch h
  | f + 1, k, m, h => by
    rw [goI] at h ⊢
    rw [goI]
    split at h
    · rename_i c
      rw [if_pos c, if_pos c]
      exact goKids_mono (fun k m => goI_mono l f k m) _ _ h
    · cases h
theorem deep_mono {l : List ByteArray} {f k : Nat} (h : deepOk l f k) : deepOk l (f + 1) k := by
  obtain ⟨m, h⟩ := h
  exact ⟨m, by rw [goI_mono l f k m h]; exact h⟩
theorem walk_deep {l : List ByteArray} {f : Nat} : ∀ (st : List ByteArray) (k : Int), deepOk l f k.toNat → 0 ≤ walkG l st k → deepOk l f (walkG l st k).toNat
  | [], k, h, _ => h
  | s :: st, k, h, h0 => by
    unfold walkG at h0 ⊢
    split at h0
    · exact absurd h0 (by decide)
    · rename_i c
      rw [if_neg c]
      rcases kidF_in (nodeRead (l.getD k.toNat ⟨#[]⟩)).1 s with h2 | h2
      · rw [h2] at c; exact absurd (by decide) c
      · obtain ⟨g, rfl, _, hk⟩ := deep_step h
        exact walk_deep st _ (deep_mono (hk _ h2)) h0
/-! ### Ask -/
def askF (l : List ByteArray) (o : OpV) : Told3 :=
  if volOk l = false ∨ opOk o = false then none3 1
  else if o.kind = 1 ∨ o.kind = 2 then newF l o
  else if walkG l (namesZ o.path) 0 < 0 then none3 2
  else if o.kind = 5 then dropF l o (walkG l (namesZ o.path) 0) (kn l (walkG l (namesZ o.path) 0))
  else if o.kind = 6 then moveF l o (walkG l (namesZ o.path) 0).toNat
  else if ¬ (kn l (walkG l (namesZ o.path) 0)).dir = decide (o.kind = 7) then none3 4
  else if o.kind = 3 then (0, ⟨#[]⟩, [putF (walkG l (namesZ o.path) 0) ⟨false, [], [], o.data⟩])
  else if o.kind = 4 then (0, (kn l (walkG l (namesZ o.path) 0)).data, [])
  else (0, namesG l (kn l (walkG l (namesZ o.path) 0)).names (kn l (walkG l (namesZ o.path) 0)).kids false ⟨#[]⟩, [])
set_option maxHeartbeats 2000000 in
theorem runs_87 (l : List ByteArray) (hl : l.length < 2 ^ 60) (hsz : ∀ s ∈ l, s.size ≤ 2 ^ 20) (o : OpV) (hp : o.path.size ≤ 2 ^ 20) (ht : o.to.size ≤ 2 ^ 20) (R : Told3) (hR : R = askF l o) :
    Runs Tryz.prog 87 [.one (.v (.list false 1 (l.map sRow))), .agg [.v (.int .i64 o.kind), .v (.str o.path), .v (.str o.to), .v (.str o.data)]] [.one (.v (.int .i64 R.1)), .one (.v (.str R.2.1)), .one (.v (.list true 2 (R.2.2.map putRow)))] [] := by
  refine runs_tab (tab := [(0, .c (.list false 1 (l.map sRow))), (1, .agg [.c (.int .i64 o.kind), .c (.str o.path), .c (.str o.to), .c (.str o.data)])]) (rts := []) (n := 130) (k := 5) Tryz.func87 rfl rfl (by simp) rfl (fun t => ?_) rfl ?_
  · rcases t with _ | _ | t <;> rfl
  unfold askF at hR
  have rV := runs_58 l hl hsz
  have rO := runs_117 o hp ht
  refine vw_go rfl ?_; simp only [go_sem,setCells,setIn]
  refine vw_seq ?_
  refine vw_go rfl ?_; simp only [go_sem,setCells,setIn]
  refine ⟨_, _, call_rx [0] Tryz.func58 (rV) rfl rfl rfl rfl rfl rfl rfl (by simp [lendAll,lendC,seek,fresh,nav,rcells,RT.cells,VV.cells,tabE_cons,tabS_cons,ev,take_map_len,sRow_r1,sRow_comp,sRow_clean,nRow_r1,nRow_comp,nRow_clean,putRow_clean]) rfl (by simp [rcells,RT.cells,CT.clean,T.clean,sRow_r1,sRow_comp,sRow_clean,nRow_r1,nRow_comp,nRow_clean,putRow_clean]) rfl rfl, ?_⟩
  cases hv : volOk l
  · rw [hv] at rV
    rw [if_pos (.inl hv)] at hR
    unfold none3 at hR
    subst hR
    simp only [runH,runX,hv,go_sem,setCells,setIn]
    refine vw_cond (t := true) rfl (fun _ => ?_) (fun h => nomatch h)
    refine vw_go rfl ?_; simp only [go_sem,setCells,setIn]
    refine ⟨_, _, call_rx [0] Tryz.func118 (runs_118 1) rfl rfl rfl rfl rfl rfl rfl (by simp [lendAll,lendC,seek,fresh,nav,rcells,RT.cells,VV.cells,tabE_cons,tabS_cons,ev,take_map_len,lit,cleanRs]) rfl (by simp [rcells,RT.cells,CT.clean,T.clean,lit,cleanRs]) rfl rfl, ?_⟩
    simp only [runH,runX,go_sem,setCells,setIn]
    exact vw_ret (r_then (e_ret (ret_by rfl rfl (by simp [RB]) rfl (by simp only [takeCs,takeC,go_sem,setCells,setIn]))))
  obtain ⟨l12, hdeep⟩ := volOk_deep hv
  simp only [runH,runX,hv,go_sem,setCells,setIn]
  refine ⟨_, _, call_rx [0] Tryz.func117 (rO) rfl rfl rfl rfl rfl rfl rfl (by simp [lendAll,lendC,seek,fresh,nav,rcells,RT.cells,VV.cells,tabE_cons,tabS_cons,ev,take_map_len,sRow_r1,sRow_comp,sRow_clean,nRow_r1,nRow_comp,nRow_clean,putRow_clean]) rfl (by simp [rcells,RT.cells,CT.clean,T.clean,sRow_r1,sRow_comp,sRow_clean,nRow_r1,nRow_comp,nRow_clean,putRow_clean]) rfl rfl, ?_⟩
  cases ho : opOk o
  · rw [if_pos (.inr ho)] at hR
    unfold none3 at hR
    subst hR
    simp only [runH,runX,ho,go_sem,setCells,setIn]
    refine vw_cond (t := true) rfl (fun _ => ?_) (fun h => nomatch h)
    refine vw_go rfl ?_; simp only [go_sem,setCells,setIn]
    refine ⟨_, _, call_rx [0] Tryz.func118 (runs_118 1) rfl rfl rfl rfl rfl rfl rfl (by simp [lendAll,lendC,seek,fresh,nav,rcells,RT.cells,VV.cells,tabE_cons,tabS_cons,ev,take_map_len,lit,cleanRs]) rfl (by simp [rcells,RT.cells,CT.clean,T.clean,lit,cleanRs]) rfl rfl, ?_⟩
    simp only [runH,runX,go_sem,setCells,setIn]
    exact vw_ret (r_then (e_ret (ret_by rfl rfl (by simp [RB]) rfl (by simp only [takeCs,takeC,go_sem,setCells,setIn]))))
  rw [if_neg (by rw [hv, ho]; rintro (h | h) <;> cases h)] at hR
  simp only [runH,runX,ho,go_sem,setCells,setIn]
  refine vw_cond (t := false) rfl (fun h => nomatch h) (fun _ => ?_)
  refine vw_skip (n_then ?_)
  refine vw_seq ?_
  have rN := runs_119 l l12 hsz o hp _ rfl
  have rW := runs_120 l l12 hsz o.path hp
  have rD := fun a n => runs_121 l l12 hsz o hp a n _ rfl
  have hdw := walk_deep (namesZ o.path) 0 hdeep
  have hwi := walkG_in l (namesZ o.path) 0 (by decide) (by decide)
  generalize newF l o = nf at rN hR
  generalize walkG l (namesZ o.path) 0 = w at rW hdw hwi hR
  by_cases k1 : o.kind = 1
  · rw [if_pos (.inl k1)] at hR
    subst hR
    refine vw_go rfl ?_; simp only [k1,go_sem,setCells,setIn]
    refine vw_cond (t := true) rfl (fun _ => ?_) (fun h => nomatch h)
    refine vw_go rfl ?_; simp only [go_sem,setCells,setIn]
    rw [← k1]
    refine ⟨_, _, call_rx [0, 0] Tryz.func119 (rN) rfl rfl rfl rfl rfl rfl rfl (by simp [lendAll,lendC,seek,fresh,nav,rcells,RT.cells,VV.cells,tabE_cons,tabS_cons,ev,take_map_len,sRow_r1,sRow_comp,sRow_clean,nRow_r1,nRow_comp,nRow_clean,putRow_clean]) rfl (by simp [rcells,RT.cells,CT.clean,T.clean,sRow_r1,sRow_comp,sRow_clean,nRow_r1,nRow_comp,nRow_clean,putRow_clean]) rfl rfl, ?_⟩
    simp only [runH,runX,go_sem,setCells,setIn]
    refine vw_go rfl ?_; simp only [go_sem,setCells,setIn]
    exact vw_ret (r_then (e_ret (ret_by rfl rfl (by simp [RB]) rfl (by simp only [takeCs,takeC,go_sem,setCells,setIn]))))
  by_cases k2 : o.kind = 2
  · rw [if_pos (.inr k2)] at hR
    subst hR
    refine vw_go rfl ?_; simp only [k2,go_sem,setCells,setIn]
    refine vw_cond (t := true) rfl (fun _ => ?_) (fun h => nomatch h)
    refine vw_go rfl ?_; simp only [go_sem,setCells,setIn]
    rw [← k2]
    refine ⟨_, _, call_rx [0, 0] Tryz.func119 (rN) rfl rfl rfl rfl rfl rfl rfl (by simp [lendAll,lendC,seek,fresh,nav,rcells,RT.cells,VV.cells,tabE_cons,tabS_cons,ev,take_map_len,sRow_r1,sRow_comp,sRow_clean,nRow_r1,nRow_comp,nRow_clean,putRow_clean]) rfl (by simp [rcells,RT.cells,CT.clean,T.clean,sRow_r1,sRow_comp,sRow_clean,nRow_r1,nRow_comp,nRow_clean,putRow_clean]) rfl rfl, ?_⟩
    simp only [runH,runX,go_sem,setCells,setIn]
    refine vw_go rfl ?_; simp only [go_sem,setCells,setIn]
    exact vw_ret (r_then (e_ret (ret_by rfl rfl (by simp [RB]) rfl (by simp only [takeCs,takeC,go_sem,setCells,setIn]))))
  rw [if_neg (by rintro (h | h); exact k1 h; exact k2 h)] at hR
  refine vw_go rfl ?_; simp only [k1,k2,go_sem,setCells,setIn]
  refine vw_cond (t := false) rfl (fun h => nomatch h) (fun _ => ?_)
  refine vw_skip (n_then ?_)
  refine vw_go rfl ?_; simp only [go_sem,setCells,setIn]
  refine ⟨_, _, call_rx [0, 0] Tryz.func120 (rW) rfl rfl rfl rfl rfl rfl rfl (by simp [lendAll,lendC,seek,fresh,nav,rcells,RT.cells,VV.cells,tabE_cons,tabS_cons,ev,take_map_len,sRow_r1,sRow_comp,sRow_clean,nRow_r1,nRow_comp,nRow_clean,putRow_clean]) rfl (by simp [rcells,RT.cells,CT.clean,T.clean,sRow_r1,sRow_comp,sRow_clean,nRow_r1,nRow_comp,nRow_clean,putRow_clean]) rfl rfl, ?_⟩
  simp only [runH,runX,go_sem,setCells,setIn]
  refine vw_seq ?_
  by_cases h0 : w < 0
  · rw [if_pos h0] at hR
    unfold none3 at hR
    subst hR
    refine vw_go rfl ?_; simp only [h0,go_sem,setCells,setIn]
    refine vw_cond (t := true) rfl (fun _ => ?_) (fun h => nomatch h)
    refine vw_go rfl ?_; simp only [go_sem,setCells,setIn]
    refine ⟨_, _, call_rx [0] Tryz.func118 (runs_118 2) rfl rfl rfl rfl rfl rfl rfl (by simp [lendAll,lendC,seek,fresh,nav,rcells,RT.cells,VV.cells,tabE_cons,tabS_cons,ev,take_map_len,lit,cleanRs]) rfl (by simp [rcells,RT.cells,CT.clean,T.clean,lit,cleanRs]) rfl rfl, ?_⟩
    simp only [runH,runX,go_sem,setCells,setIn]
    exact vw_ret (r_then (e_ret (ret_by rfl rfl (by simp [RB]) rfl (by simp only [takeCs,takeC,go_sem,setCells,setIn]))))
  rw [if_neg h0] at hR
  have hdw' := hdw (by omega)
  have hw11 : w ≤ 11 := by rcases hwi with h | h <;> omega
  obtain ⟨k, rfl⟩ : ∃ k : Nat, w = (k : Int) := ⟨w.toNat, by omega⟩
  have hk12 : k < 12 := by omega
  rw [Int.toNat_natCast] at hdw' hR
  have rM := runs_122 l l12 hsz o hp ht k hk12 hdw' _ rfl
  obtain ⟨t, ht'⟩ : ∃ t, l[k]? = some t := ⟨_, List.getElem?_eq_getElem (by omega)⟩
  have rR := runs_85 t (hsz t (List.mem_of_getElem? ht')) _ rfl
  obtain ⟨a1, a2, a3, a4⟩ := nodeRead_small t
  have hkr := nodeRead_kids t
  have hlen := nodeRead_len t
  have hkn : kn l (k : Int) = (nodeRead t).1 := by unfold kn; rw [Int.toNat_natCast, getD_of ht']
  rw [hkn] at hR
  generalize nodeRead t = r at rR hR a1 a2 a3 a4 hkr hlen
  obtain ⟨n, ok⟩ := r
  simp only at rR hR a1 a2 a3 a4 hkr hlen
  have rDD := rD (k : Int) n
  have rNm := runs_124 l l12 hsz n (by omega) a1 a3 hkr
  have hfz : (⟨false, [], [], o.data⟩ : NodeV).fit := ⟨rfl, Nat.zero_le _, fun x hx => (nomatch hx), by
    have := ho; unfold opOk at this; simp only [Bool.and_eq_true,decide_eq_true_eq] at this; have := this.2.2.1; simp only; omega⟩
  have rPt := text_fit hfz (k : Int)
  simp only [List.map_nil] at rPt
  generalize dropF l o (k : Int) n = df at rDD hR
  generalize moveF l o k = mf at rM hR
  generalize namesG l n.names n.kids false ⟨#[]⟩ = nmz at rNm hR
  have k0 : (0:Int) ≤ (k : Int) := by omega
  have k3 : (k : Int) < l.length := by omega
  have k4 : k < l.length := by omega
  have bn : List.take n.names.length (n.names.map sRow) = n.names.map sRow := List.take_of_length_le (by simp)
  have bk : List.take n.kids.length (n.kids.map nRow) = n.kids.map nRow := List.take_of_length_le (by simp)
  refine vw_go rfl ?_; simp only [h0,go_sem,setCells,setIn]
  refine vw_cond (t := false) rfl (fun h => nomatch h) (fun _ => ?_)
  refine vw_skip (n_then ?_)
  refine vw_go rfl ?_; simp only [k0,k3,k4,Int.toNat_natCast,getD_map_of ht',sRow,go_sem,setCells,setIn]
  refine ⟨_, _, call_rx [0] Tryz.func85 (rR) rfl rfl rfl rfl rfl rfl rfl (by simp [lendAll,lendC,seek,fresh,nav,rcells,RT.cells,VV.cells,tabE_cons,tabS_cons,ev,take_map_len,sRow_r1,sRow_comp,sRow_clean,nRow_r1,nRow_comp,nRow_clean,putRow_clean]) rfl (by simp [rcells,RT.cells,CT.clean,T.clean,sRow_r1,sRow_comp,sRow_clean,nRow_r1,nRow_comp,nRow_clean,putRow_clean]) rfl rfl, ?_⟩
  simp only [runH,runX,bn,bk,go_sem,setCells,setIn]
  refine vw_seq ?_
  refine vw_block ?_
  by_cases k5 : o.kind = 5
  · rw [if_pos k5] at hR
    subst hR
    refine vw_go rfl ?_; simp only [k5,go_sem,setCells,setIn]
    refine vw_cond (t := true) rfl (fun _ => ?_) (fun h => nomatch h)
    rw [← k5]
    refine vw_go rfl ?_; simp only [bn,bk,List.drop_length,go_sem,setCells,setIn]
    refine ⟨_, _, call_rx [0, 0, 0, 0] Tryz.func121 (rDD) rfl rfl rfl rfl rfl rfl rfl (by simp [lendAll,lendC,seek,fresh,nav,rcells,RT.cells,VV.cells,tabE_cons,tabS_cons,ev,take_map_len,sRow_r1,sRow_comp,sRow_clean,nRow_r1,nRow_comp,nRow_clean,putRow_clean,bn,bk]) rfl (by simp [rcells,RT.cells,CT.clean,T.clean,sRow_r1,sRow_comp,sRow_clean,nRow_r1,nRow_comp,nRow_clean,putRow_clean,bn,bk]) rfl rfl, ?_⟩
    simp only [runH,runX,go_sem,setCells,setIn]
    refine vw_go rfl ?_; simp only [go_sem,setCells,setIn]
    exact vw_ret (r_block (r_then (e_ret (ret_by rfl rfl (by simp [RB]) rfl (by simp only [takeCs,takeC,go_sem,setCells,setIn])))))
  rw [if_neg k5] at hR
  refine vw_go rfl ?_; simp only [k5,go_sem,setCells,setIn]
  refine vw_cond (t := false) rfl (fun h => nomatch h) (fun _ => ?_)
  by_cases k6 : o.kind = 6
  · rw [if_pos k6] at hR
    subst hR
    refine vw_go rfl ?_; simp only [k6,go_sem,setCells,setIn]
    refine vw_cond (t := true) rfl (fun _ => ?_) (fun h => nomatch h)
    rw [← k6]
    refine vw_go rfl ?_; simp only [go_sem,setCells,setIn]
    refine ⟨_, _, call_rx [0, 0, 0] Tryz.func122 (rM) rfl rfl rfl rfl rfl rfl rfl (by simp [lendAll,lendC,seek,fresh,nav,rcells,RT.cells,VV.cells,tabE_cons,tabS_cons,ev,take_map_len,sRow_r1,sRow_comp,sRow_clean,nRow_r1,nRow_comp,nRow_clean,putRow_clean]) rfl (by simp [rcells,RT.cells,CT.clean,T.clean,sRow_r1,sRow_comp,sRow_clean,nRow_r1,nRow_comp,nRow_clean,putRow_clean]) rfl rfl, ?_⟩
    simp only [runH,runX,go_sem,setCells,setIn]
    refine vw_go rfl ?_; simp only [go_sem,setCells,setIn]
    exact vw_ret (r_block (r_then (e_ret (ret_by rfl rfl (by simp [RB]) rfl (by simp only [takeCs,takeC,go_sem,setCells,setIn])))))
  rw [if_neg k6] at hR
  refine vw_go rfl ?_; simp only [k6,go_sem,setCells,setIn]
  refine vw_cond (t := false) rfl (fun h => nomatch h) (fun _ => ?_)
  by_cases k7 : n.dir = decide (o.kind = 7)
  case neg =>
    rw [if_pos k7] at hR
    unfold none3 at hR
    subst hR
    have k7' : (n.dir == decide (o.kind = 7)) = false := by simp [k7]
    refine vw_go rfl ?_; simp only [k7',go_sem,setCells,setIn]
    refine vw_cond (t := true) rfl (fun _ => ?_) (fun h => nomatch h)
    refine vw_go rfl ?_; simp only [go_sem,setCells,setIn]
    refine ⟨_, _, call_rx [0] Tryz.func118 (runs_118 4) rfl rfl rfl rfl rfl rfl rfl (by simp [lendAll,lendC,seek,fresh,nav,rcells,RT.cells,VV.cells,tabE_cons,tabS_cons,ev,take_map_len,lit,cleanRs]) rfl (by simp [rcells,RT.cells,CT.clean,T.clean,lit,cleanRs]) rfl rfl, ?_⟩
    simp only [runH,runX,go_sem,setCells,setIn]
    exact vw_ret (r_block (r_then (e_ret (ret_by rfl rfl (by simp [RB]) rfl (by simp only [takeCs,takeC,go_sem,setCells,setIn])))))
  rw [if_neg (fun h => h k7)] at hR
  have k7' : (n.dir == decide (o.kind = 7)) = true := by simp [k7]
  refine vw_go rfl ?_; simp only [k7',go_sem,setCells,setIn]
  refine vw_cond (t := false) rfl (fun h => nomatch h) (fun _ => ?_)
  by_cases k8 : o.kind = 3
  · rw [if_pos k8] at hR
    unfold putF at hR
    subst hR
    refine vw_go rfl ?_; simp only [k8,go_sem,setCells,setIn]
    refine vw_cond (t := true) rfl (fun _ => ?_) (fun h => nomatch h)
    refine vw_go rfl ?_; simp only [go_sem,setCells,setIn]
    refine ⟨_, _, call_rx [0, 0] Tryz.func123 (rPt) rfl rfl rfl rfl rfl rfl rfl (by simp [lendAll,lendC,seek,fresh,nav,rcells,RT.cells,VV.cells,tabE_cons,tabS_cons,ev,take_map_len,sRow_r1,sRow_comp,sRow_clean,nRow_r1,nRow_comp,nRow_clean,putRow_clean,lit,cleanRs]) rfl (by simp [rcells,RT.cells,CT.clean,T.clean,sRow_r1,sRow_comp,sRow_clean,nRow_r1,nRow_comp,nRow_clean,putRow_clean,lit,cleanRs]) rfl rfl, ?_⟩
    simp only [runH,runX,range1,List.replicate_succ,List.replicate_zero,List.flatten_cons,List.flatten_nil,List.range_zero,gt_iff_lt,go_sem,setCells,setIn]
    rw [show putRow (⟨(k : Int), nodeText ⟨false, [], [], o.data⟩⟩ : PutV) = [.int .i64 (k : Int), .str (nodeText ⟨false, [], [], o.data⟩)] from rfl]
    exact vw_ret (r_block (r_then (e_ret (ret_by rfl rfl (by simp [RB]) rfl (by simp only [takeCs,takeC,go_sem,setCells,setIn])))))
  rw [if_neg k8] at hR
  refine vw_go rfl ?_; simp only [k8,go_sem,setCells,setIn]
  refine vw_cond (t := false) rfl (fun h => nomatch h) (fun _ => ?_)
  by_cases k9 : o.kind = 4
  · rw [if_pos k9] at hR
    subst hR
    refine vw_go rfl ?_; simp only [k9,go_sem,setCells,setIn]
    refine vw_cond (t := true) rfl (fun _ => ?_) (fun h => nomatch h)
    refine vw_draw mixed rfl rfl ?_; simp only [List.replicate_zero,List.flatten_nil,List.range_zero,go_sem,setCells,setIn]
    refine ⟨by unfold allOk; kernel_rfl, ?_⟩
    exact vw_ret (r_block (r_then (e_ret (ret_by rfl rfl (by simp [RB]) rfl (by simp only [takeCs,takeC,go_sem,setCells,setIn])))))
  rw [if_neg k9] at hR
  subst hR
  refine vw_go rfl ?_; simp only [k9,go_sem,setCells,setIn]
  refine vw_cond (t := false) rfl (fun h => nomatch h) (fun _ => ?_)
  refine vw_skip (n_block (n_then ?_))
  refine vw_go rfl ?_; simp only [bn,bk,List.drop_length,go_sem,setCells,setIn]
  refine ⟨_, _, call_rx [0, 0] Tryz.func124 (rNm) rfl rfl rfl rfl rfl rfl rfl (by simp [lendAll,lendC,seek,fresh,nav,rcells,RT.cells,VV.cells,tabE_cons,tabS_cons,ev,take_map_len,sRow_r1,sRow_comp,sRow_clean,nRow_r1,nRow_comp,nRow_clean,putRow_clean,bn,bk]) rfl (by simp [rcells,RT.cells,CT.clean,T.clean,sRow_r1,sRow_comp,sRow_clean,nRow_r1,nRow_comp,nRow_clean,putRow_clean,bn,bk]) rfl rfl, ?_⟩
  simp only [runH,runX,List.replicate_zero,List.flatten_nil,List.range_zero,go_sem,setCells,setIn]
  exact vw_ret (e_ret (ret_by rfl rfl (by simp [RB]) rfl (by simp only [takeCs,takeC,go_sem,setCells,setIn])))
theorem sortF_len (a b : PutV) : (sortF a b).length = 2 := by unfold sortF; split <;> rfl
theorem ite_p {P : Told3 → Prop} {c : Prop} [Decidable c] {a b : Told3} (ha : P a) (hb : P b) : P (if c then a else b) := by split <;> assumption
theorem nodeText_size (n : NodeV) : (nodeText n).size ≤ 100 := by
  unfold nodeText
  split
  · rename_i h
    split
    · rename_i hd
      obtain ⟨e1, e2, e3⟩ := nodeOk_dir hd h
      have h1 := bodyTo_size e3 n.names.length (Nat.le_refl _)
      have h2 := nodeOk_few h
      omega
    · rename_i hd
      obtain ⟨e1, e2, e3⟩ := nodeOk_file (by simpa using hd) h
      rw [ByteArray.size_append]
      have : (⟨#[102]⟩ : ByteArray).size = 1 := rfl
      omega
  · exact Nat.zero_le _
/-- Few puts, and their texts are short. -/
def FewP (t : Told3) : Prop := t.2.2.length ≤ 2 ∧ ∀ p ∈ t.2.2, p.data.size ≤ 100
theorem fewP_nil (c : Int) (s : ByteArray) : FewP (c, s, []) := ⟨Nat.zero_le _, fun p hp => nomatch hp⟩
theorem fewP_one (c : Int) (s : ByteArray) (k : Int) (n : NodeV) : FewP (c, s, [putF k n]) := ⟨by simp, fun p hp => by
  rw [List.mem_singleton] at hp; rw [hp]; exact nodeText_size n⟩
theorem fewP_sort (c : Int) (s : ByteArray) {a b : PutV} (ha : a.data.size ≤ 100) (hb : b.data.size ≤ 100) : FewP (c, s, sortF a b) := ⟨by simp [sortF_len], fun p hp => by
  have hp : p ∈ sortF a b := hp
  unfold sortF at hp
  split at hp <;> · rcases List.mem_cons.1 hp with rfl | hp
                    · assumption
                    · rw [List.mem_singleton] at hp; rw [hp]; assumption⟩
theorem askF_few (l : List ByteArray) (o : OpV) : FewP (askF l o) := by
  unfold askF newF dropF moveF none3
  have h0 : ∀ k n, (putF k n).data.size ≤ 100 := fun k n => nodeText_size n
  repeat' apply ite_p
  all_goals first | exact fewP_nil _ _ | exact fewP_one _ _ _ _ | exact fewP_sort _ _ (h0 _ _) (h0 _ _) | exact fewP_sort _ _ (h0 _ _) (Nat.zero_le _)
theorem doneL_size : ∀ (ps : List PutV) (l : List ByteArray) (m : Nat), (∀ s ∈ l, s.size ≤ m) → (∀ p ∈ ps, p.data.size ≤ m) → ∀ s ∈ doneL l ps, s.size ≤ m
  | [], l, m, hl, _ => hl
  | p :: ps, l, m, hl, hp => by
    rw [doneL]
    refine doneL_size ps _ m ?_ (fun q hq => hp q (List.mem_cons_of_mem _ hq))
    split
    · intro s hs
      rcases List.mem_or_eq_of_mem_set hs with h | h
      · exact hl s h
      · rw [h]; exact hp p (List.mem_cons_self ..)
    · exact hl
set_option maxHeartbeats 1000000 in
theorem runs_61 (l : List ByteArray) (hl : l.length ≤ 2 ^ 20) (hsz : ∀ s ∈ l, s.size ≤ 2 ^ 20) (o : OpV) (hp : o.path.size ≤ 2 ^ 20) (ht : o.to.size ≤ 2 ^ 20) (R : Told3) (hR : R = askF l o) :
    Runs Tryz.prog 61 [.one (.v (.list false 1 (l.map sRow))), .agg [.v (.int .i64 o.kind), .v (.str o.path), .v (.str o.to), .v (.str o.data)]] [.one (.v (.list true 1 ((doneL l R.2.2).map sRow))), .one (.v (.int .i64 R.1)), .one (.v (.str R.2.1))] [] := by
  refine runs_tab (tab := [(0, .c (.list false 1 (l.map sRow))), (1, .agg [.c (.int .i64 o.kind), .c (.str o.path), .c (.str o.to), .c (.str o.data)])]) (rts := []) (n := 22) (k := 5) Tryz.func61 rfl rfl (by simp) rfl (fun t => ?_) rfl ?_
  · rcases t with _ | _ | t <;> rfl
  have rA := runs_87 l (by omega) hsz o hp ht R hR
  obtain ⟨c, x, ps⟩ := R
  simp only at rA
  have rD := fun h => runs_88 l ps hl h
  have hq : ps.length < 2 ^ 63 := by have := (askF_few l o).1; rw [← hR] at this; simp only at this; omega
  clear hR
  have rD := rD hq
  refine vw_go rfl ?_; simp only [go_sem,setCells,setIn]
  refine vw_go rfl ?_; simp only [go_sem,setCells,setIn]
  refine ⟨_, _, call_rx [0, 0] Tryz.func87 (rA) rfl rfl rfl rfl rfl rfl rfl (by simp [lendAll,lendC,seek,fresh,nav,rcells,RT.cells,VV.cells,tabE_cons,tabS_cons,ev,take_map_len,sRow_r1,sRow_comp,sRow_clean,nRow_r1,nRow_comp,nRow_clean,putRow_clean,putRow_clean]) rfl (by simp [rcells,RT.cells,CT.clean,T.clean,sRow_r1,sRow_comp,sRow_clean,nRow_r1,nRow_comp,nRow_clean,putRow_clean,putRow_clean]) rfl rfl, ?_⟩
  simp only [runH,runX,go_sem,setCells,setIn]
  refine vw_go rfl ?_; simp only [go_sem,setCells,setIn]
  refine ⟨_, _, call_rx [0, 0] Tryz.func88 (rD) rfl rfl rfl rfl rfl rfl rfl (by simp [lendAll,lendC,seek,fresh,nav,rcells,RT.cells,VV.cells,tabE_cons,tabS_cons,ev,take_map_len,sRow_r1,sRow_comp,sRow_clean,nRow_r1,nRow_comp,nRow_clean,putRow_clean,putRow_clean,putRow_r1]) rfl (by simp [rcells,RT.cells,CT.clean,T.clean,sRow_r1,sRow_comp,sRow_clean,nRow_r1,nRow_comp,nRow_clean,putRow_clean,putRow_clean,putRow_r1]) rfl rfl, ?_⟩
  simp only [runH,runX,go_sem,setCells,setIn]
  exact vw_ret (e_ret (ret_by rfl rfl (by simp [RB]) rfl (by simp only [takeCs,takeC,go_sem,setCells,setIn])))
end Go.Proofs.YtkijdbljnefeaaaGreatDoor
namespace Go.Proofs.YtkijdbljnefeaaaGreatDoor
open Go.VM Go
set_option maxRecDepth 100000
attribute [local congr] vw_congr runV_congr runH_congr runW_congr runX_congr stuckV_congr stuckX_congr
def volNew : List ByteArray := [⟨#[100]⟩, ⟨#[]⟩, ⟨#[]⟩, ⟨#[]⟩, ⟨#[]⟩, ⟨#[]⟩, ⟨#[]⟩, ⟨#[]⟩, ⟨#[]⟩, ⟨#[]⟩, ⟨#[]⟩, ⟨#[]⟩]
theorem set_new : ((List.replicate 12 (⟨#[]⟩ : ByteArray)).map sRow).set 0 ((((List.replicate 12 (⟨#[]⟩ : ByteArray)).map sRow).getD 0 []).set 0 (.str ⟨#[100]⟩)) = volNew.map sRow := rfl
theorem take_new : List.take 12 (volNew.map sRow) = volNew.map sRow := rfl
theorem rep_new : List.replicate 12 [T.str ⟨#[]⟩] = (List.replicate 12 (⟨#[]⟩ : ByteArray)).map sRow := rfl
theorem runs_60 : Runs Tryz.prog 60 [] [.one (.v (.list true 1 (volNew.map sRow)))] [] := by
  refine runs_tab (tab := ([] : List (Nat × VV))) (rts := []) (n := 6) (k := 0) Tryz.func60 rfl rfl (by simp) rfl (fun t => ?_) rfl ?_
  · rfl
  have g2 : (12 : Int) * (((16 : Nat) : Int) + 1) ≤ (bigRow : Int) := by simp only [bigRow]; omega
  refine vw_go rfl ?_; simp only [go_sem,setCells,setIn]
  refine vw_go rfl ?_; simp only [g2,rep_new,go_sem,setCells,setIn]
  refine vw_go rfl ?_; simp only [go_sem,setCells,setIn]
  refine vw_go rfl ?_; simp only [set_new,take_new,go_sem,setCells,setIn]
  exact vw_ret (e_ret (ret_of rfl rfl (by simp [RB]) rfl (take_whole (R := ⟨false, 1, volNew.map sRow, []⟩) rfl rfl rfl rfl)))
end Go.Proofs.YtkijdbljnefeaaaGreatDoor
