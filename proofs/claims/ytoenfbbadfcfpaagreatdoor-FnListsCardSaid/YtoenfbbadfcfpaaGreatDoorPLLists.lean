/- Plain of the program: the whole. How long a list is that an op makes. The law FnLists. -/
import Derived.Test.YtoenfbbadfcfpaaGreatDoorPFPlainF
import Derived.Test.YtoenfbbadfcfpaaGreatDoorPFOrd
set_option linter.unusedSimpArgs false
set_option linter.unusedVariables false
namespace Go.Proofs.YtoenfbbadfcfpaaGreatDoor
open Go.VM Go
set_option maxRecDepth 100000
attribute [-go_sem] runW_cons
attribute [local congr] vw_congr runV_congr runH_congr runW_congr runX_congr stuckV_congr stuckX_congr
set_option maxHeartbeats 2000000 in
theorem runs_11 (l : List It3) (hl : l.length ≤ 2 ^ 20) (hb : ∀ x ∈ l, x.1.size ≤ 2 ^ 20) (o : OpV) (hp : o.path.size ≤ 2 ^ 20) (ht : o.to.size ≤ 2 ^ 20) (R : Plain3) (hR : R = plainL l o) :
    Runs Tryz.prog 11 [.one (.v (.list false 3 (l.map iRow))), .agg [.v (.int .i64 o.kind), .v (.str o.path), .v (.str o.to), .v (.str o.data)]] [.one (.v (.list true 3 (R.1.map iRow))), .one (.v (.int .i64 R.2.1)), .one (.v (.str R.2.2))] [] := by
  refine runs_tab (tab := [(0, .c (.list false 3 (l.map iRow))), (1, .agg [.c (.int .i64 o.kind), .c (.str o.path), .c (.str o.to), .c (.str o.data)])]) (rts := []) (n := 55) (k := 5) Tryz.func11 rfl rfl (by simp) rfl (fun t => ?_) rfl ?_
  · rcases t with _ | _ | t <;> rfl
  unfold plainL at hR
  have bl : List.take l.length (l.map iRow) = l.map iRow := List.take_of_length_le (by simp)
  have rC := runs_34 l hl
  have rI := runs_25 l hb (by omega)
  have rO := runs_35 o hp ht
  refine vw_go rfl ?_; simp only [go_sem, setCells, setIn]
  refine vw_go rfl ?_; simp only [go_sem, setCells, setIn]
  refine ⟨_, _, call_rx [0] Tryz.func34 (rC) rfl rfl rfl rfl rfl rfl rfl (by simp [lendAll, lendC, seek, fresh, nav, rcells, RT.cells, VV.cells, tabE_cons, tabS_cons, ev, take_map_len, iRow_r1, iRow_clean, sRow_r1, sRow_comp, sRow_clean]) rfl (by simp [rcells, RT.cells, CT.clean, T.clean, iRow_r1, iRow_clean, sRow_r1, sRow_comp, sRow_clean]) rfl rfl, ?_⟩
  simp only [runH, runX, bl, go_sem, setCells, setIn]
  refine vw_seq ?_
  refine vw_go rfl ?_; simp only [bl, go_sem, setCells, setIn]
  refine ⟨_, _, call_rx [0] Tryz.func25 (rI) rfl rfl rfl rfl rfl rfl rfl (by simp [lendAll, lendC, seek, fresh, nav, rcells, RT.cells, VV.cells, tabE_cons, tabS_cons, ev, take_map_len, iRow_r1, iRow_clean, sRow_r1, sRow_comp, sRow_clean]) rfl (by simp [rcells, RT.cells, CT.clean, T.clean, iRow_r1, iRow_clean, sRow_r1, sRow_comp, sRow_clean]) rfl rfl, ?_⟩
  cases hv : itemsOk l
  · rw [if_pos (.inl hv)] at hR
    subst hR
    (unfold runH; simp (maxSteps := 1000000) only [bl, hv, go_sem, setCells, setIn])
    refine vw_cond (t := true) rfl (fun _ => ?_) (fun h => nomatch h)
    refine vw_go rfl ?_; simp only [bl, go_sem, setCells, setIn]
    exact vw_ret (r_then (e_ret (ret_by rfl rfl (by simp [RB]) rfl (by simp only [takeCs, takeC, go_sem, setCells, setIn]))))
  obtain ⟨h11, h100⟩ := itemsOk_small hv
  (unfold runH; simp (maxSteps := 1000000) only [bl, hv, go_sem, setCells, setIn])
  refine ⟨_, _, call_rx [0] Tryz.func35 (rO) rfl rfl rfl rfl rfl rfl rfl (by simp [lendAll, lendC, seek, fresh, nav, rcells, RT.cells, VV.cells, tabE_cons, tabS_cons, ev, take_map_len, iRow_r1, iRow_clean, sRow_r1, sRow_comp, sRow_clean]) rfl (by simp [rcells, RT.cells, CT.clean, T.clean, iRow_r1, iRow_clean, sRow_r1, sRow_comp, sRow_clean]) rfl rfl, ?_⟩
  cases ho : opOk o
  · rw [if_pos (.inr ho)] at hR
    subst hR
    simp only [runH, runX, bl, ho, go_sem, setCells, setIn]
    refine vw_cond (t := true) rfl (fun _ => ?_) (fun h => nomatch h)
    refine vw_go rfl ?_; simp only [bl, go_sem, setCells, setIn]
    exact vw_ret (r_then (e_ret (ret_by rfl rfl (by simp [RB]) rfl (by simp only [takeCs, takeC, go_sem, setCells, setIn]))))
  rw [if_neg (by rw [hv, ho]; rintro (h | h) <;> cases h)] at hR
  obtain ⟨o1, o2, o3, o4, o5⟩ := opOk_small ho
  have hto : o.kind = 6 → pathOk o.to = true := fun h => by
    unfold opOk at ho
    simp only [Bool.and_eq_true, Bool.or_eq_true, decide_eq_true_eq] at ho
    rcases ho.2.2.2 with h2 | h2
    · exact absurd h h2
    · exact h2
  simp only [runH, runX, bl, ho, go_sem, setCells, setIn]
  refine vw_cond (t := false) rfl (fun h => nomatch h) (fun _ => ?_)
  refine vw_skip (n_then ?_)
  refine vw_go rfl ?_; simp only [go_sem, setCells, setIn]
  refine vw_seq ?_
  refine vw_go rfl ?_; simp only [go_sem, setCells, setIn]
  refine vw_block ?_
  refine vw_seq ?_
  by_cases k12 : o.kind = 1 ∨ o.kind = 2
  · rw [if_pos k12] at hR
    have rN := runs_36 l h11 o (by omega) _ rfl
    generalize makeL l o = mk at rN hR
    obtain ⟨m1, m2⟩ := mk
    simp only at rN hR
    subst hR
    have bm : List.take m1.length (m1.map iRow) = m1.map iRow := List.take_of_length_le (by simp)
    by_cases k1 : o.kind = 1
    · have q1 : decide (o.kind = 1) = true := by simp [k1]
      refine vw_go rfl ?_; simp only [q1, go_sem, setCells, setIn]
      refine vw_cond (t := true) rfl (fun _ => ?_) (fun h => nomatch h)
      refine vw_skip (n_then ?_)
      refine vw_cond (t := true) rfl (fun _ => ?_) (fun h => nomatch h)
      refine vw_last rfl ?_; simp only [bl, List.drop_length, go_sem, setCells, setIn]
      refine ⟨_, _, call_own [0, 0] [(66565, none)] Tryz.func36 (rN) rfl rfl rfl rfl rfl rfl rfl (by simp [takeCs, takeC, takeV, seek, fresh, nav, takenUp, rcells, RT.cells, VV.cells, tabE_cons, tabS_cons, ups_tab, ups_nil, ev, take_map_len, bl, iRow_r1, iRow_clean, List.drop_length]) rfl (by simp [rcells, RT.cells, CT.clean, T.clean, bl, iRow_r1, iRow_clean, List.drop_length]) rfl rfl, ?_⟩
      simp only [runH, runX, bm, go_sem, setCells, setIn]
      refine (n_block (n_then ?_))
      refine vw_go rfl ?_; simp only [bm, go_sem, setCells, setIn]
      refine vw_ret ?_
      repeat (first | refine r_then ?_ | refine r_block ?_)
      exact e_ret (ret_by rfl rfl (by simp [RB]) rfl (by simp only [takeCs, takeC, go_sem, setCells, setIn]))
    · have q1 : decide (o.kind = 1) = false := by simp [k1]
      have k2 : o.kind = 2 := by rcases k12 with h | h; exact absurd h k1; exact h
      have q2 : decide (o.kind = 2) = true := by simp [k2]
      refine vw_go rfl ?_; simp only [q1, go_sem, setCells, setIn]
      refine vw_cond (t := false) rfl (fun h => nomatch h) (fun _ => ?_)
      refine vw_last rfl ?_; simp only [q2, go_sem, setCells, setIn]
      refine (n_then ?_)
      refine vw_cond (t := true) rfl (fun _ => ?_) (fun h => nomatch h)
      refine vw_last rfl ?_; simp only [bl, List.drop_length, go_sem, setCells, setIn]
      refine ⟨_, _, call_own [0, 0] [(66565, none)] Tryz.func36 (rN) rfl rfl rfl rfl rfl rfl rfl (by simp [takeCs, takeC, takeV, seek, fresh, nav, takenUp, rcells, RT.cells, VV.cells, tabE_cons, tabS_cons, ups_tab, ups_nil, ev, take_map_len, bl, iRow_r1, iRow_clean, List.drop_length]) rfl (by simp [rcells, RT.cells, CT.clean, T.clean, bl, iRow_r1, iRow_clean, List.drop_length]) rfl rfl, ?_⟩
      simp only [runH, runX, bm, go_sem, setCells, setIn]
      refine (n_block (n_then ?_))
      refine vw_go rfl ?_; simp only [bm, go_sem, setCells, setIn]
      refine vw_ret ?_
      repeat (first | refine r_then ?_ | refine r_block ?_)
      exact e_ret (ret_by rfl rfl (by simp [RB]) rfl (by simp only [takeCs, takeC, go_sem, setCells, setIn]))
  rw [if_neg k12] at hR
  have k1 : ¬ o.kind = 1 := fun h => k12 (.inl h)
  have k2 : ¬ o.kind = 2 := fun h => k12 (.inr h)
  have q1 : decide (o.kind = 1) = false := by simp [k1]
  have q2 : decide (o.kind = 2) = false := by simp [k2]
  refine vw_go rfl ?_; simp only [q1, go_sem, setCells, setIn]
  refine vw_cond (t := false) rfl (fun h => nomatch h) (fun _ => ?_)
  refine vw_last rfl ?_; simp only [q2, go_sem, setCells, setIn]
  refine (n_then ?_)
  refine vw_cond (t := false) rfl (fun h => nomatch h) (fun _ => ?_)
  by_cases k5 : o.kind = 5
  · have q5 : decide (o.kind = 5) = true := by simp [k5]
    have hd : R = ((if foldF l o.path = 2 then (l, 2) else dropL l o).1, (if foldF l o.path = 2 then (l, 2) else dropL l o).2, ⟨#[]⟩) := by
      rw [hR]; unfold doL; rw [if_pos k5]; split <;> rfl
    have rD := runs_37 l hv o (by omega) _ rfl
    generalize (if foldF l o.path = 2 then (l, (2 : Int)) else dropL l o) = mk at rD hd
    obtain ⟨m1, m2⟩ := mk
    simp only at rD hd
    clear hR
    subst hd
    have bm : List.take m1.length (m1.map iRow) = m1.map iRow := List.take_of_length_le (by simp)
    refine vw_go rfl ?_; simp only [q5, go_sem, setCells, setIn]
    refine vw_cond (t := true) rfl (fun _ => ?_) (fun h => nomatch h)
    refine vw_last rfl ?_; simp only [bl, List.drop_length, go_sem, setCells, setIn]
    refine ⟨_, _, call_own [0, 0] [(66565, none)] Tryz.func37 (rD) rfl rfl rfl rfl rfl rfl rfl (by simp [takeCs, takeC, takeV, seek, fresh, nav, takenUp, rcells, RT.cells, VV.cells, tabE_cons, tabS_cons, ups_tab, ups_nil, ev, take_map_len, bl, iRow_r1, iRow_clean, List.drop_length]) rfl (by simp [rcells, RT.cells, CT.clean, T.clean, bl, iRow_r1, iRow_clean, List.drop_length]) rfl rfl, ?_⟩
    simp only [runH, runX, bm, go_sem, setCells, setIn]
    refine (n_block (n_then ?_))
    refine vw_go rfl ?_; simp only [bm, go_sem, setCells, setIn]
    refine vw_ret ?_
    repeat (first | refine r_then ?_ | refine r_block ?_)
    exact e_ret (ret_by rfl rfl (by simp [RB]) rfl (by simp only [takeCs, takeC, go_sem, setCells, setIn]))
  have q5 : decide (o.kind = 5) = false := by simp [k5]
  refine vw_go rfl ?_; simp only [q5, go_sem, setCells, setIn]
  refine vw_cond (t := false) rfl (fun h => nomatch h) (fun _ => ?_)
  by_cases k6 : o.kind = 6
  · have q6 : decide (o.kind = 6) = true := by simp [k6]
    have hd : R = ((if foldF l o.path = 2 then (l, 2) else moveL l o).1, (if foldF l o.path = 2 then (l, 2) else moveL l o).2, ⟨#[]⟩) := by
      rw [hR]; unfold doL; rw [if_neg k5, if_pos k6]; split <;> rfl
    have rD := runs_38 l hv o (by omega) (by have := o2 k6; omega) (hto k6) _ rfl
    generalize (if foldF l o.path = 2 then (l, (2 : Int)) else moveL l o) = mk at rD hd
    obtain ⟨m1, m2⟩ := mk
    simp only at rD hd
    clear hR
    subst hd
    have bm : List.take m1.length (m1.map iRow) = m1.map iRow := List.take_of_length_le (by simp)
    refine vw_go rfl ?_; simp only [q6, go_sem, setCells, setIn]
    refine vw_cond (t := true) rfl (fun _ => ?_) (fun h => nomatch h)
    refine vw_last rfl ?_; simp only [bl, List.drop_length, go_sem, setCells, setIn]
    refine ⟨_, _, call_own [0, 0] [(66565, none)] Tryz.func38 (rD) rfl rfl rfl rfl rfl rfl rfl (by simp [takeCs, takeC, takeV, seek, fresh, nav, takenUp, rcells, RT.cells, VV.cells, tabE_cons, tabS_cons, ups_tab, ups_nil, ev, take_map_len, bl, iRow_r1, iRow_clean, List.drop_length]) rfl (by simp [rcells, RT.cells, CT.clean, T.clean, bl, iRow_r1, iRow_clean, List.drop_length]) rfl rfl, ?_⟩
    simp only [runH, runX, bm, go_sem, setCells, setIn]
    refine (n_block (n_then ?_))
    refine vw_go rfl ?_; simp only [bm, go_sem, setCells, setIn]
    refine vw_ret ?_
    repeat (first | refine r_then ?_ | refine r_block ?_)
    exact e_ret (ret_by rfl rfl (by simp [RB]) rfl (by simp only [takeCs, takeC, go_sem, setCells, setIn]))
  have q6 : decide (o.kind = 6) = false := by simp [k6]
  have rD := runs_39 l hv o (by omega) k5 k6 _ rfl
  rw [← hR] at rD
  clear hR
  obtain ⟨d1, d2, d3⟩ := R
  simp only at rD
  have bd : List.take d1.length (d1.map iRow) = d1.map iRow := List.take_of_length_le (by simp)
  refine vw_go rfl ?_; simp only [q6, go_sem, setCells, setIn]
  refine vw_cond (t := false) rfl (fun h => nomatch h) (fun _ => ?_)
  refine vw_go rfl ?_; simp only [bl, List.drop_length, go_sem, setCells, setIn]
  refine ⟨_, _, call_own [0, 0] [(66565, none)] Tryz.func39 (rD) rfl rfl rfl rfl rfl rfl rfl (by simp [takeCs, takeC, takeV, seek, fresh, nav, takenUp, rcells, RT.cells, VV.cells, tabE_cons, tabS_cons, ups_tab, ups_nil, ev, take_map_len, bl, iRow_r1, iRow_clean, List.drop_length]) rfl (by simp [rcells, RT.cells, CT.clean, T.clean, bl, iRow_r1, iRow_clean, List.drop_length]) rfl rfl, ?_⟩
  simp only [runH, runX, bd, go_sem, setCells, setIn]
  refine vw_ret ?_
  repeat (first | refine r_then ?_ | refine r_block ?_)
  exact e_ret (ret_by rfl rfl (by simp [RB]) rfl (by simp only [takeCs, takeC, go_sem, setCells, setIn]))
end Go.Proofs.YtoenfbbadfcfpaaGreatDoor
namespace Go.Proofs.YtoenfbbadfcfpaaGreatDoor
open Go.VM Go
theorem moveG_len (l : List It3) (o : OpV) : ∀ (r acc : List It3), (moveG l o r acc).1.length ≤ acc.length + r.length + l.length
  | [], acc => by simp [moveG]
  | x :: r, acc => by
    rw [moveG]
    split
    · have := moveG_len l o r (acc ++ [(movedP o x.1, x.2)])
      simp at this ⊢; omega
    · simp
theorem plainL_len (l : List It3) (o : OpV) : (plainL l o).1.length ≤ 2 * l.length + 1 := by
  have h1 : (makeL l o).1.length ≤ l.length + 1 := by
    unfold makeL
    repeat' split
    all_goals simp
  have h2 : (dropL l o).1.length ≤ l.length := by
    unfold dropL
    split
    · simp
    · exact List.length_filter_le _ _
  have h3 : (moveL l o).1.length ≤ 2 * l.length := by
    unfold moveL
    have := moveG_len l o l []
    repeat' split
    all_goals (try simp only [])
    all_goals simp at this ⊢
    all_goals omega
  have h4 : ∀ i s, (putAtL l i s).length = l.length := fun i s => by
    unfold putAtL
    split <;> simp
  unfold plainL doL
  repeat' split
  all_goals simp only [h4]
  all_goals omega
end Go.Proofs.YtoenfbbadfcfpaaGreatDoor
namespace Go.Proofs.YtoenfbbadfcfpaaGreatDoor
open Go.VM Go
set_option maxRecDepth 100000
attribute [-go_sem] runW_cons
attribute [local congr] vw_congr runV_congr runH_congr runW_congr runX_congr stuckV_congr stuckX_congr
theorem runs_17 (L : List UInt8) (hL : L.length < 2 ^ 60) (l : List ByteArray) (hl : l = (drawV L (newC L)).1) :
    Runs Tryz.prog 17 [.one (.v (.list false 1 (L.map bRow)))] [.one (.v (.list true 1 (l.map sRow)))] [] := by
  refine runs_hold (fun v => ?_)
  refine runs_tab (tab := [(0, .c (.held v 1 (L.map bRow)))]) (rts := []) (n := 6) (k := 1) Tryz.func17 rfl rfl (by simp) rfl (fun t => ?_) rfl ?_
  · rcases t with _ | t <;> rfl
  have rN := runs_45 v L hL _ rfl
  generalize newC L = c at rN hl
  have rP := runs_44 v L hL c l (drawV L c).2 (by rw [hl])
  have bl : List.take l.length (l.map sRow) = l.map sRow := List.take_of_length_le (by simp)
  refine vw_go rfl ?_; simp only [go_sem, setCells, setIn]
  refine vw_go rfl ?_; simp only [go_sem, setCells, setIn]
  refine ⟨_, _, call_fine [0] Tryz.func45 (rN) rfl rfl rfl rfl rfl rfl rfl (by simp [lendAll, lendC, seek, fresh, nav, rcells, RT.cells, VV.cells, tabE_cons, tabS_cons, ev, take_map_len]) rfl (by simp [rcells, RT.cells, CT.fine, fineR, T.fine, Known, VV.cells, ev, tabE_cons]) rfl rfl, ?_⟩
  simp only [runH, runX, go_sem, setCells, setIn]
  refine ⟨_, _, call_pt [0] 66561 Tryz.func44 (rP) rfl rfl rfl rfl rfl rfl rfl rfl (by simp [lendAll, lendC, seek, fresh, nav, rcells, RT.cells, VV.cells, tabE_cons, tabS_cons, St.put, ev, lit, take_map_len, sRow_r1, sRow_comp, sRow_clean, iRow_r1, iRow_clean, take_map_len, lit, sRow_fine]) rfl rfl (by simp [rcells, RT.cells, CT.fine, T.fine, sRow_r1, sRow_comp, sRow_clean, iRow_r1, iRow_clean, take_map_len, lit, sRow_fine]) (by exact ⟨.inr ⟨66561, _, _, rfl, .head _, .head _⟩, trivial, trivial, trivial⟩) rfl rfl, ?_⟩
  simp only [runH, runX, go_sem, setCells, setIn]
  exact vw_ret (e_ret (ret_by rfl rfl (by simp [RB]) rfl (by simp only [takeCs, takeC, go_sem, setCells, setIn])))
theorem drawOpBad_small (L : List UInt8) (c : Cur) : (drawOpBad L c).1.path.size ≤ 100 ∧ (drawOpBad L c).1.to.size ≤ 100 := by
  have hb : ∀ d, (drawBad L d).size ≤ 100 := fun d => by
    unfold drawBad drawPath
    have hb : ∀ x ∈ badL, x.size ≤ 100 := by decide
    have hp : ∀ x ∈ pathL, x.size ≤ 100 := by decide
    split
    · exact hb _ (pickV_mem L _ _ (by decide))
    · exact hp _ (pickV_mem L _ _ (by decide))
  have ho := drawOp_small L c
  unfold drawOpBad
  generalize drawOp L c = p at ho
  obtain ⟨o, d⟩ := p
  simp only at ho ⊢
  split
  · exact ⟨by simp only; omega, by simp only; omega⟩
  split
  · exact ⟨hb _, by simp only; omega⟩
  split
  · exact ⟨by simp only; omega, hb _⟩
  split
  · exact ⟨by simp only; omega, by simp only; omega⟩
  · exact ⟨by simp only; omega, by simp only; omega⟩
set_option maxHeartbeats 4000000 in
theorem runs_5 (L : List UInt8) (hL63 : L.length < 2 ^ 63) : Runs Tryz.prog 5 [.one (.v (.list false 1 (L.map bRow)))] [.one (.v (.bool true))] [] := by
  refine runs_tab (tab := [(0, .c (.list false 1 (L.map bRow)))]) (rts := []) (n := 151) (k := 1) Tryz.func5 rfl rfl (by simp) rfl (fun t => ?_) rfl ?_
  · rcases t with _ | t <;> rfl
  have rB := runs_15 L hL63
  by_cases hbig : 1048576 < (L.length : Int)
  · rw [decide_eq_true hbig] at rB
    refine vw_go rfl ?_; simp only [go_sem, setCells, setIn]
    refine vw_seq ?_
    refine vw_go rfl ?_; simp only [go_sem, setCells, setIn]
    refine ⟨_, _, call_rx [0] Tryz.func15 (rB) rfl rfl rfl rfl rfl rfl rfl (by simp [lendAll, lendC, seek, fresh, nav, rcells, RT.cells, VV.cells, tabE_cons, tabS_cons, ev, take_map_len, sRow_r1, sRow_comp, sRow_clean, iRow_r1, iRow_clean, take_map_len, lit]) rfl (by simp [rcells, RT.cells, CT.clean, T.clean, sRow_r1, sRow_comp, sRow_clean, iRow_r1, iRow_clean, take_map_len, lit]) rfl rfl, ?_⟩
    simp only [runH, runX, go_sem, setCells, setIn]
    refine vw_cond (t := true) rfl (fun _ => ?_) (fun h => nomatch h)
    refine vw_go rfl ?_; simp only [go_sem, setCells, setIn]
    exact vw_ret (r_then (e_ret (ret_of rfl rfl (by simp [RB]) rfl rfl)))
  have hL : L.length < 2 ^ 60 := by omega
  rw [decide_eq_false hbig] at rB
  have hV := drawV_fit L (newC L)
  have rDV := runs_17 L hL _ rfl
  generalize (drawV L (newC L)).1 = y at rDV hV
  obtain ⟨f1, f2⟩ := hV
  have rIi := runs_16 y (by omega) (fun s hs => Nat.le_trans (f2 s hs) (by decide))
  have rIs := runs_18 y (by omega) (fun s hs => Nat.le_trans (f2 s hs) (by decide))
  have hIN := (itemsOk_N (vol_items (l := y))).len
  generalize itemsV y = its at rIi rIs hIN
  have hI := drawI_fit L (newC L)
  have hS : (drawSame L).1.length ≤ 12 ∧ (drawSame L).2.length ≤ 12 := by
    have h2 := drawI_fit L (byteC L (drawI L (newC L)).2)
    unfold drawSame
    split
    · exact ⟨hI.1, by rw [List.length_reverse]; exact hI.1⟩
    · exact ⟨hI.1, h2.1⟩
  have rDS := runs_21 L hL (drawSame L).1 (drawSame L).2 rfl
  generalize drawSame L = ab at rDS hS
  obtain ⟨a, b⟩ := ab
  simp only at rDS hS
  obtain ⟨ha, hb⟩ := hS
  have rDI := runs_22 L hL _ rfl
  have rDF := runs_23 L hL _ rfl _ rfl
  have rDP := runs_20 L hL _ rfl _ rfl
  have ho := drawOpBad_small L (drawI L (newC L)).2
  generalize (drawOpBad L (drawI L (newC L)).2).1 = o at rDP ho
  generalize drawBad L (drawI L (newC L)).2 = p at rDF
  generalize (drawI L (newC L)).1 = l at rDI rDF rDP hI
  obtain ⟨h12, h100⟩ := hI
  obtain ⟨o1, o2⟩ := ho
  have hl : l.length ≤ 2 ^ 20 := by omega
  have hls : ∀ x ∈ l, x.1.size ≤ 2 ^ 20 := fun x hx => Nat.le_trans (h100 x hx) (by decide)
  have rPi := runs_11 l hl hls o (by omega) (by omega) _ rfl
  have rPs := runs_8 l hl hls o (by omega) (by omega) _ rfl
  have rOi := runs_25 l hls (by omega)
  have rOs := runs_26 l hls (by omega)
  have rFi := runs_27 l p (by omega)
  have rFs := runs_28 l p (by omega)
  generalize idxOf (hasPath p) l 0 = fi at rFi rFs
  have rSi := runs_19 a b (by omega) (by omega)
  have rSs := runs_24 a b (by omega) (by omega)
  generalize sameB a b = sb at rSi rSs
  have rSI := runs_19 its its (by omega) (by omega)
  rw [same_refl] at rSI
  have hrl : l.reverse.length ≤ 2 ^ 20 := by rw [List.length_reverse]; exact hl
  have hrs : ∀ x ∈ l.reverse, x.1.size ≤ 2 ^ 20 := fun x hx => hls x (List.mem_reverse.1 hx)
  have rPb := runs_11 l.reverse hrl hrs o (by omega) (by omega) _ rfl
  have rOb := runs_25 l.reverse hrs (by omega)
  have hbad : itemsOk l = false → (plainL l o).2.1 = 1 := fun h => by unfold plainL; rw [if_pos (.inl h)]
  have hlen := plainL_len l o
  have hgood : itemsOk l = true → itemsOk l.reverse = true ∧ OkN (plainL l o).1 ∧ (plainL l.reverse o).2.1 = (plainL l o).2.1 ∧ sameB (plainL l.reverse o).1 (plainL l o).1 = true ∧ (plainL l.reverse o).1.length ≤ 100 := fun h => by
    have hN := itemsOk_N h
    have hp := (List.reverse_perm l).symm
    have hpp := plain_perm hp hN o
    have hR := okN_perm hp hN
    exact ⟨okN_items hR, plainL_ok hN o, by rw [hpp.2], same_perm hpp.1.symm, Nat.le_trans (plainL_ok hR o).len (by decide)⟩
  generalize plainL l o = D at rPi rPs hbad hgood hlen
  obtain ⟨D, how, tx⟩ := D
  simp only at rPi rPs hbad hgood hlen
  have rSD := runs_19 D D (by omega) (by omega)
  rw [same_refl] at rSD
  have bl : List.take l.length (l.map iRow) = l.map iRow := List.take_of_length_le (by simp)
  have bD : List.take D.length (D.map iRow) = D.map iRow := List.take_of_length_le (by simp)
  have ba : List.take a.length (a.map iRow) = a.map iRow := List.take_of_length_le (by simp)
  have bb : List.take b.length (b.map iRow) = b.map iRow := List.take_of_length_le (by simp)
  have by' : List.take y.length (y.map sRow) = y.map sRow := List.take_of_length_le (by simp)
  have bi : List.take its.length (its.map iRow) = its.map iRow := List.take_of_length_le (by simp)
  refine vw_go rfl ?_; simp only [go_sem, setCells, setIn]
  refine vw_seq ?_
  refine vw_go rfl ?_; simp only [go_sem, setCells, setIn]
  refine ⟨_, _, call_rx [0] Tryz.func15 (rB) rfl rfl rfl rfl rfl rfl rfl (by simp [lendAll, lendC, seek, fresh, nav, rcells, RT.cells, VV.cells, tabE_cons, tabS_cons, ev, take_map_len, sRow_r1, sRow_comp, sRow_clean, iRow_r1, iRow_clean, take_map_len, lit]) rfl (by simp [rcells, RT.cells, CT.clean, T.clean, sRow_r1, sRow_comp, sRow_clean, iRow_r1, iRow_clean, take_map_len, lit]) rfl rfl, ?_⟩
  simp only [runH, runX, go_sem, setCells, setIn]
  refine vw_cond (t := false) rfl (fun h => nomatch h) (fun _ => ?_)
  refine vw_skip (n_then ?_)
  refine vw_go rfl ?_; simp only [go_sem, setCells, setIn]
  refine ⟨_, _, call_rx [0] Tryz.func20 (rDP) rfl rfl rfl rfl rfl rfl rfl (by simp [lendAll, lendC, seek, fresh, nav, rcells, RT.cells, VV.cells, tabE_cons, tabS_cons, ev, take_map_len, sRow_r1, sRow_comp, sRow_clean, iRow_r1, iRow_clean, take_map_len, lit]) rfl (by simp [rcells, RT.cells, CT.clean, T.clean, sRow_r1, sRow_comp, sRow_clean, iRow_r1, iRow_clean, take_map_len, lit]) rfl rfl, ?_⟩
  simp only [runH, runX, bl, go_sem, setCells, setIn]
  refine vw_go rfl ?_; simp only [bl, go_sem, setCells, setIn]
  refine ⟨_, _, call_rx [0, 0] Tryz.func11 (rPi) rfl rfl rfl rfl rfl rfl rfl (by simp [lendAll, lendC, seek, fresh, nav, rcells, RT.cells, VV.cells, tabE_cons, tabS_cons, ev, take_map_len, sRow_r1, sRow_comp, sRow_clean, iRow_r1, iRow_clean, take_map_len, lit, bl]) rfl (by simp [rcells, RT.cells, CT.clean, T.clean, sRow_r1, sRow_comp, sRow_clean, iRow_r1, iRow_clean, take_map_len, lit, bl]) rfl rfl, ?_⟩
  simp only [runH, runX, bl, bD, go_sem, setCells, setIn]
  refine vw_go rfl ?_; simp only [bl, go_sem, setCells, setIn]
  refine ⟨_, _, call_rx [0, 0] Tryz.func8 (rPs) rfl rfl rfl rfl rfl rfl rfl (by simp [lendAll, lendC, seek, fresh, nav, rcells, RT.cells, VV.cells, tabE_cons, tabS_cons, ev, take_map_len, sRow_r1, sRow_comp, sRow_clean, iRow_r1, iRow_clean, take_map_len, lit, bl]) rfl (by simp [rcells, RT.cells, CT.clean, T.clean, sRow_r1, sRow_comp, sRow_clean, iRow_r1, iRow_clean, take_map_len, lit, bl]) rfl rfl, ?_⟩
  simp only [runH, runX, bl, bD, go_sem, setCells, setIn]
  refine vw_seq ?_
  refine vw_go rfl ?_; simp only [bl, bD, go_sem, setCells, setIn]
  refine ⟨_, _, call_rx [0, 0] Tryz.func19 (rSD) rfl rfl rfl rfl rfl rfl rfl (by simp [lendAll, lendC, seek, fresh, nav, rcells, RT.cells, VV.cells, tabE_cons, tabS_cons, ev, take_map_len, sRow_r1, sRow_comp, sRow_clean, iRow_r1, iRow_clean, take_map_len, lit, bD]) rfl (by simp [rcells, RT.cells, CT.clean, T.clean, sRow_r1, sRow_comp, sRow_clean, iRow_r1, iRow_clean, take_map_len, lit, bD]) rfl rfl, ?_⟩
  simp only [runH, runX, bl, bD, go_sem, setCells, setIn]
  refine vw_cond (t := false) rfl (fun h => nomatch h) (fun _ => ?_)
  refine vw_skip (n_then ?_)
  refine vw_go rfl ?_; simp only [bl, bD, go_sem, setCells, setIn]
  refine ⟨_, _, call_rx [0] Tryz.func21 (rDS) rfl rfl rfl rfl rfl rfl rfl (by simp [lendAll, lendC, seek, fresh, nav, rcells, RT.cells, VV.cells, tabE_cons, tabS_cons, ev, take_map_len, sRow_r1, sRow_comp, sRow_clean, iRow_r1, iRow_clean, take_map_len, lit]) rfl (by simp [rcells, RT.cells, CT.clean, T.clean, sRow_r1, sRow_comp, sRow_clean, iRow_r1, iRow_clean, take_map_len, lit]) rfl rfl, ?_⟩
  simp only [runH, runX, bl, bD, ba, bb, go_sem, setCells, setIn]
  refine vw_go rfl ?_; simp only [go_sem, setCells, setIn]
  refine ⟨_, _, call_rx [0] Tryz.func22 (rDI) rfl rfl rfl rfl rfl rfl rfl (by simp [lendAll, lendC, seek, fresh, nav, rcells, RT.cells, VV.cells, tabE_cons, tabS_cons, ev, take_map_len, sRow_r1, sRow_comp, sRow_clean, iRow_r1, iRow_clean, take_map_len, lit]) rfl (by simp [rcells, RT.cells, CT.clean, T.clean, sRow_r1, sRow_comp, sRow_clean, iRow_r1, iRow_clean, take_map_len, lit]) rfl rfl, ?_⟩
  simp only [runH, runX, bl, bD, ba, bb, go_sem, setCells, setIn]
  refine vw_go rfl ?_; simp only [go_sem, setCells, setIn]
  refine ⟨_, _, call_rx [0] Tryz.func17 (rDV) rfl rfl rfl rfl rfl rfl rfl (by simp [lendAll, lendC, seek, fresh, nav, rcells, RT.cells, VV.cells, tabE_cons, tabS_cons, ev, take_map_len, sRow_r1, sRow_comp, sRow_clean, iRow_r1, iRow_clean, take_map_len, lit]) rfl (by simp [rcells, RT.cells, CT.clean, T.clean, sRow_r1, sRow_comp, sRow_clean, iRow_r1, iRow_clean, take_map_len, lit]) rfl rfl, ?_⟩
  simp only [runH, runX, bl, bD, ba, bb, by', go_sem, setCells, setIn]
  refine vw_go rfl ?_; simp only [go_sem, setCells, setIn]
  refine ⟨_, _, call_rx [0] Tryz.func23 (rDF) rfl rfl rfl rfl rfl rfl rfl (by simp [lendAll, lendC, seek, fresh, nav, rcells, RT.cells, VV.cells, tabE_cons, tabS_cons, ev, take_map_len, sRow_r1, sRow_comp, sRow_clean, iRow_r1, iRow_clean, take_map_len, lit]) rfl (by simp [rcells, RT.cells, CT.clean, T.clean, sRow_r1, sRow_comp, sRow_clean, iRow_r1, iRow_clean, take_map_len, lit]) rfl rfl, ?_⟩
  simp only [runH, runX, bl, bD, ba, bb, by', go_sem, setCells, setIn]
  refine vw_seq ?_
  refine vw_go rfl ?_; simp only [ba, bb, go_sem, setCells, setIn]
  refine ⟨_, _, call_rx [0, 0] Tryz.func19 (rSi) rfl rfl rfl rfl rfl rfl rfl (by simp [lendAll, lendC, seek, fresh, nav, rcells, RT.cells, VV.cells, tabE_cons, tabS_cons, ev, take_map_len, sRow_r1, sRow_comp, sRow_clean, iRow_r1, iRow_clean, take_map_len, lit, ba, bb]) rfl (by simp [rcells, RT.cells, CT.clean, T.clean, sRow_r1, sRow_comp, sRow_clean, iRow_r1, iRow_clean, take_map_len, lit, ba, bb]) rfl rfl, ?_⟩
  (unfold runH; simp (maxSteps := 1000000) only [ba, bb, go_sem, setCells, setIn])
  refine ⟨_, _, call_rx [0, 0] Tryz.func24 (rSs) rfl rfl rfl rfl rfl rfl rfl (by simp [lendAll, lendC, seek, fresh, nav, rcells, RT.cells, VV.cells, tabE_cons, tabS_cons, ev, take_map_len, sRow_r1, sRow_comp, sRow_clean, iRow_r1, iRow_clean, take_map_len, lit, ba, bb]) rfl (by simp [rcells, RT.cells, CT.clean, T.clean, sRow_r1, sRow_comp, sRow_clean, iRow_r1, iRow_clean, take_map_len, lit, ba, bb]) rfl rfl, ?_⟩
  (unfold runH; simp (maxSteps := 1000000) only [bl, beq_self_eq_true, go_sem, setCells, setIn])
  refine ⟨_, _, call_rx [0] Tryz.func25 (rOi) rfl rfl rfl rfl rfl rfl rfl (by simp [lendAll, lendC, seek, fresh, nav, rcells, RT.cells, VV.cells, tabE_cons, tabS_cons, ev, take_map_len, sRow_r1, sRow_comp, sRow_clean, iRow_r1, iRow_clean, take_map_len, lit, bl]) rfl (by simp [rcells, RT.cells, CT.clean, T.clean, sRow_r1, sRow_comp, sRow_clean, iRow_r1, iRow_clean, take_map_len, lit, bl]) rfl rfl, ?_⟩
  (unfold runH; simp (maxSteps := 1000000) only [bl, beq_self_eq_true, go_sem, setCells, setIn])
  refine ⟨_, _, call_rx [0] Tryz.func26 (rOs) rfl rfl rfl rfl rfl rfl rfl (by simp [lendAll, lendC, seek, fresh, nav, rcells, RT.cells, VV.cells, tabE_cons, tabS_cons, ev, take_map_len, sRow_r1, sRow_comp, sRow_clean, iRow_r1, iRow_clean, take_map_len, lit, bl]) rfl (by simp [rcells, RT.cells, CT.clean, T.clean, sRow_r1, sRow_comp, sRow_clean, iRow_r1, iRow_clean, take_map_len, lit, bl]) rfl rfl, ?_⟩
  (unfold runH; simp (maxSteps := 1000000) only [bl, by', beq_self_eq_true, go_sem, setCells, setIn])
  refine ⟨_, _, call_rx [0] Tryz.func16 (rIi) rfl rfl rfl rfl rfl rfl rfl (by simp [lendAll, lendC, seek, fresh, nav, rcells, RT.cells, VV.cells, tabE_cons, tabS_cons, ev, take_map_len, sRow_r1, sRow_comp, sRow_clean, iRow_r1, iRow_clean, take_map_len, lit, by']) rfl (by simp [rcells, RT.cells, CT.clean, T.clean, sRow_r1, sRow_comp, sRow_clean, iRow_r1, iRow_clean, take_map_len, lit, by']) rfl rfl, ?_⟩
  (unfold runH; simp (maxSteps := 1000000) only [bi, by', beq_self_eq_true, go_sem, setCells, setIn])
  refine ⟨_, _, call_rx [0] Tryz.func18 (rIs) rfl rfl rfl rfl rfl rfl rfl (by simp [lendAll, lendC, seek, fresh, nav, rcells, RT.cells, VV.cells, tabE_cons, tabS_cons, ev, take_map_len, sRow_r1, sRow_comp, sRow_clean, iRow_r1, iRow_clean, take_map_len, lit, by']) rfl (by simp [rcells, RT.cells, CT.clean, T.clean, sRow_r1, sRow_comp, sRow_clean, iRow_r1, iRow_clean, take_map_len, lit, by']) rfl rfl, ?_⟩
  (unfold runH; simp (maxSteps := 1000000) only [bi, by', beq_self_eq_true, go_sem, setCells, setIn])
  refine ⟨_, _, call_rx [0, 0] Tryz.func19 (rSI) rfl rfl rfl rfl rfl rfl rfl (by simp [lendAll, lendC, seek, fresh, nav, rcells, RT.cells, VV.cells, tabE_cons, tabS_cons, ev, take_map_len, sRow_r1, sRow_comp, sRow_clean, iRow_r1, iRow_clean, take_map_len, lit, bi]) rfl (by simp [rcells, RT.cells, CT.clean, T.clean, sRow_r1, sRow_comp, sRow_clean, iRow_r1, iRow_clean, take_map_len, lit, bi]) rfl rfl, ?_⟩
  (unfold runH; simp (maxSteps := 1000000) only [bl, beq_self_eq_true, go_sem, setCells, setIn])
  refine ⟨_, _, call_rx [0, 0] Tryz.func27 (rFi) rfl rfl rfl rfl rfl rfl rfl (by simp [lendAll, lendC, seek, fresh, nav, rcells, RT.cells, VV.cells, tabE_cons, tabS_cons, ev, take_map_len, sRow_r1, sRow_comp, sRow_clean, iRow_r1, iRow_clean, take_map_len, lit, bl]) rfl (by simp [rcells, RT.cells, CT.clean, T.clean, sRow_r1, sRow_comp, sRow_clean, iRow_r1, iRow_clean, take_map_len, lit, bl]) rfl rfl, ?_⟩
  (unfold runH; simp (maxSteps := 1000000) only [bl, beq_self_eq_true, go_sem, setCells, setIn])
  refine ⟨_, _, call_rx [0, 0] Tryz.func28 (rFs) rfl rfl rfl rfl rfl rfl rfl (by simp [lendAll, lendC, seek, fresh, nav, rcells, RT.cells, VV.cells, tabE_cons, tabS_cons, ev, take_map_len, sRow_r1, sRow_comp, sRow_clean, iRow_r1, iRow_clean, take_map_len, lit, bl]) rfl (by simp [rcells, RT.cells, CT.clean, T.clean, sRow_r1, sRow_comp, sRow_clean, iRow_r1, iRow_clean, take_map_len, lit, bl]) rfl rfl, ?_⟩
  simp only [runH, runX, bl, beq_self_eq_true, go_sem, setCells, setIn]
  refine vw_cond (t := false) rfl (fun h => nomatch h) (fun _ => ?_)
  refine vw_skip (n_then ?_)
  refine vw_seq ?_
  refine vw_go rfl ?_; simp only [bl, go_sem, setCells, setIn]
  refine ⟨_, _, call_rx [0] Tryz.func26 (rOs) rfl rfl rfl rfl rfl rfl rfl (by simp [lendAll, lendC, seek, fresh, nav, rcells, RT.cells, VV.cells, tabE_cons, tabS_cons, ev, take_map_len, sRow_r1, sRow_comp, sRow_clean, iRow_r1, iRow_clean, take_map_len, lit, bl]) rfl (by simp [rcells, RT.cells, CT.clean, T.clean, sRow_r1, sRow_comp, sRow_clean, iRow_r1, iRow_clean, take_map_len, lit, bl]) rfl rfl, ?_⟩
  simp only [runH, runX, bl, go_sem, setCells, setIn]
  cases hok : itemsOk l
  · obtain rfl := hbad hok
    refine vw_cond (t := true) (by simp [ev, tabE_cons, hok]) (fun _ => ?_) (fun h => nomatch h)
    refine vw_go rfl ?_; simp only [go_sem, setCells, setIn]
    exact vw_ret (r_then (e_ret (ret_by rfl rfl (by simp [RB]) rfl (by simp only [takeCs, takeC, go_sem, setCells, setIn]))))
  obtain ⟨hkb, hND, hcode, hsame, hrl2⟩ := hgood hok
  refine vw_cond (t := false) (by simp [ev, tabE_cons, hok]) (fun h => nomatch h) (fun _ => ?_)
  refine vw_skip (n_then ?_)
  have rOD := runs_25 D (okN_small hND).2 (by omega)
  rw [okN_items hND] at rOD
  rw [hkb] at rOb
  generalize plainL l.reverse o = U at rPb hcode hsame hrl2
  obtain ⟨U, how2, tx2⟩ := U
  simp only at rPb hcode hsame hrl2
  subst hcode
  have rST := runs_19 U D (by omega) (by omega)
  rw [hsame] at rST
  have bU : List.take U.length (U.map iRow) = U.map iRow := List.take_of_length_le (by simp)
  have w0 : IntKind.wrap .i64 ((l.length : Int) - 1) = (l.length : Int) - 1 := wrap_i64 (by omega) (by omega)
  refine vw_go rfl ?_; simp only [range1, List.replicate_succ, List.replicate_zero, List.flatten_cons, List.flatten_nil, List.range_zero, gt_iff_lt, go_sem, setCells, setIn]
  refine vw_seq ?_
  refine vw_go rfl ?_; simp only [bl, w0, go_sem, setCells, setIn]
  refine vw_block ?_
  refine vw_loop_tab (α := Nat × List It3 × List Path) (fun x => x.1) (fun x => ⟨tabE [(3, .al 1 [] 0 3 0 l.length), (4, .ptr 4 [] 0 0 0), (5, .al 3 [] 0 3 0 D.length), (6, .c (.int .i64 how2)), (17, .al 2 [] 0 3 0 x.2.1.length), (18, .c (.int .i64 ((x.1 : Int) - 1)))],
      tabS [(1, some ⟨false, 3, l.map iRow, []⟩), (2, some ⟨false, 3, x.2.1.map iRow, x.2.2⟩), (3, some ⟨false, 3, D.map iRow, []⟩), (4, some ⟨true, 4, [[.int .i64 o.kind, .str o.path, .str o.to, .str o.data]], []⟩)], 5⟩)
    (fun x => x.1 ≤ l.length ∧ x.2.1 = (l.drop x.1).reverse) (x := (l.length, [], [])) ?round ?h0 ?hn
  case h0 => exact ⟨Nat.le_refl _, by rw [List.drop_length]; rfl⟩
  case hn =>
    refine norm_to [(132097, 1), (786433, 2), (198657, 3), (136193, 4)] rfl ?_ ?_ <;> simp only [go_sem]
  rintro ⟨n, q, lg⟩ ⟨hn, hq⟩
  simp only at hn hq
  refine vw_seq ?_
  by_cases hc : (0 : Int) ≤ (n : Int) - 1
  case neg =>
    obtain rfl : n = 0 := by omega
    rw [List.drop_zero] at hq
    rw [← hq] at rPb rOb
    have bq : List.take q.length (q.map iRow) = q.map iRow := List.take_of_length_le (by simp)
    refine vw_go rfl ?_; simp only [hc, go_sem, setCells, setIn]
    refine vw_cond (t := false) rfl (fun h => nomatch h) (fun _ => ?_)
    refine vw_exit (x_then (x_then (x_block (n_then ?_))))
    refine vw_seq ?_
    refine vw_go rfl ?_; simp only [bD, go_sem, setCells, setIn]
    refine ⟨_, _, call_rx [0] Tryz.func25 (rOD) rfl rfl rfl rfl rfl rfl rfl (by simp [lendAll, lendC, seek, fresh, nav, rcells, RT.cells, VV.cells, tabE_cons, tabS_cons, ev, take_map_len, sRow_r1, sRow_comp, sRow_clean, iRow_r1, iRow_clean, take_map_len, lit, bD]) rfl (by simp [rcells, RT.cells, CT.clean, T.clean, sRow_r1, sRow_comp, sRow_clean, iRow_r1, iRow_clean, take_map_len, lit, bD]) rfl rfl, ?_⟩
    (unfold runH; simp (maxSteps := 1000000) only [bD, go_sem, setCells, setIn])
    refine ⟨_, _, call_rx [0, 0] Tryz.func19 (rSD) rfl rfl rfl rfl rfl rfl rfl (by simp [lendAll, lendC, seek, fresh, nav, rcells, RT.cells, VV.cells, tabE_cons, tabS_cons, ev, take_map_len, sRow_r1, sRow_comp, sRow_clean, iRow_r1, iRow_clean, take_map_len, lit, bD]) rfl (by simp [rcells, RT.cells, CT.clean, T.clean, sRow_r1, sRow_comp, sRow_clean, iRow_r1, iRow_clean, take_map_len, lit, bD]) rfl rfl, ?_⟩
    simp only [runH, runX, bD, go_sem, setCells, setIn]
    refine vw_cond (t := false) rfl (fun h => nomatch h) (fun _ => ?_)
    refine vw_skip (n_then ?_)
    refine vw_go rfl ?_; simp only [bq, go_sem, setCells, setIn]
    refine ⟨_, _, call_rx [0, 0] Tryz.func11 (rPb) rfl rfl rfl rfl rfl rfl rfl (by simp [lendAll, lendC, seek, fresh, nav, rcells, RT.cells, VV.cells, tabE_cons, tabS_cons, ev, take_map_len, sRow_r1, sRow_comp, sRow_clean, iRow_r1, iRow_clean, take_map_len, lit, bq]) rfl (by simp [rcells, RT.cells, CT.clean, T.clean, sRow_r1, sRow_comp, sRow_clean, iRow_r1, iRow_clean, take_map_len, lit, bq]) rfl rfl, ?_⟩
    simp only [runH, runX, bq, bU, go_sem, setCells, setIn]
    refine vw_go rfl ?_; simp only [bq, bU, go_sem, setCells, setIn]
    refine ⟨_, _, call_rx [0] Tryz.func25 (rOb) rfl rfl rfl rfl rfl rfl rfl (by simp [lendAll, lendC, seek, fresh, nav, rcells, RT.cells, VV.cells, tabE_cons, tabS_cons, ev, take_map_len, sRow_r1, sRow_comp, sRow_clean, iRow_r1, iRow_clean, take_map_len, lit, bq]) rfl (by simp [rcells, RT.cells, CT.clean, T.clean, sRow_r1, sRow_comp, sRow_clean, iRow_r1, iRow_clean, take_map_len, lit, bq]) rfl rfl, ?_⟩
    (unfold runH; simp (maxSteps := 1000000) only [bU, bD, go_sem, setCells, setIn])
    refine ⟨_, _, call_rx [0, 0] Tryz.func19 (rST) rfl rfl rfl rfl rfl rfl rfl (by simp [lendAll, lendC, seek, fresh, nav, rcells, RT.cells, VV.cells, tabE_cons, tabS_cons, ev, take_map_len, sRow_r1, sRow_comp, sRow_clean, iRow_r1, iRow_clean, take_map_len, lit, bD, bU]) rfl (by simp [rcells, RT.cells, CT.clean, T.clean, sRow_r1, sRow_comp, sRow_clean, iRow_r1, iRow_clean, take_map_len, lit, bD, bU]) rfl rfl, ?_⟩
    simp only [runH, runX, bD, go_sem, setCells, setIn]
    exact vw_ret (e_ret (ret_by rfl rfl (by simp [RB]) rfl (by simp only [takeCs, takeC, go_sem, setCells, setIn])))
  obtain ⟨i, rfl⟩ : ∃ i, n = i + 1 := ⟨n - 1, by omega⟩
  obtain ⟨x, hx⟩ : ∃ x, l[i]? = some x := ⟨_, List.getElem?_eq_getElem (by omega)⟩
  have e0 : ((i + 1 : Nat) : Int) - 1 = (i : Int) := by omega
  rw [e0] at hc
  have hr := rev_step hx
  rw [← hq] at hr
  have hin : i < l.length := by omega
  have hii : (i : Int) < l.length := by omega
  have hql : q.length ≤ 12 := by rw [hq]; simp; omega
  have bq : List.take q.length (q.map iRow) = q.map iRow := List.take_of_length_le (by simp)
  have B1 : ¬ (q.length + 1 + 1) * (40 + 1) > bigRow := big41 (by omega)
  have w3 : IntKind.wrap .i64 ((i:Int) - 1) = (i:Int) - 1 := wrap_i64 (by omega) (by omega)
  refine vw_go rfl ?_; simp only [e0, hc, go_sem, setCells, setIn]
  refine vw_cond (t := true) rfl (fun _ => ?_) (fun h => nomatch h)
  refine vw_skip (n_then ?_)
  refine vw_seq ?_
  refine vw_block ?_
  refine vw_last rfl ?_; simp only [hc, hii, hin, Int.toNat_natCast, getD_map_of hx, iRow, B1, bq, List.drop_length, range1, List.replicate_succ, List.replicate_zero, List.flatten_cons, List.flatten_nil, List.range_zero, gt_iff_lt, go_sem, setCells, setIn]
  refine (n_block (n_then ?_))
  refine vw_last rfl ?_; simp only [w3, go_sem, setCells, setIn]
  refine (n_then ?_)
  have e4 : q.map iRow ++ [[.str x.1, .bool x.2.1, .str x.2.2]] = (q ++ [x]).map iRow := by simp [iRow]
  rw [e4]
  refine ⟨(i, q ++ [x], []), by simp only; omega, ⟨by simp only; omega, hr.symm⟩, ?_⟩
  have e5 : q.length + 1 = (q ++ [x]).length := by simp
  rw [e5]
  generalize q ++ [x] = q'
  refine norm_to [(1, 1), (71685, 2), (3, 3), (4, 4)] rfl ?_ ?_ <;> simp only [go_sem]
end Go.Proofs.YtoenfbbadfcfpaaGreatDoor
