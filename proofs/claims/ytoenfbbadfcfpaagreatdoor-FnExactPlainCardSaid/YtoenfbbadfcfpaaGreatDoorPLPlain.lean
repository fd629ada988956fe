/- Plain of the program: the whole. Marks of Item values: a slice marked, marks read again, a slice cloned. Printed by a program (mfun.py). The law FnExactPlain. -/
import Derived.Test.YtoenfbbadfcfpaaGreatDoorPFPlainF
import Derived.Test.YtoenfbbadfcfpaaGreatDoorPFPrim
import Derived.Test.YtoenfbbadfcfpaaGreatDoorPFTypedO
import Derived.Test.YtoenfbbadfcfpaaGreatDoorPFItem2
namespace Go.Proofs.YtoenfbbadfcfpaaGreatDoor
open Go.VM Go
set_option maxRecDepth 100000
set_option linter.unusedSimpArgs false
set_option linter.unusedVariables false
attribute [-go_sem] runW_cons
attribute [local congr] vw_congr runV_congr runH_congr runW_congr runX_congr stuckV_congr stuckX_congr

set_option maxHeartbeats 2000000 in
theorem runs_11 (l : List It3) (hl : l.length ≤ 2 ^ 20) (hb : ∀ x ∈ l, x.1.size ≤ 2 ^ 20) (o : OpV) (hp : o.path.size ≤ 2 ^ 20) (ht : o.to.size ≤ 2 ^ 20) (R : Plain3) (hR : R = plainL l o) :
    Runs Tryz.prog 11 [.one (.v (.list false 3 (l.map iRow))), .agg [.v (.int .i64 o.kind), .v (.str o.path), .v (.str o.to), .v (.str o.data)]] [.one (.v (.list true 3 (R.1.map iRow))), .one (.v (.int .i64 R.2.1)), .one (.v (.str R.2.2))] [] := by
  refine runs_tab (tab := [(0, .c (.list false 3 (l.map iRow))), (1, .agg [.c (.int .i64 o.kind), .c (.str o.path), .c (.str o.to), .c (.str o.data)])]) (rts := []) (n := 55) (k := 5) Tryz.func11 rfl rfl (by simp) rfl (fun t => ?_) rfl ?_
  · rcases t with _ | _ | t <;> rfl
  unfold plainL at hR
  have bl : List.take l.length (l.map iRow) = l.map iRow := List.take_of_length_le (by simp)
  have rC := runs_34 l hl
  have rI := runs_25 l hb (by omega)
  have rO := runs_35 o hp ht
  (refine vw_go rfl ?_; simp only [go_sem, setCells, setIn])
  (refine vw_go rfl ?_; simp only [go_sem, setCells, setIn])
  (refine ⟨_, _, call_rx [0] Tryz.func34 (rC) rfl rfl rfl rfl rfl rfl rfl (by simp [lendAll, lendC, seek, fresh, nav, rcells, RT.cells, VV.cells, tabE_cons, tabS_cons, ev, take_map_len, iRow_r1, iRow_clean, sRow_r1, sRow_comp, sRow_clean]) rfl (by simp [rcells, RT.cells, CT.clean, T.clean, iRow_r1, iRow_clean, sRow_r1, sRow_comp, sRow_clean]) rfl rfl, ?_⟩)
  simp only [runH, runX, bl, go_sem, setCells, setIn]
  refine vw_seq ?_
  (refine vw_go rfl ?_; simp only [bl, go_sem, setCells, setIn])
  (refine ⟨_, _, call_rx [0] Tryz.func25 (rI) rfl rfl rfl rfl rfl rfl rfl (by simp [lendAll, lendC, seek, fresh, nav, rcells, RT.cells, VV.cells, tabE_cons, tabS_cons, ev, take_map_len, iRow_r1, iRow_clean, sRow_r1, sRow_comp, sRow_clean]) rfl (by simp [rcells, RT.cells, CT.clean, T.clean, iRow_r1, iRow_clean, sRow_r1, sRow_comp, sRow_clean]) rfl rfl, ?_⟩)
  cases hv : itemsOk l
  · rw [if_pos (.inl hv)] at hR
    subst hR
    (unfold runH; simp (maxSteps := 1000000) only [bl, hv, go_sem, setCells, setIn])
    (refine vw_cond (t := true) rfl (fun _ => ?_) (fun h => nomatch h))
    (refine vw_go rfl ?_; simp only [bl, go_sem, setCells, setIn])
    exact vw_ret (r_then (e_ret (ret_by rfl rfl (by simp [RB]) rfl (by simp only [takeCs, takeC, go_sem, setCells, setIn]))))
  obtain ⟨h11, h100⟩ := itemsOk_small hv
  (unfold runH; simp (maxSteps := 1000000) only [bl, hv, go_sem, setCells, setIn])
  (refine ⟨_, _, call_rx [0] Tryz.func35 (rO) rfl rfl rfl rfl rfl rfl rfl (by simp [lendAll, lendC, seek, fresh, nav, rcells, RT.cells, VV.cells, tabE_cons, tabS_cons, ev, take_map_len, iRow_r1, iRow_clean, sRow_r1, sRow_comp, sRow_clean]) rfl (by simp [rcells, RT.cells, CT.clean, T.clean, iRow_r1, iRow_clean, sRow_r1, sRow_comp, sRow_clean]) rfl rfl, ?_⟩)
  cases ho : opOk o
  · rw [if_pos (.inr ho)] at hR
    subst hR
    simp only [runH, runX, bl, ho, go_sem, setCells, setIn]
    (refine vw_cond (t := true) rfl (fun _ => ?_) (fun h => nomatch h))
    (refine vw_go rfl ?_; simp only [bl, go_sem, setCells, setIn])
    exact vw_ret (r_then (e_ret (ret_by rfl rfl (by simp [RB]) rfl (by simp only [takeCs, takeC, go_sem, setCells, setIn]))))
  rw [if_neg (by rw [hv, ho]; rintro (h | h) <;> cases h)] at hR
  obtain ⟨o1, o2, o3, o4, o5⟩ := opOk_small ho
  have hto : o.kind = 6 → pathOk o.to = true := fun h => by
    unfold opOk at ho
    simp only [Bool.and_eq_true, Bool.or_eq_true, decide_eq_true_eq] at ho
    rcases ho.2.2.2 with h2 | h2
    · exact absurd h h2
    · exact h2
  simp only [runH, runX, bl, ho, go_sem, setCells, setIn]
  (refine vw_cond (t := false) rfl (fun h => nomatch h) (fun _ => ?_))
  refine vw_skip (n_then ?_)
  (refine vw_go rfl ?_; simp only [go_sem, setCells, setIn])
  refine vw_seq ?_
  (refine vw_go rfl ?_; simp only [go_sem, setCells, setIn])
  refine vw_block ?_
  refine vw_seq ?_
  by_cases k12 : o.kind = 1 ∨ o.kind = 2
  · rw [if_pos k12] at hR
    have rN := runs_36 l h11 o (by omega) _ rfl
    generalize makeL l o = mk at rN hR
    obtain ⟨m1, m2⟩ := mk
    simp only at rN hR
    subst hR
    have bm : List.take m1.length (m1.map iRow) = m1.map iRow := List.take_of_length_le (by simp)
    by_cases k1 : o.kind = 1
    · have q1 : decide (o.kind = 1) = true := by simp [k1]
      (refine vw_go rfl ?_; simp only [q1, go_sem, setCells, setIn])
      refine vw_cond (t := true) rfl (fun _ => ?_) (fun h => nomatch h)
      refine vw_skip (n_then ?_)
      refine vw_cond (t := true) rfl (fun _ => ?_) (fun h => nomatch h)
      (refine vw_last rfl ?_; simp only [bl, List.drop_length, go_sem, setCells, setIn])
      (refine ⟨_, _, call_own [0, 0] [(66565, none)] Tryz.func36 (rN) rfl rfl rfl rfl rfl rfl rfl (by simp [takeCs, takeC, takeV, seek, fresh, nav, takenUp, rcells, RT.cells, VV.cells, tabE_cons, tabS_cons, ups_tab, ups_nil, ev, take_map_len, bl, iRow_r1, iRow_clean, List.drop_length]) rfl (by simp [rcells, RT.cells, CT.clean, T.clean, bl, iRow_r1, iRow_clean, List.drop_length]) rfl rfl, ?_⟩)
      simp only [runH, runX, bm, go_sem, setCells, setIn]
      refine (n_block (n_then ?_))
      (refine vw_go rfl ?_; simp only [bm, go_sem, setCells, setIn])
      refine vw_ret ?_
      repeat (first | refine r_then ?_ | refine r_block ?_)
      exact e_ret (ret_by rfl rfl (by simp [RB]) rfl (by simp only [takeCs, takeC, go_sem, setCells, setIn]))
    · have q1 : decide (o.kind = 1) = false := by simp [k1]
      have k2 : o.kind = 2 := by rcases k12 with h | h; exact absurd h k1; exact h
      have q2 : decide (o.kind = 2) = true := by simp [k2]
      (refine vw_go rfl ?_; simp only [q1, go_sem, setCells, setIn])
      (refine vw_cond (t := false) rfl (fun h => nomatch h) (fun _ => ?_))
      (refine vw_last rfl ?_; simp only [q2, go_sem, setCells, setIn])
      refine (n_then ?_)
      (refine vw_cond (t := true) rfl (fun _ => ?_) (fun h => nomatch h))
      (refine vw_last rfl ?_; simp only [bl, List.drop_length, go_sem, setCells, setIn])
      (refine ⟨_, _, call_own [0, 0] [(66565, none)] Tryz.func36 (rN) rfl rfl rfl rfl rfl rfl rfl (by simp [takeCs, takeC, takeV, seek, fresh, nav, takenUp, rcells, RT.cells, VV.cells, tabE_cons, tabS_cons, ups_tab, ups_nil, ev, take_map_len, bl, iRow_r1, iRow_clean, List.drop_length]) rfl (by simp [rcells, RT.cells, CT.clean, T.clean, bl, iRow_r1, iRow_clean, List.drop_length]) rfl rfl, ?_⟩)
      simp only [runH, runX, bm, go_sem, setCells, setIn]
      refine (n_block (n_then ?_))
      (refine vw_go rfl ?_; simp only [bm, go_sem, setCells, setIn])
      refine vw_ret ?_
      repeat (first | refine r_then ?_ | refine r_block ?_)
      exact e_ret (ret_by rfl rfl (by simp [RB]) rfl (by simp only [takeCs, takeC, go_sem, setCells, setIn]))
  rw [if_neg k12] at hR
  have k1 : ¬ o.kind = 1 := fun h => k12 (.inl h)
  have k2 : ¬ o.kind = 2 := fun h => k12 (.inr h)
  have q1 : decide (o.kind = 1) = false := by simp [k1]
  have q2 : decide (o.kind = 2) = false := by simp [k2]
  (refine vw_go rfl ?_; simp only [q1, go_sem, setCells, setIn])
  (refine vw_cond (t := false) rfl (fun h => nomatch h) (fun _ => ?_))
  (refine vw_last rfl ?_; simp only [q2, go_sem, setCells, setIn])
  refine (n_then ?_)
  (refine vw_cond (t := false) rfl (fun h => nomatch h) (fun _ => ?_))
  by_cases k5 : o.kind = 5
  · have q5 : decide (o.kind = 5) = true := by simp [k5]
    have hd : R = ((if foldF l o.path = 2 then (l, 2) else dropL l o).1, (if foldF l o.path = 2 then (l, 2) else dropL l o).2, ⟨#[]⟩) := by
      rw [hR]; unfold doL; rw [if_pos k5]; split <;> rfl
    have rD := runs_37 l hv o (by omega) _ rfl
    generalize (if foldF l o.path = 2 then (l, (2 : Int)) else dropL l o) = mk at rD hd
    obtain ⟨m1, m2⟩ := mk
    simp only at rD hd
    clear hR
    subst hd
    have bm : List.take m1.length (m1.map iRow) = m1.map iRow := List.take_of_length_le (by simp)
    (refine vw_go rfl ?_; simp only [q5, go_sem, setCells, setIn])
    (refine vw_cond (t := true) rfl (fun _ => ?_) (fun h => nomatch h))
    (refine vw_last rfl ?_; simp only [bl, List.drop_length, go_sem, setCells, setIn])
    (refine ⟨_, _, call_own [0, 0] [(66565, none)] Tryz.func37 (rD) rfl rfl rfl rfl rfl rfl rfl (by simp [takeCs, takeC, takeV, seek, fresh, nav, takenUp, rcells, RT.cells, VV.cells, tabE_cons, tabS_cons, ups_tab, ups_nil, ev, take_map_len, bl, iRow_r1, iRow_clean, List.drop_length]) rfl (by simp [rcells, RT.cells, CT.clean, T.clean, bl, iRow_r1, iRow_clean, List.drop_length]) rfl rfl, ?_⟩)
    simp only [runH, runX, bm, go_sem, setCells, setIn]
    refine (n_block (n_then ?_))
    (refine vw_go rfl ?_; simp only [bm, go_sem, setCells, setIn])
    refine vw_ret ?_
    repeat (first | refine r_then ?_ | refine r_block ?_)
    exact e_ret (ret_by rfl rfl (by simp [RB]) rfl (by simp only [takeCs, takeC, go_sem, setCells, setIn]))
  have q5 : decide (o.kind = 5) = false := by simp [k5]
  (refine vw_go rfl ?_; simp only [q5, go_sem, setCells, setIn])
  (refine vw_cond (t := false) rfl (fun h => nomatch h) (fun _ => ?_))
  by_cases k6 : o.kind = 6
  · have q6 : decide (o.kind = 6) = true := by simp [k6]
    have hd : R = ((if foldF l o.path = 2 then (l, 2) else moveL l o).1, (if foldF l o.path = 2 then (l, 2) else moveL l o).2, ⟨#[]⟩) := by
      rw [hR]; unfold doL; rw [if_neg k5, if_pos k6]; split <;> rfl
    have rD := runs_38 l hv o (by omega) (by have := o2 k6; omega) (hto k6) _ rfl
    generalize (if foldF l o.path = 2 then (l, (2 : Int)) else moveL l o) = mk at rD hd
    obtain ⟨m1, m2⟩ := mk
    simp only at rD hd
    clear hR
    subst hd
    have bm : List.take m1.length (m1.map iRow) = m1.map iRow := List.take_of_length_le (by simp)
    (refine vw_go rfl ?_; simp only [q6, go_sem, setCells, setIn])
    (refine vw_cond (t := true) rfl (fun _ => ?_) (fun h => nomatch h))
    (refine vw_last rfl ?_; simp only [bl, List.drop_length, go_sem, setCells, setIn])
    (refine ⟨_, _, call_own [0, 0] [(66565, none)] Tryz.func38 (rD) rfl rfl rfl rfl rfl rfl rfl (by simp [takeCs, takeC, takeV, seek, fresh, nav, takenUp, rcells, RT.cells, VV.cells, tabE_cons, tabS_cons, ups_tab, ups_nil, ev, take_map_len, bl, iRow_r1, iRow_clean, List.drop_length]) rfl (by simp [rcells, RT.cells, CT.clean, T.clean, bl, iRow_r1, iRow_clean, List.drop_length]) rfl rfl, ?_⟩)
    simp only [runH, runX, bm, go_sem, setCells, setIn]
    refine (n_block (n_then ?_))
    (refine vw_go rfl ?_; simp only [bm, go_sem, setCells, setIn])
    refine vw_ret ?_
    repeat (first | refine r_then ?_ | refine r_block ?_)
    exact e_ret (ret_by rfl rfl (by simp [RB]) rfl (by simp only [takeCs, takeC, go_sem, setCells, setIn]))
  have q6 : decide (o.kind = 6) = false := by simp [k6]
  have rD := runs_39 l hv o (by omega) k5 k6 _ rfl
  rw [← hR] at rD
  clear hR
  obtain ⟨d1, d2, d3⟩ := R
  simp only at rD
  have bd : List.take d1.length (d1.map iRow) = d1.map iRow := List.take_of_length_le (by simp)
  (refine vw_go rfl ?_; simp only [q6, go_sem, setCells, setIn])
  (refine vw_cond (t := false) rfl (fun h => nomatch h) (fun _ => ?_))
  (refine vw_go rfl ?_; simp only [bl, List.drop_length, go_sem, setCells, setIn])
  (refine ⟨_, _, call_own [0, 0] [(66565, none)] Tryz.func39 (rD) rfl rfl rfl rfl rfl rfl rfl (by simp [takeCs, takeC, takeV, seek, fresh, nav, takenUp, rcells, RT.cells, VV.cells, tabE_cons, tabS_cons, ups_tab, ups_nil, ev, take_map_len, bl, iRow_r1, iRow_clean, List.drop_length]) rfl (by simp [rcells, RT.cells, CT.clean, T.clean, bl, iRow_r1, iRow_clean, List.drop_length]) rfl rfl, ?_⟩)
  simp only [runH, runX, bd, go_sem, setCells, setIn]
  refine vw_ret ?_
  repeat (first | refine r_then ?_ | refine r_block ?_)
  exact e_ret (ret_by rfl rfl (by simp [RB]) rfl (by simp only [takeCs, takeC, go_sem, setCells, setIn]))
end Go.Proofs.YtoenfbbadfcfpaaGreatDoor
namespace Go.Proofs.YtoenfbbadfcfpaaGreatDoor
open Go.VM
set_option maxRecDepth 100000
set_option linter.unusedSimpArgs false
set_option linter.unusedVariables false
attribute [local congr] vw_congr runV_congr runH_congr runW_congr runX_congr stuckV_congr stuckX_congr

def mkItem (k : Int) (i : Nat) : List T := [.str (mt (k + 3 * (i : Int))), .bool (decide ((k + 3 * (i : Int) + 1).tmod 3 = 0)), .str (mt (k + 3 * (i : Int) + 1 + 1))]
def marksItem (k : Int) (n : Nat) : List (List T) := (List.range n).map (mkItem k)
theorem marksItem_len (k : Int) (n : Nat) : (marksItem k n).length = n := by simp [marksItem]
theorem marksItem_clean (k : Int) (n : Nat) : cleanRs (marksItem k n) = true := clean_map (fun x => rfl) _
theorem marksItem_ro (k : Int) (n : Nat) : (marksItem k n).map (List.map T.toRO) = marksItem k n := ro_map (fun x => by simp [mkItem]) _
theorem marksItem_take (k : Int) (n : Nat) : (marksItem k n).take n = marksItem k n := by rw [List.take_of_length_le (by simp [marksItem_len])]

theorem runs_13 (l : List It3) (k : Int) (hl : l.length ≤ 2 ^ 40) (h0 : 0 ≤ k) (h1 : k ≤ 2 ^ 60) :
    Runs Tryz.prog 13 [.one (.v (.list true 3 (l.map iRow))), .one (.v (.int .i64 k))] [.one (.v (.int .i64 (k + 3 * l.length)))] [(0, ⟨false, 3, marksItem k l.length, []⟩)] := by
  refine runs_tabB (tab := [(0, .al 0 [] 0 3 0 l.length), (1, .c (.int .i64 k))]) (rts := [(0, some ⟨false, 3, l.map iRow, []⟩)]) (n := 38) (k := 2) Tryz.func13 rfl rfl (by simp) rfl (fun t => ?_) rfl ?_
  · rcases t with _ | _ | t
    · simp [rvv, RT.vv, CT.vv, envOf, tabE_cons]
    · rfl
    · rfl
  (refine vw_go rfl ?_; simp only [go_sem, setCells, setIn])
  refine vw_seq ?_
  (refine vw_go rfl ?_; simp only [go_sem, setCells, setIn])
  refine vw_block ?_
  refine vw_loop_tab (α := Nat) (fun x => l.length - x) (fun x => ⟨tabE [(0, .al 0 [] 0 3 0 l.length), (1, .c (.int .i64 (k + 3 * (x : Int)))), (5, .c (.int .i64 x))], tabS [(0, some ⟨false, 3, rowsW (mkItem k) (l.map iRow) x, []⟩)], 2⟩)
    (fun x => x ≤ l.length) (x := 0) ?round ?h0 ?hn
  case h0 => exact Nat.zero_le _
  case hn =>
    (refine norm_to [(0, 0)] rfl ?_ ?_ <;> simp only [go_sem])
    · simp
    · simp [rowsW_zero]
  intro i hi
  refine vw_seq ?_
  (refine vw_go rfl ?_; simp only [go_sem, setCells, setIn])
  refine vw_cond (t := decide ((i : Int) < l.length)) rfl (fun h => ?_) (fun h => ?_)
  · refine vw_skip (n_then ?_)
    rcases get_or l i with ⟨x, hx, hlt⟩ | ⟨_, hge⟩
    case inr => simp only [decide_eq_true_eq] at h; omega
    have c1 : (0:Int) ≤ (i:Int) := by omega
    have c2 : (i:Int) < (l.length : Int) := by omega
    have hx' : (l.map iRow)[i]? = some (iRow x) := by rw [List.getElem?_map, hx]; rfl
    have hll : (l.map iRow).length = l.length := by simp
    have e1 : (rowsW (mkItem k) (l.map iRow) i).length = l.length := by rw [rowsW_len (by omega), hll]
    have g0 : (rowsW (mkItem k) (l.map iRow) i).getD i [] = [.str x.1, .bool x.2.1, .str x.2.2] := rowsW_get hx'
    have g1 : ((rowsW (mkItem k) (l.map iRow) i).set i [.str (mt (k + 3 * (i : Int))), .bool x.2.1, .str x.2.2]).getD i [] = [.str (mt (k + 3 * (i : Int))), .bool x.2.1, .str x.2.2] := getD_set_self (by omega)
    have g2 : ((rowsW (mkItem k) (l.map iRow) i).set i [.str (mt (k + 3 * (i : Int))), .bool (decide ((k + 3 * (i : Int) + 1).tmod 3 = 0)), .str x.2.2]).getD i [] = [.str (mt (k + 3 * (i : Int))), .bool (decide ((k + 3 * (i : Int) + 1).tmod 3 = 0)), .str x.2.2] := getD_set_self (by omega)
    have eF : (rowsW (mkItem k) (l.map iRow) i).set i [.str (mt (k + 3 * (i : Int))), .bool (decide ((k + 3 * (i : Int) + 1).tmod 3 = 0)), .str (mt (k + 3 * (i : Int) + 1 + 1))] = rowsW (mkItem k) (l.map iRow) (i + 1) := rowsW_set (by omega) rfl
    have w0 : IntKind.wrap .i64 (k + 3 * (i : Int) + 1) = k + 3 * (i : Int) + 1 := wrap_i64 (by omega) (by omega)
    have w1 : IntKind.wrap .i64 (k + 3 * (i : Int) + 1 + 1) = k + 3 * (i : Int) + 1 + 1 := wrap_i64 (by omega) (by omega)
    have w2 : IntKind.wrap .i64 (k + 3 * (i : Int) + 1 + 1 + 1) = k + 3 * ((i + 1 : Nat) : Int) := by rw [wrap_i64 (by omega) (by omega)]; omega
    refine vw_seq ?_
    refine vw_block ?_
    (refine vw_go rfl ?_; simp only [c1, c2, Int.toNat_natCast, go_sem, setCells, setIn])
    (refine ⟨_, _, call_rd [0] Tryz.func41 (runs_41 (k + 3 * (i : Int)) (by omega) (by omega)) rfl rfl rfl rfl rfl rfl rfl rfl rfl rfl rfl rfl rfl, ?_⟩)
    simp only [runH, runX, c1, c2, Int.toNat_natCast, List.length_set, List.set_set, e1, g0, hlt, go_sem, setCells, setIn]
    (refine vw_go rfl ?_; simp only [w0, go_sem, setCells, setIn])
    (refine vw_go rfl ?_; simp only [c1, c2, Int.toNat_natCast, List.length_set, List.set_set, e1, g1, hlt, go_sem, setCells, setIn])
    (refine vw_go rfl ?_; simp only [w1, go_sem, setCells, setIn])
    (refine vw_go rfl ?_; simp only [c1, c2, Int.toNat_natCast, go_sem, setCells, setIn])
    (refine ⟨_, _, call_rd [0] Tryz.func41 (runs_41 (k + 3 * (i : Int) + 1 + 1) (by omega) (by omega)) rfl rfl rfl rfl rfl rfl rfl rfl rfl rfl rfl rfl rfl, ?_⟩)
    simp only [runH, runX, c1, c2, Int.toNat_natCast, List.length_set, List.set_set, e1, g2, hlt, eF, go_sem, setCells, setIn]
    (refine vw_last rfl ?_; simp only [w2, go_sem, setCells, setIn])
    refine (n_block (n_then ?_))
    have wi : IntKind.wrap .i64 ((i:Int) + 1) = ((i + 1 : Nat) : Int) := by rw [wrap_i64 (by omega) (by omega)]; rfl
    (refine vw_last rfl ?_; simp only [wi, go_sem, setCells, setIn])
    refine (n_then ?_)
    refine ⟨i + 1, by omega, hlt, ?_⟩
    (refine norm_to [(0, 0)] rfl ?_ ?_ <;> simp only [go_sem])
  · refine vw_exit (x_then (x_then (x_block (n_then ?_))))
    (refine vw_go rfl ?_; simp only [go_sem, setCells, setIn])
    simp only [decide_eq_false_iff_not] at h
    have : i = l.length := by omega
    subst this
    refine vw_ret (e_ret (ret_b rfl rfl (by simp [RB]) rfl rfl ⟨⟨by simp, _, rfl, rfl, rfl, ?_⟩, trivial⟩))
    have hll : (l.map iRow).length = l.length := by simp
    show rowsW (mkItem k) (l.map iRow) l.length = _
    rw [← hll, rowsW_end, hll]; rfl

theorem runs_14 (k : Int) (n : Nat) (hn : n ≤ 2 ^ 40) (h0 : 0 ≤ k) (h1 : k ≤ 2 ^ 60) :
    Runs Tryz.prog 14 [.one (.v (.list false 3 (marksItem k n))), .one (.v (.int .i64 k))] [.one (.v (.int .i64 (k + 3 * n)))] [] := by
  refine runs_tab (tab := [(0, .c (.list false 3 (marksItem k n))), (1, .c (.int .i64 k))]) (rts := []) (n := 44) (k := 2) Tryz.func14 rfl rfl (by simp) rfl (fun t => ?_) rfl ?_
  · rcases t with _ | _ | t <;> rfl
  have hml := marksItem_len k n
  (refine vw_go rfl ?_; simp only [go_sem, setCells, setIn])
  refine vw_seq ?_
  (refine vw_go rfl ?_; simp only [go_sem, setCells, setIn])
  refine vw_block ?_
  refine vw_loop_tab (α := Nat) (fun x => n - x) (fun x => ⟨tabE [(0, .c (.list false 3 (marksItem k n))), (1, .c (.int .i64 (k + 3 * (x : Int)))), (5, .c (.int .i64 x))], tabS [], 2⟩)
    (fun x => x ≤ n) (x := 0) ?round ?h0 ?hn
  case h0 => exact Nat.zero_le _
  case hn =>
    (refine norm_to [] rfl ?_ ?_ <;> simp only [go_sem])
    simp
  intro i hi
  refine vw_seq ?_
  (refine vw_go rfl ?_; simp only [hml, go_sem, setCells, setIn])
  refine vw_cond (t := decide ((i : Int) < n)) rfl (fun h => ?_) (fun h => ?_)
  · refine vw_skip (n_then ?_)
    simp only [decide_eq_true_eq] at h
    have hlt : i < n := by omega
    have hlo := h
    have hx : (marksItem k n).getD i [] = [.str (mt (k + 3 * (i : Int))), .bool (decide ((k + 3 * (i : Int) + 1).tmod 3 = 0)), .str (mt (k + 3 * (i : Int) + 1 + 1))] := by
      rw [List.getD_eq_getElem?_getD]
      simp [marksItem, List.getElem?_range hlt, mkItem]
    have c1 : (0:Int) ≤ (i:Int) := by omega
    have w0 : IntKind.wrap .i64 (k + 3 * (i : Int) + 1) = k + 3 * (i : Int) + 1 := wrap_i64 (by omega) (by omega)
    have w1 : IntKind.wrap .i64 (k + 3 * (i : Int) + 1 + 1) = k + 3 * (i : Int) + 1 + 1 := wrap_i64 (by omega) (by omega)
    have w2 : IntKind.wrap .i64 (k + 3 * (i : Int) + 1 + 1 + 1) = k + 3 * ((i + 1 : Nat) : Int) := by rw [wrap_i64 (by omega) (by omega)]; omega
    refine vw_seq ?_
    refine vw_block ?_
    refine vw_seq ?_
    (refine vw_draw mixed rfl rfl ?_; simp only [c1, hlo, hml, Int.toNat_natCast, hx, go_sem, setCells, setIn])
    (refine ⟨_, _, _, call_rd_at [0] [] Tryz.func41 (runs_41 (k + 3 * (i : Int)) (by omega) (by omega)) (fun _ _ => rfl) rfl rfl rfl rfl rfl rfl rfl rfl rfl rfl rfl rfl, ?_⟩)
    simp only [runH, runX, go_sem, setCells, setIn]
    refine ⟨by unfold allOk; kernel_rfl, ?_⟩
    refine vw_cond (t := false) rfl (fun h => ?_) (fun h => ?_)
    · cases h
    refine vw_skip (n_then ?_)
    (refine vw_go rfl ?_; simp only [w0, go_sem, setCells, setIn])
    refine vw_seq ?_
    (refine vw_go rfl ?_; simp only [c1, hlo, hml, Int.toNat_natCast, hx, go_sem, setCells, setIn])
    refine vw_cond (t := false) rfl (fun h => ?_) (fun h => ?_)
    · cases h
    refine vw_skip (n_then ?_)
    (refine vw_go rfl ?_; simp only [w1, go_sem, setCells, setIn])
    refine vw_seq ?_
    (refine vw_draw mixed rfl rfl ?_; simp only [c1, hlo, hml, Int.toNat_natCast, hx, go_sem, setCells, setIn])
    (refine ⟨_, _, _, call_rd_at [0] [] Tryz.func41 (runs_41 (k + 3 * (i : Int) + 1 + 1) (by omega) (by omega)) (fun _ _ => rfl) rfl rfl rfl rfl rfl rfl rfl rfl rfl rfl rfl rfl, ?_⟩)
    simp only [runH, runX, go_sem, setCells, setIn]
    refine ⟨by unfold allOk; kernel_rfl, ?_⟩
    refine vw_cond (t := false) rfl (fun h => ?_) (fun h => ?_)
    · cases h
    refine vw_skip (n_then ?_)
    (refine vw_last rfl ?_; simp only [w2, go_sem, setCells, setIn])
    refine (n_block (n_then ?_))
    have wi : IntKind.wrap .i64 ((i:Int) + 1) = ((i + 1 : Nat) : Int) := by rw [wrap_i64 (by omega) (by omega)]; rfl
    (refine vw_last rfl ?_; simp only [wi, go_sem, setCells, setIn])
    refine (n_then ?_)
    refine ⟨i + 1, by omega, hlt, ?_⟩
    (refine norm_to [] rfl ?_ ?_ <;> simp only [go_sem])
  · refine vw_exit (x_then (x_then (x_block (n_then ?_))))
    (refine vw_go rfl ?_; simp only [go_sem, setCells, setIn])
    simp only [decide_eq_false_iff_not] at h
    have : i = n := by omega
    subst this
    exact vw_ret (e_ret (ret_of rfl rfl (by simp [RB]) rfl rfl))

end Go.Proofs.YtoenfbbadfcfpaaGreatDoor
namespace Go.Proofs.YtoenfbbadfcfpaaGreatDoor
open Go.VM Go
set_option maxRecDepth 100000
set_option linter.unusedSimpArgs false
set_option linter.unusedVariables false
attribute [-go_sem] runW_cons
attribute [local congr] vw_congr runV_congr runH_congr runW_congr runX_congr stuckV_congr stuckX_congr

theorem szL_le : ∀ (l : List It3) (left : Int), 0 ≤ left → szL l left ≤ left
  | [], left, _ => by simp [szL]
  | x :: l, left, h => by
    simp only [szL]
    split
    · omega
    · have h1 := szI_le x left h
      have := szL_le l (szI x left) (by omega)
      omega
theorem szIS_le (l : List It3) (left : Int) (h : 0 ≤ left) : szIS l left ≤ left := by
  unfold szIS
  split
  · omega
  · have := szL_le l (left - l.length) (by omega)
    omega
theorem szOp_mem {x : OpV} {left : Int} (h : ¬ szOp x left < 0) : (x.path.size : Int) ≤ left ∧ (x.to.size : Int) ≤ left ∧ (x.data.size : Int) ≤ left := by
  unfold szOp at h
  repeat' split at h
  · exact absurd (by decide) h
  · exact absurd (by decide) h
  · exact absurd (by decide) h
  · omega
theorem moveG_len (l : List It3) (o : OpV) : ∀ (r acc : List It3), (moveG l o r acc).1.length ≤ acc.length + r.length + l.length
  | [], acc => by simp [moveG]
  | x :: r, acc => by
    rw [moveG]
    split
    · have := moveG_len l o r (acc ++ [(movedP o x.1, x.2)])
      simp at this ⊢; omega
    · simp
theorem plainL_len (l : List It3) (o : OpV) : (plainL l o).1.length ≤ 2 * l.length + 1 := by
  have h1 : (makeL l o).1.length ≤ l.length + 1 := by
    unfold makeL
    repeat' split
    all_goals simp
  have h2 : (dropL l o).1.length ≤ l.length := by
    unfold dropL
    split
    · simp
    · exact List.length_filter_le _ _
  have h3 : (moveL l o).1.length ≤ 2 * l.length := by
    unfold moveL
    have := moveG_len l o l []
    repeat' split
    all_goals (try simp only [])
    all_goals simp at this ⊢
    all_goals omega
  have h4 : ∀ i s, (putAtL l i s).length = l.length := fun i s => by
    unfold putAtL
    split <;> simp
  unfold plainL doL
  repeat' split
  all_goals simp only [h4]
  all_goals omega

set_option maxHeartbeats 1000000 in
theorem runs_3 (l : List It3) (hl : l.length < 2 ^ 63) (hb : ∀ x ∈ l, x.1.size < 2 ^ 63 ∧ x.2.2.size < 2 ^ 63) (o : OpV) (ho : o.ok) :
    Runs Tryz.prog 3 [.one (.v (.list false 3 (l.map iRow))), .agg [.v (.int .i64 o.kind), .v (.str o.path), .v (.str o.to), .v (.str o.data)]] [.one (.v (.bool true))] [] := by
  refine runs_tab (tab := [(0, .c (.list false 3 (l.map iRow))), (1, .agg [.c (.int .i64 o.kind), .c (.str o.path), .c (.str o.to), .c (.str o.data)])]) (rts := []) (n := 130) (k := 5) Tryz.func3 rfl rfl (by simp) rfl (fun t => ?_) rfl ?_
  · rcases t with _ | _ | t <;> rfl
  (refine vw_go rfl ?_; simp only [go_sem, setCells, setIn])
  (refine vw_go rfl ?_; simp only [go_sem, setCells, setIn])
  (refine vw_go rfl ?_; simp only [go_sem, setCells, setIn])
  (refine ⟨_, _, call_rx [0, 0] Tryz.func6 (runs_6 l 1048576 hb hl (by decide) (by decide)) rfl rfl rfl rfl rfl rfl rfl (by simp [lendAll, lendC, seek, fresh, nav, rcells, RT.cells, VV.cells, tabE_cons, tabS_cons, ev, take_map_len, iRow_r1, iRow_clean, take_map_len]) rfl (by simp [rcells, RT.cells, CT.clean, T.clean, iRow_r1, iRow_clean, take_map_len]) rfl rfl, ?_⟩)
  simp only [runH, runX, go_sem, setCells, setIn]
  refine vw_seq ?_
  (refine vw_go rfl ?_; simp only [go_sem, setCells, setIn])
  refine vw_cond (t := decide (szIS l 1048576 < 0)) rfl (fun h => ?_) (fun h => ?_)
  · (refine vw_go rfl ?_; simp only [go_sem, setCells, setIn])
    exact vw_ret (r_then (e_ret (ret_of rfl rfl (by simp [RB]) rfl rfl)))
  refine vw_skip (n_then ?_)
  simp only [decide_eq_false_iff_not] at h
  have hsl := szIS_le l 1048576 (by decide)
  obtain ⟨hl1, hb1⟩ := szIS_mem h
  have hl2 : l.length ≤ 2 ^ 20 := by omega
  have hb2 : ∀ x ∈ l, x.1.size ≤ 2 ^ 20 := fun x hx => by have := hb1 x hx; omega
  generalize szIS l 1048576 = left at h hsl ⊢
  (refine vw_go rfl ?_; simp only [go_sem, setCells, setIn])
  (refine ⟨_, _, call_rd [0, 0] Tryz.func7 (runs_7 o left ho (by omega) (by omega)) rfl rfl rfl rfl rfl rfl rfl rfl rfl rfl rfl rfl rfl, ?_⟩)
  simp only [runH, runX, go_sem, setCells, setIn]
  refine vw_seq ?_
  (refine vw_go rfl ?_; simp only [go_sem, setCells, setIn])
  refine vw_cond (t := decide (szOp o left < 0)) rfl (fun h2 => ?_) (fun h2 => ?_)
  · (refine vw_go rfl ?_; simp only [go_sem, setCells, setIn])
    exact vw_ret (r_then (e_ret (ret_of rfl rfl (by simp [RB]) rfl rfl)))
  refine vw_skip (n_then ?_)
  simp only [decide_eq_false_iff_not] at h2
  obtain ⟨o1, o2, o3⟩ := szOp_mem h2
  have rS := runs_8 l hl2 hb2 o (by omega) (by omega) _ rfl
  have rI := runs_11 l hl2 hb2 o (by omega) (by omega) _ rfl
  have hil := plainL_len l o
  generalize plainL l o = D at rS rI hil
  obtain ⟨D, c, tx⟩ := D
  simp only at rS rI hil
  have Dl : D.length < 2 ^ 63 := by omega
  have Dl2 : D.length ≤ 2 ^ 40 := by omega
  have rE := runs_12 D D Dl Dl
  have bd : List.take D.length (D.map iRow) = D.map iRow := List.take_of_length_le (by simp)
  have bl : List.take l.length (l.map iRow) = l.map iRow := List.take_of_length_le (by simp)
  have rT := runs_9 l hl2
  have rO := runs_10 o
  (refine vw_drawA mixed rfl rfl ?_; intro A hAA)
  simp (maxSteps := 1000000) only [bl, go_sem, setCells, setIn, runW_step]
  (refine ⟨_, _, _, call_rx_at [0] [] Tryz.func9 (rT) rfl rfl rfl rfl rfl rfl rfl (fun st1 hst1 => by (try simp only [List.mem_cons, List.not_mem_nil, or_false, false_or, forall_eq_or_imp, forall_eq] at hst1); simp [lendAll, lendC, seek, fresh, nav, rcells, RT.cells, VV.cells, tabE_cons, tabS_cons, ev, take_map_len, hst1, iRow_r1, iRow_clean, take_map_len]) rfl (by simp [rcells, RT.cells, CT.clean, T.clean, iRow_r1, iRow_clean, take_map_len]) rfl rfl, ?_⟩)
  (unfold runX; simp (maxSteps := 1000000) only [bl, go_sem, setCells, setIn, runW_step])
  (refine ⟨_, _, _, call_rd_at [0] [] Tryz.func10 (rO) (fun _ _ => rfl) rfl rfl rfl rfl rfl rfl rfl rfl rfl rfl rfl rfl, ?_⟩)
  (unfold runX; simp (maxSteps := 1000000) only [bl, go_sem, setCells, setIn, runW_step])
  (refine ⟨_, _, _, call_rx_at [0, 0] [394245] Tryz.func8 (rS) rfl rfl rfl rfl rfl rfl rfl (fun st1 hst1 => by (try simp only [List.mem_cons, List.not_mem_nil, or_false, false_or, forall_eq_or_imp, forall_eq] at hst1); simp [lendAll, lendC, seek, fresh, nav, rcells, RT.cells, VV.cells, tabE_cons, tabS_cons, ev, take_map_len, hst1, iRow_r1, iRow_clean, take_map_len, bl]) rfl (by simp [rcells, RT.cells, CT.clean, T.clean, iRow_r1, iRow_clean, take_map_len, bl]) rfl rfl, ?_⟩)
  (unfold runX; simp (maxSteps := 1000000) only [bd, go_sem, setCells, setIn, runW_step])
  refine ⟨by subst hAA; unfold allOk; kernel_rfl, ?_⟩
  (refine vw_go rfl ?_; simp only [go_sem, setCells, setIn])
  (refine ⟨_, _, call_rx [0] Tryz.func9 (rT) rfl rfl rfl rfl rfl rfl rfl (by simp [lendAll, lendC, seek, fresh, nav, rcells, RT.cells, VV.cells, tabE_cons, tabS_cons, ev, take_map_len, iRow_r1, iRow_clean, take_map_len]) rfl (by simp [rcells, RT.cells, CT.clean, T.clean, iRow_r1, iRow_clean, take_map_len]) rfl rfl, ?_⟩)
  simp only [runH, runX, bl, go_sem, setCells, setIn]
  (refine vw_go rfl ?_; simp only [bl, go_sem, setCells, setIn])
  (refine ⟨_, _, call_rd [0] Tryz.func10 (rO) rfl rfl rfl rfl rfl rfl rfl rfl rfl rfl rfl rfl rfl, ?_⟩)
  simp only [runH, runX, bl, go_sem, setCells, setIn]
  (refine ⟨_, _, call_rx [0, 0] Tryz.func11 (rI) rfl rfl rfl rfl rfl rfl rfl (by simp [lendAll, lendC, seek, fresh, nav, rcells, RT.cells, VV.cells, tabE_cons, tabS_cons, ev, take_map_len, iRow_r1, iRow_clean, take_map_len, bl]) rfl (by simp [rcells, RT.cells, CT.clean, T.clean, iRow_r1, iRow_clean, take_map_len, bl]) rfl rfl, ?_⟩)
  simp only [runH, runX, bd, go_sem, setCells, setIn]
  refine vw_seq ?_
  (refine vw_go rfl ?_; simp only [bd, go_sem, setCells, setIn])
  (refine ⟨_, _, call_rx [0, 0] Tryz.func12 (rE) rfl rfl rfl rfl rfl rfl rfl (by simp [lendAll, lendC, seek, fresh, nav, rcells, RT.cells, VV.cells, tabE_cons, tabS_cons, ev, take_map_len, iRow_r1, iRow_clean, take_map_len, bd]) rfl (by simp [rcells, RT.cells, CT.clean, T.clean, iRow_r1, iRow_clean, take_map_len, bd]) rfl rfl, ?_⟩)
  simp only [runH, runX, go_sem, setCells, setIn]
  refine vw_cond (t := false) rfl (fun h => ?_) (fun h => ?_)
  · cases h
  refine vw_skip (n_then ?_)
  refine vw_seq ?_
  (refine vw_go rfl ?_; simp only [bl, go_sem, setCells, setIn])
  (refine ⟨_, _, call_rx [0] Tryz.func9 (rT) rfl rfl rfl rfl rfl rfl rfl (by simp [lendAll, lendC, seek, fresh, nav, rcells, RT.cells, VV.cells, tabE_cons, tabS_cons, ev, take_map_len, iRow_r1, iRow_clean, take_map_len]) rfl (by simp [rcells, RT.cells, CT.clean, T.clean, iRow_r1, iRow_clean, take_map_len]) rfl rfl, ?_⟩)
  simp only [runH, runX, bl, go_sem, setCells, setIn]
  (refine ⟨_, _, call_rx [0, 0] Tryz.func12 (runs_12 l l hl hl) rfl rfl rfl rfl rfl rfl rfl (by simp [lendAll, lendC, seek, fresh, nav, rcells, RT.cells, VV.cells, tabE_cons, tabS_cons, ev, take_map_len, iRow_r1, iRow_clean, take_map_len, bl]) rfl (by simp [rcells, RT.cells, CT.clean, T.clean, iRow_r1, iRow_clean, take_map_len, bl]) rfl rfl, ?_⟩)
  simp only [runH, runX, go_sem, setCells, setIn]
  refine vw_cond (t := false) rfl (fun h => ?_) (fun h => ?_)
  · cases h
  refine vw_skip (n_then ?_)
  (refine vw_go rfl ?_; simp only [go_sem, setCells, setIn])
  (refine vw_go rfl ?_; simp only [go_sem, setCells, setIn])
  (refine ⟨_, _, call_bs [0, 0] [.back, .ro] [(459781, 0, ⟨false, 3, l.map iRow, []⟩)] [marksItem 1 l.length] (rest := [.c (.int .i64 1)]) Tryz.func13 (runs_13 l 1 (by omega) (by decide) (by decide)) rfl rfl rfl rfl rfl rfl rfl rfl (by simp [VV.cells, ev, tabE_cons, iRow_r1, iRow_clean, take_map_len, marksItem_clean]) (by simp [tabS_cons, iRow_r1, iRow_clean, take_map_len, marksItem_clean]) (by simp) rfl rfl (by simp [rcells, RT.cells, iRow_r1, iRow_clean, take_map_len, marksItem_clean]) rfl rfl (by simp [clean_map, iRow_r1, iRow_clean, take_map_len, marksItem_clean]) rfl rfl, ?_⟩)
  simp only [runH, runX, go_sem, setCells, setIn]
  have hn1 : (1 + 3 * (l.length : Int) < 0) = False := eq_false (by omega)
  have hn2 : (1 + 3 * (D.length : Int) < 0) = False := eq_false (by omega)
  refine vw_seq ?_
  (refine vw_go rfl ?_; simp only [hn1, go_sem, setCells, setIn])
  (refine ⟨_, _, call_rx [0, 0] Tryz.func12 (rE) rfl rfl rfl rfl rfl rfl rfl (by simp [lendAll, lendC, seek, fresh, nav, rcells, RT.cells, VV.cells, tabE_cons, tabS_cons, ev, take_map_len, iRow_r1, iRow_clean, take_map_len, bd]) rfl (by simp [rcells, RT.cells, CT.clean, T.clean, iRow_r1, iRow_clean, take_map_len, bd]) rfl rfl, ?_⟩)
  simp only [runH, runX, go_sem, setCells, setIn]
  refine vw_cond (t := false) rfl (fun h => ?_) (fun h => ?_)
  · cases h
  refine vw_skip (n_then ?_)
  (refine vw_go rfl ?_; simp only [go_sem, setCells, setIn])
  (refine vw_go rfl ?_; simp only [go_sem, setCells, setIn])
  (refine ⟨_, _, call_bs [0, 0] [.back, .ro] [(527365, 0, ⟨false, 3, D.map iRow, []⟩)] [marksItem 1 D.length] (rest := [.c (.int .i64 1)]) Tryz.func13 (runs_13 D 1 (by omega) (by decide) (by decide)) rfl rfl rfl rfl rfl rfl rfl rfl (by simp [VV.cells, ev, tabE_cons, iRow_r1, iRow_clean, take_map_len, marksItem_clean]) (by simp [tabS_cons, iRow_r1, iRow_clean, take_map_len, marksItem_clean]) (by simp) rfl rfl (by simp [rcells, RT.cells, iRow_r1, iRow_clean, take_map_len, marksItem_clean]) rfl rfl (by simp [clean_map, iRow_r1, iRow_clean, take_map_len, marksItem_clean]) rfl rfl, ?_⟩)
  simp only [runH, runX, go_sem, setCells, setIn]
  (refine vw_go rfl ?_; simp only [go_sem, setCells, setIn])
  (refine vw_go rfl ?_; simp only [go_sem, setCells, setIn])
  (refine ⟨_, _, call_rx [0, 0] Tryz.func14 (runs_14 1 D.length (by omega) (by decide) (by decide)) rfl rfl rfl rfl rfl rfl rfl (by simp [lendAll, lendC, seek, fresh, nav, rcells, RT.cells, VV.cells, tabE_cons, tabS_cons, ev, take_map_len, iRow_r1, iRow_clean, take_map_len, marksItem_take, marksItem_len, marksItem_ro]) rfl (by simp [rcells, RT.cells, CT.clean, T.clean, iRow_r1, iRow_clean, take_map_len, marksItem_take, marksItem_len, marksItem_ro]) rfl rfl, ?_⟩)
  simp only [runH, runX, go_sem, setCells, setIn]
  refine vw_seq ?_
  (refine vw_go rfl ?_; simp only [hn2, go_sem, setCells, setIn])
  refine vw_cond (t := false) rfl (fun h => ?_) (fun h => ?_)
  · cases h
  refine vw_skip (n_then ?_)
  refine vw_seq ?_
  (refine vw_go rfl ?_; simp only [go_sem, setCells, setIn])
  refine vw_cond (t := false) rfl (fun h => ?_) (fun h => ?_)
  · cases h
  refine vw_skip (n_then ?_)
  (refine vw_drawA mixed rfl rfl ?_; intro A hAA)
  simp (maxSteps := 1000000) only [bl, go_sem, setCells, setIn, runW_step]
  (refine ⟨_, _, _, call_rx_at [0] [] Tryz.func9 (rT) rfl rfl rfl rfl rfl rfl rfl (fun st1 hst1 => by (try simp only [List.mem_cons, List.not_mem_nil, or_false, false_or, forall_eq_or_imp, forall_eq] at hst1); simp [lendAll, lendC, seek, fresh, nav, rcells, RT.cells, VV.cells, tabE_cons, tabS_cons, ev, take_map_len, hst1, iRow_r1, iRow_clean, take_map_len]) rfl (by simp [rcells, RT.cells, CT.clean, T.clean, iRow_r1, iRow_clean, take_map_len]) rfl rfl, ?_⟩)
  (unfold runX; simp (maxSteps := 1000000) only [bl, go_sem, setCells, setIn, runW_step])
  (refine ⟨_, _, _, call_rd_at [0] [] Tryz.func10 (rO) (fun _ _ => rfl) rfl rfl rfl rfl rfl rfl rfl rfl rfl rfl rfl rfl, ?_⟩)
  (unfold runX; simp (maxSteps := 1000000) only [bl, go_sem, setCells, setIn, runW_step])
  (refine ⟨_, _, _, call_rx_at [0, 0] [1311749] Tryz.func11 (rI) rfl rfl rfl rfl rfl rfl rfl (fun st1 hst1 => by (try simp only [List.mem_cons, List.not_mem_nil, or_false, false_or, forall_eq_or_imp, forall_eq] at hst1); simp [lendAll, lendC, seek, fresh, nav, rcells, RT.cells, VV.cells, tabE_cons, tabS_cons, ev, take_map_len, hst1, iRow_r1, iRow_clean, take_map_len, bl]) rfl (by simp [rcells, RT.cells, CT.clean, T.clean, iRow_r1, iRow_clean, take_map_len, bl]) rfl rfl, ?_⟩)
  (unfold runX; simp (maxSteps := 1000000) only [bd, go_sem, setCells, setIn, runW_step])
  refine ⟨by subst hAA; unfold allOk; kernel_rfl, ?_⟩
  refine vw_seq ?_
  (refine vw_go rfl ?_; simp only [bd, go_sem, setCells, setIn])
  (refine ⟨_, _, call_rx [0, 0] Tryz.func12 (rE) rfl rfl rfl rfl rfl rfl rfl (by simp [lendAll, lendC, seek, fresh, nav, rcells, RT.cells, VV.cells, tabE_cons, tabS_cons, ev, take_map_len, iRow_r1, iRow_clean, take_map_len, bd]) rfl (by simp [rcells, RT.cells, CT.clean, T.clean, iRow_r1, iRow_clean, take_map_len, bd]) rfl rfl, ?_⟩)
  simp only [runH, runX, go_sem, setCells, setIn]
  refine vw_cond (t := false) rfl (fun h => ?_) (fun h => ?_)
  · cases h
  refine vw_skip (n_then ?_)
  (refine vw_go rfl ?_; simp only [go_sem, setCells, setIn])
  (refine vw_go rfl ?_; simp only [go_sem, setCells, setIn])
  (refine ⟨_, _, call_rx [0, 0] Tryz.func14 (runs_14 1 D.length (by omega) (by decide) (by decide)) rfl rfl rfl rfl rfl rfl rfl (by simp [lendAll, lendC, seek, fresh, nav, rcells, RT.cells, VV.cells, tabE_cons, tabS_cons, ev, take_map_len, iRow_r1, iRow_clean, take_map_len, marksItem_take, marksItem_len, marksItem_ro]) rfl (by simp [rcells, RT.cells, CT.clean, T.clean, iRow_r1, iRow_clean, take_map_len, marksItem_take, marksItem_len, marksItem_ro]) rfl rfl, ?_⟩)
  simp only [runH, runX, go_sem, setCells, setIn]
  refine vw_seq ?_
  (refine vw_go rfl ?_; simp only [hn2, go_sem, setCells, setIn])
  refine vw_cond (t := false) rfl (fun h => ?_) (fun h => ?_)
  · cases h
  refine vw_skip (n_then ?_)
  refine vw_seq ?_
  (refine vw_go rfl ?_; simp only [go_sem, setCells, setIn])
  refine vw_cond (t := false) rfl (fun h => ?_) (fun h => ?_)
  · cases h
  refine vw_skip (n_then ?_)
  (refine vw_go rfl ?_; simp only [go_sem, setCells, setIn])
  exact vw_ret (e_ret (ret_of rfl rfl (by simp [RB]) rfl rfl))
end Go.Proofs.YtoenfbbadfcfpaaGreatDoor
