/- Plain of the program: what is moved. What the library's strings.Join and math/bits.Len do, at this program's numbers: written by the shelf's tools. strings.Join and math/bits.Len of the library, as contracts. slices.Sort at []string, of few texts: a text is put where it belongs, one behind the other. -/
import Derived.Test.YtoenfbbadfcfpaaGreatDoorPFPlainI
import Derived.Shelf.Strings.OnBuilder
import Derived.Shelf.Small.Bits
import Derived.Shelf.LaysM
import Derived.Test.YtoenfbbadfcfpaaGreatDoorProg
import Derived.Test.YtoenfbbadfcfpaaGreatDoorPFTell
import Derived.Test.YtoenfbbadfcfpaaGreatDoorPFOrd
import Derived.Test.YtoenfbbadfcfpaaGreatDoorPFDraw
set_option linter.unusedSimpArgs false
set_option linter.unusedVariables false
namespace Go.Proofs.YtoenfbbadfcfpaaGreatDoor
open Go.VM Go
set_option maxRecDepth 100000
attribute [-go_sem] runW_cons
attribute [local congr] vw_congr runV_congr runH_congr runW_congr runX_congr stuckV_congr stuckX_congr
theorem moved_iff {l : List It3} (hok : itemsOk l = true) {o : OpV} (ho : pathOk o.to = true) (h0 : o.path ≠ ⟨#[]⟩) (h1 : o.to ≠ ⟨#[]⟩) {x : It3} (hx : x ∈ l) : pathOk (movedP o x.1) = decide (((movedP o x.1).data.toList.count 47 : Int) < 4) := by
  obtain ⟨j, hj⟩ := List.getElem?_of_mem hx
  obtain ⟨p1, p2⟩ := splitF_ok ((itemsOk_at hok).2 j x hj).1
  unfold movedP
  split
  · rename_i h
    exact (moved_ok h h0 ho h1).2
  · rw [p1]; exact (decide_eq_true (unmoved_ok p1 p2)).symm
set_option maxHeartbeats 2000000 in
theorem runs_38 (l : List It3) (hok : itemsOk l = true) (o : OpV) (hp : o.path.size ≤ 2 ^ 19) (ht : o.to.size ≤ 2 ^ 19) (hto : pathOk o.to = true) (R : List It3 × Int) (hR : R = if foldF l o.path = 2 then (l, 2) else moveL l o) :
    Runs Tryz.prog 38 [.one (.v (.list true 3 (l.map iRow))), .agg [.v (.int .i64 o.kind), .v (.str o.path), .v (.str o.to), .v (.str o.data)]] [.one (.v (.list true 3 (R.1.map iRow))), .one (.v (.int .i64 R.2))] [] := by
  refine runs_tab (tab := [(0, .al 0 [] 0 3 0 l.length), (1, .agg [.c (.int .i64 o.kind), .c (.str o.path), .c (.str o.to), .c (.str o.data)])]) (rts := [(0, some ⟨false, 3, l.map iRow, []⟩)]) (n := 76) (k := 5) Tryz.func38 rfl rfl (by simp) rfl (fun t => ?_) rfl ?_
  · rcases t with _ | _ | t <;> simp [envOf, rvv, RT.vv, CT.vv, cvv, tabE_cons, tabE_nil, rcells, RT.cells]
  obtain ⟨h11, h100⟩ := itemsOk_small hok
  have bl : List.take l.length (l.map iRow) = l.map iRow := List.take_of_length_le (by simp)
  have rT := runs_68 l (by omega) o.path
  have rY := runs_68 l (by omega) o.to
  have hth : thereB l o.to = true ↔ (o.to = ⟨#[]⟩ ∨ 0 ≤ findF l o.to) := by unfold thereB; simp
  have rU := runs_73 o.to o.path (by omega) (by omega)
  have rC := runs_69 l (by omega) o.to (by omega)
  rw [fold_iff l o.path] at hR
  generalize thereB l o.path = tb at rT hR
  refine vw_go rfl ?_; simp only [go_sem, setCells, setIn]
  refine vw_seq ?_
  refine vw_block ?_
  refine vw_go rfl ?_; simp only [bl, go_sem, setCells, setIn]
  refine ⟨_, _, call_rx [0, 0] Tryz.func68 (rT) rfl rfl rfl rfl rfl rfl rfl (by simp [lendAll, lendC, seek, fresh, nav, rcells, RT.cells, VV.cells, tabE_cons, tabS_cons, ev, take_map_len, iRow_r1, iRow_clean, bl]) rfl (by simp [rcells, RT.cells, CT.clean, T.clean, iRow_r1, iRow_clean, bl]) rfl rfl, ?_⟩
  cases tb
  · simp only [Bool.false_eq_true, if_false, if_true] at hR
    subst hR
    simp only [runH, runX, bl, go_sem, setCells, setIn]
    refine vw_cond (t := true) rfl (fun _ => ?_) (fun h => nomatch h)
    refine vw_go rfl ?_; simp only [go_sem, setCells, setIn]
    exact vw_ret (r_block (r_then (e_ret (ret_by rfl rfl (by simp [RB]) rfl (by simp only [takeCs, takeC, go_sem, setCells, setIn])))))
  have hne2 : ¬ (if isFold l o.path = true then (0 : Int) else 4) = 2 := by split <;> decide
  simp only [if_true] at hR
  rw [if_neg hne2] at hR
  unfold moveL at hR
  have hmi := fun (x : It3) (hx : x ∈ l) (h0 : o.path ≠ ⟨#[]⟩) (h1 : o.to ≠ ⟨#[]⟩) => moved_iff hok hto h0 h1 hx
  generalize underB o.to o.path = ub at rU hR
  generalize thereB l o.to = tb2 at rY hth
  generalize foldF l (splitF o.to).1 = fo at rC hR
  simp only [runH, runX, bl, go_sem, setCells, setIn]
  refine vw_cond (t := false) rfl (fun h => nomatch h) (fun _ => ?_)
  by_cases hz : o.path = ⟨#[]⟩
  · rw [if_pos (.inl hz)] at hR
    subst hR
    have hz' : decide (o.path = ⟨#[]⟩) = true := by simp [hz]
    refine vw_go rfl ?_; simp only [hz', bl, go_sem, setCells, setIn]
    refine vw_cond (t := true) rfl (fun _ => ?_) (fun h => nomatch h)
    refine vw_go rfl ?_; simp only [go_sem, setCells, setIn]
    exact vw_ret (r_block (r_then (e_ret (ret_by rfl rfl (by simp [RB]) rfl (by simp only [takeCs, takeC, go_sem, setCells, setIn])))))
  have hz' : decide (o.path = ⟨#[]⟩) = false := by simp [hz]
  refine vw_go rfl ?_; simp only [hz', bl, go_sem, setCells, setIn]
  refine ⟨_, _, call_rx [0, 0] Tryz.func73 (rU) rfl rfl rfl rfl rfl rfl rfl (by simp [lendAll, lendC, seek, fresh, nav, rcells, RT.cells, VV.cells, tabE_cons, tabS_cons, ev, take_map_len, iRow_r1, iRow_clean]) rfl (by simp [rcells, RT.cells, CT.clean, T.clean, iRow_r1, iRow_clean]) rfl rfl, ?_⟩
  cases ub
  case true =>
    rw [if_pos (.inr rfl)] at hR
    subst hR
    simp only [runH, runX, bl, go_sem, setCells, setIn]
    refine vw_cond (t := true) rfl (fun _ => ?_) (fun h => nomatch h)
    refine vw_go rfl ?_; simp only [go_sem, setCells, setIn]
    exact vw_ret (r_block (r_then (e_ret (ret_by rfl rfl (by simp [RB]) rfl (by simp only [takeCs, takeC, go_sem, setCells, setIn])))))
  rw [if_neg (by rintro (h | h); exact hz h; cases h)] at hR
  simp only [runH, runX, bl, go_sem, setCells, setIn]
  refine vw_cond (t := false) rfl (fun h => nomatch h) (fun _ => ?_)
  refine vw_go rfl ?_; simp only [bl, go_sem, setCells, setIn]
  refine ⟨_, _, call_rx [0, 0] Tryz.func68 (rY) rfl rfl rfl rfl rfl rfl rfl (by simp [lendAll, lendC, seek, fresh, nav, rcells, RT.cells, VV.cells, tabE_cons, tabS_cons, ev, take_map_len, iRow_r1, iRow_clean, bl]) rfl (by simp [rcells, RT.cells, CT.clean, T.clean, iRow_r1, iRow_clean, bl]) rfl rfl, ?_⟩
  cases tb2
  case true =>
    rw [if_pos (hth.1 rfl)] at hR
    subst hR
    simp only [runH, runX, bl, go_sem, setCells, setIn]
    refine vw_cond (t := true) rfl (fun _ => ?_) (fun h => nomatch h)
    refine vw_go rfl ?_; simp only [go_sem, setCells, setIn]
    exact vw_ret (r_block (r_then (e_ret (ret_by rfl rfl (by simp [RB]) rfl (by simp only [takeCs, takeC, go_sem, setCells, setIn])))))
  have hnt : ¬ (o.to = ⟨#[]⟩ ∨ 0 ≤ findF l o.to) := fun h => by have := hth.2 h; cases this
  have hy : o.to ≠ ⟨#[]⟩ := fun h => hnt (.inl h)
  rw [if_neg hnt] at hR
  simp only [runH, runX, bl, go_sem, setCells, setIn]
  refine vw_cond (t := false) rfl (fun h => nomatch h) (fun _ => ?_)
  refine vw_skip (n_block (n_then ?_))
  refine vw_seq ?_
  refine vw_go rfl ?_; simp only [bl, go_sem, setCells, setIn]
  refine ⟨_, _, call_rx [0, 0] Tryz.func69 (rC) rfl rfl rfl rfl rfl rfl rfl (by simp [lendAll, lendC, seek, fresh, nav, rcells, RT.cells, VV.cells, tabE_cons, tabS_cons, ev, take_map_len, iRow_r1, iRow_clean, bl]) rfl (by simp [rcells, RT.cells, CT.clean, T.clean, iRow_r1, iRow_clean, bl]) rfl rfl, ?_⟩
  simp only [runH, runX, bl, go_sem, setCells, setIn]
  by_cases h0 : fo = 0
  case neg =>
    rw [if_pos h0] at hR
    subst hR
    refine vw_go rfl ?_; simp only [h0, bl, go_sem, setCells, setIn]
    refine vw_cond (t := true) rfl (fun _ => ?_) (fun h => nomatch h)
    refine vw_go rfl ?_; simp only [go_sem, setCells, setIn]
    exact vw_ret (r_then (e_ret (ret_by rfl rfl (by simp [RB]) rfl (by simp only [takeCs, takeC, go_sem, setCells, setIn]))))
  rw [if_neg (fun h => h h0)] at hR
  refine vw_go rfl ?_; simp only [h0, go_sem, setCells, setIn]
  refine vw_cond (t := false) rfl (fun h => nomatch h) (fun _ => ?_)
  refine vw_skip (n_then ?_)
  refine vw_go rfl ?_; simp only [range1, List.replicate_succ, List.replicate_zero, List.flatten_cons, List.flatten_nil, List.range_zero, gt_iff_lt, go_sem, setCells, setIn]
  refine vw_seq ?_
  refine vw_go rfl ?_; simp only [bl, go_sem, setCells, setIn]
  refine vw_block ?_
  refine vw_loop_tab (α := Nat × List It3 × List Path) (fun x => l.length - x.1) (fun x => ⟨tabE [(0, .al 0 [] 0 3 0 l.length), (3, .ptr 5 [] 0 0 0), (7, .al 6 [] 0 3 0 x.2.1.length), (44, .al 0 [] 0 3 0 l.length), (45, .c (.int .i64 l.length)), (46, .c (.int .i64 x.1))],
      tabS [(0, some ⟨false, 3, l.map iRow, []⟩), (5, some ⟨true, 4, [[.int .i64 o.kind, .str o.path, .str o.to, .str o.data]], []⟩), (6, some ⟨false, 3, x.2.1.map iRow, x.2.2⟩)], 7⟩)
    (fun x => x.1 ≤ l.length ∧ moveG l o (l.drop x.1) x.2.1 = R ∧ x.2.1.length ≤ x.1) (x := (0, [], [])) ?round ?h0 ?hn
  case h0 => exact ⟨Nat.zero_le _, hR.symm, Nat.le_refl _⟩
  case hn =>
    refine norm_to [(0, 0), (5, 5), (393221, 6)] rfl ?_ ?_ <;> simp only [go_sem]
  rintro ⟨i, q, lg⟩ ⟨hi, hg, hql⟩
  simp only at hi hg hql
  have bq : List.take q.length (q.map iRow) = q.map iRow := List.take_of_length_le (by simp)
  by_cases hc : (i : Int) < l.length
  case neg =>
    rw [List.drop_eq_nil_of_le (by omega), moveG] at hg
    subst hg
    refine vw_go rfl ?_; simp only [hc, go_sem, setCells, setIn]
    refine vw_seq ?_
    refine vw_cond (t := false) rfl (fun h => nomatch h) (fun _ => ?_)
    refine vw_exit (x_then (x_then (x_block (n_then ?_))))
    refine vw_go rfl ?_; simp only [go_sem, setCells, setIn]
    exact vw_ret (e_ret (ret_by rfl rfl (by simp [RB]) rfl (by simp only [takeCs, takeC, bq, go_sem, setCells, setIn])))
  have hin : i < l.length := by omega
  obtain ⟨x, hx⟩ : ∃ x, l[i]? = some x := ⟨_, List.getElem?_eq_getElem hin⟩
  rw [drop_of hx, moveG] at hg
  have hxs := Nat.le_trans (h100 x (List.mem_of_getElem? hx)) (show 100 ≤ 2 ^ 19 by decide)
  have hmx := hmi x (List.mem_of_getElem? hx) hz hy
  have d0 : (0:Int) ≤ (i : Int) := by omega
  have w3 : IntKind.wrap .i64 ((i:Int) + 1) = ((i + 1 : Nat) : Int) := by rw [wrap_i64 (by omega) (by omega)]; rfl
  have rX := runs_73 x.1 o.path (by omega) (by omega)
  have hus := underB_size (p := x.1) (q := o.path)
  have B1 : ¬ (q.length + 1 + 1) * (40 + 1) > bigRow := big41 (by omega)
  have hmsz : (movedP o x.1).size ≤ 2 ^ 20 := by
    unfold movedP
    split
    · rw [add_size, extract_size (Nat.le_refl _)]; omega
    · omega
  have rP := runs_74 (movedP o x.1) 47
  have hmp : movedP o x.1 = if underB x.1 o.path = true then o.to ++ x.1.extract o.path.size x.1.size else x.1 := rfl
  generalize underB x.1 o.path = u at rX hus hmp
  generalize movedP o x.1 = mp at rP hg hmp hmx
  rw [hmx] at hg
  generalize mp.data.toList.count 47 = cn at rP hg
  refine vw_go rfl ?_; simp only [hc, go_sem, setCells, setIn]
  refine vw_seq ?_
  refine vw_cond (t := true) rfl (fun _ => ?_) (fun h => nomatch h)
  refine vw_skip (n_then ?_)
  refine vw_seq ?_
  refine vw_block ?_
  refine vw_go rfl ?_; simp only [d0, hc, hin, Int.toNat_natCast, getD_map_of hx, iRow, go_sem, setCells, setIn]
  refine vw_join (α := Unit) (fun z => ⟨tabE [(0, .al 0 [] 0 3 0 l.length), (3, .ptr 5 [] 0 0 0), (7, .al 6 [] 0 3 0 q.length), (44, .al 0 [] 0 3 0 l.length), (45, .c (.int .i64 l.length)), (46, .c (.int .i64 i)), (9, .ptr 7 [] 0 0 0)],
      tabS [(0, some ⟨false, 3, l.map iRow, []⟩), (5, some ⟨true, 4, [[.int .i64 o.kind, .str o.path, .str o.to, .str o.data]], []⟩), (6, some ⟨false, 3, q.map iRow, lg⟩), (7, some ⟨true, 3, [[.str mp, .bool x.2.1, .str x.2.2]], []⟩)], 8⟩) (fun z => True) ?_ ?_
  · (refine vw_go rfl ?_; simp only [go_sem, setCells, setIn])
    refine ⟨_, _, call_rx [0, 0] Tryz.func73 (rX) rfl rfl rfl rfl rfl rfl rfl (by simp [lendAll, lendC, seek, fresh, nav, rcells, RT.cells, VV.cells, tabE_cons, tabS_cons, ev, take_map_len, iRow_r1, iRow_clean]) rfl (by simp [rcells, RT.cells, CT.clean, T.clean, iRow_r1, iRow_clean]) rfl rfl, ?_⟩
    cases u
    · rw [if_neg (by decide)] at hmp
      subst hmp
      simp only [runH, runX, go_sem, setCells, setIn]
      refine vw_cond (t := false) rfl (fun h => nomatch h) (fun _ => ?_)
      refine vw_skip (n_then ⟨(), ?_⟩)
      refine norm_to [(0, 0), (5, 5), (6, 6), (67591, 7)] rfl ?_ ?_ <;> simp only [go_sem]
    · rw [if_pos rfl] at hmp
      have hus := hus rfl
      subst hmp
      have l1 : (0 : Int) ≤ (o.path.size : Int) := by omega
      have zc : o.to.size + (x.1.extract o.path.size x.1.size).size < 2 ^ 60 := by rw [extract_size (Nat.le_refl _)]; omega
      simp only [runH, runX, go_sem, setCells, setIn]
      refine vw_cond (t := true) rfl (fun _ => ?_) (fun h => nomatch h)
      refine vw_drawA_last mixed rfl rfl ?_
      intro A hAA
      simp (maxSteps := 1000000) only [l1, hus, zc, Int.toNat_natCast, go_sem, setCells, setIn, runW_step]
      refine ⟨by subst hAA; unfold allOk; kernel_rfl, ?_⟩
      refine (n_then ⟨(), ?_⟩)
      refine norm_to [(0, 0), (5, 5), (6, 6), (67591, 7)] rfl ?_ ?_ <;> simp only [go_sem]
  intro z _
  refine vw_seq ?_
  refine vw_go rfl ?_; simp only [go_sem, setCells, setIn]
  refine ⟨_, _, call_rx [0, 0] Tryz.func74 (rP) rfl rfl rfl rfl rfl rfl rfl (by simp [lendAll, lendC, seek, fresh, nav, rcells, RT.cells, VV.cells, tabE_cons, tabS_cons, ev, take_map_len, lit, iRow_r1, iRow_clean]) rfl (by simp [rcells, RT.cells, CT.clean, T.clean, lit, iRow_r1, iRow_clean]) rfl rfl, ?_⟩
  by_cases h4 : (cn : Int) < 4
  case neg =>
    rw [if_neg (by simpa using h4)] at hg
    subst hg
    have h4' : (4 : Int) ≤ (cn : Int) := by omega
    simp only [runH, runX, h4', go_sem, setCells, setIn]
    refine vw_cond (t := true) rfl (fun _ => ?_) (fun h => nomatch h)
    refine vw_go rfl ?_; simp only [go_sem, setCells, setIn]
    refine vw_ret ?_
    repeat (first | refine r_then ?_ | refine r_block ?_)
    exact e_ret (ret_by rfl rfl (by simp [RB]) rfl (by simp only [takeCs, takeC, bl, go_sem, setCells, setIn]))
  rw [if_pos (by simpa using h4)] at hg
  have h4' : ¬ (4 : Int) ≤ (cn : Int) := by omega
  simp only [runH, runX, h4', go_sem, setCells, setIn]
  refine vw_cond (t := false) rfl (fun h => nomatch h) (fun _ => ?_)
  refine vw_skip (n_then ?_)
  refine vw_last rfl ?_; simp only [B1, bq, List.drop_length, range1, List.replicate_succ, List.replicate_zero, List.flatten_cons, List.flatten_nil, List.range_zero, gt_iff_lt, go_sem, setCells, setIn]
  refine (n_block (n_then ?_))
  refine vw_last rfl ?_; simp only [w3, go_sem, setCells, setIn]
  refine (n_then ?_)
  have e4 : q.map iRow ++ [[.str mp, .bool x.2.1, .str x.2.2]] = (q ++ [(mp, x.2)]).map iRow := by simp [iRow]
  rw [e4]
  refine ⟨(i + 1, q ++ [(mp, x.2)], []), by simp only; omega, ⟨by simp only; omega, hg, by simp; omega⟩, ?_⟩
  have e5 : q.length + 1 = (q ++ [(mp, x.2)]).length := by simp
  rw [e5]
  generalize q ++ [(mp, x.2)] = q'
  refine norm_to [(0, 0), (5, 5), (68616, 6)] rfl ?_ ?_ <;> simp only [go_sem]
end Go.Proofs.YtoenfbbadfcfpaaGreatDoor
namespace Go.Proofs
open Go.Shelf
def Tryz.lays156_ren : Go.Shelf.Ren := ⟨fun | 156 => 102 | 165 => 118 | 166 => 119 | 169 => 120 | 240 => 142 | 241 => 143 | 276 => 161 | 277 => 162 | n => n, fun | 31 => 39 | 9 => 9 | 3 => 3 | 4 => 4 | 0 => 0 | 20 => 20 | 72 => 125 | 76 => 129 | 70 => 123 | 37 => 36 | 75 => 128 | 127 => 152 | 164 => 170 | 5 => 5 | 80 => 131 | n => n, fun | n => n⟩
theorem Tryz.lays156 : Go.Proofs.Lays.n156 Tryz.prog Tryz.lays156_ren := {
  mixed := by kernel_rfl
  f156 := Tryz.func102.trans (congrArg some (by kernel_rfl))
  f165 := Tryz.func118.trans (congrArg some (by kernel_rfl))
  f166 := Tryz.func119.trans (congrArg some (by kernel_rfl))
  f169 := Tryz.func120.trans (congrArg some (by kernel_rfl))
  f240 := Tryz.func142.trans (congrArg some (by kernel_rfl))
  f241 := Tryz.func143.trans (congrArg some (by kernel_rfl))
  f276 := Tryz.func161.trans (congrArg some (by kernel_rfl))
  f277 := Tryz.func162.trans (congrArg some (by kernel_rfl))
  t0 := Tryz.underlying0
  a0 := Tryz.isAgg0
  z0 := Tryz.sizeOf0
  v0 := Tryz.zeroValue0
  t3 := Tryz.underlying3
  a3 := Tryz.isAgg3
  z3 := Tryz.sizeOf3
  v3 := Tryz.zeroValue3
  t4 := Tryz.underlying4
  a4 := Tryz.isAgg4
  z4 := Tryz.sizeOf4
  v4 := Tryz.zeroValue4
  t9 := Tryz.underlying9
  a9 := Tryz.isAgg9
  z9 := Tryz.sizeOf9
  v9 := Tryz.zeroValue9
  t20 := Tryz.underlying20
  a20 := Tryz.isAgg20
  z20 := Tryz.sizeOf20
  v20 := Tryz.zeroValue20
  t31 := Tryz.underlying39
  a31 := Tryz.isAgg39
  z31 := Tryz.sizeOf39
  v31 := Tryz.zeroValue39
  t37 := Tryz.underlying36
  a37 := Tryz.isAgg36
  z37 := Tryz.sizeOf36
  v37 := Tryz.zeroValue36
  t70 := Tryz.underlying123
  a70 := Tryz.isAgg123
  z70 := Tryz.sizeOf123
  v70 := Tryz.zeroValue123
  t72 := Tryz.underlying125
  a72 := Tryz.isAgg125
  z72 := Tryz.sizeOf125
  v72 := Tryz.zeroValue125
  t75 := Tryz.underlying128
  a75 := Tryz.isAgg128
  z75 := Tryz.sizeOf128
  v75 := Tryz.zeroValue128
  t76 := Tryz.underlying129
  a76 := Tryz.isAgg129
  z76 := Tryz.sizeOf129
  v76 := Tryz.zeroValue129
  t127 := Tryz.underlying152
  a127 := Tryz.isAgg152
  z127 := Tryz.sizeOf152
  v127 := Tryz.zeroValue152
  t164 := Tryz.underlying170
  a164 := Tryz.isAgg170
  z164 := Tryz.sizeOf170
  v164 := Tryz.zeroValue170 }
theorem Tryz.Builder_Extra_156 : Builder.Extra Tryz.prog Tryz.lays156_ren := {
  sizeBuilder := by kernel_rfl
  liesBuilder := by kernel_rfl
  t5 := Tryz.underlying5
  a5 := Tryz.isAgg5
  z5 := Tryz.sizeOf5
  v5 := Tryz.zeroValue5
  infoByte := by kernel_rfl
  cellsByte := by kernel_rfl
  sizeByte := by kernel_rfl
  neB5 := by decide }
open Go.RowKit in
theorem Tryz.strings_Join_none (a : Option Addr) (c : Nat) (sep : ByteArray) (w : World) :
    Calls Tryz.prog 102 #[.slice a 0 c, .string sep] w fun e w' => e = .returned (.string ⟨#[]⟩) ∧ w' = w := Any.strings_Join_none Tryz.lays156 Tryz.Builder_Extra_156 a c sep w
open Go.RowKit in
theorem Tryz.strings_Join (bk o c : Nat) (xs : List ByteArray) (sep : ByteArray) (w : World) (hcells : ∀ (j : Nat) x, xs[j]? = some x → w.cell? ⟨bk, o + j, none⟩ = some (.string x)) (hbk : bk < w.heap.size) (hN : xs.length ≤ 140737488355328) (hcap : xs.length ≤ c) (hlen : (Lib.join (xs.map (·.data.toList)) sep.data.toList).length ≤ 140737488355328) :
    Calls Tryz.prog 102 #[.slice (some ⟨bk, o, none⟩) xs.length c, .string sep] w fun e w' => e = .returned (.string ⟨(Lib.join (xs.map (·.data.toList)) sep.data.toList).toArray⟩) ∧ Below w.heap.size w w' := Any.strings_Join Tryz.lays156 Tryz.Builder_Extra_156 bk o c xs sep w hcells hbk hN hcap hlen
def Tryz.lays125_ren : Go.Shelf.Ren := ⟨fun | 125 => 116 | 128 => 140 | 129 => 141 | n => n, fun | 46 => 121 | 3 => 3 | 51 => 149 | 53 => 151 | 4 => 4 | 5 => 5 | 9 => 9 | n => n, fun | n => n⟩
theorem Tryz.lays125 : Go.Proofs.Lays.n125 Tryz.prog Tryz.lays125_ren := {
  mixed := by kernel_rfl
  f125 := Tryz.func116.trans (congrArg some (by kernel_rfl))
  f128 := Tryz.func140.trans (congrArg some (by kernel_rfl))
  f129 := Tryz.func141.trans (congrArg some (by kernel_rfl))
  t3 := Tryz.underlying3
  a3 := Tryz.isAgg3
  z3 := Tryz.sizeOf3
  v3 := Tryz.zeroValue3
  t4 := Tryz.underlying4
  a4 := Tryz.isAgg4
  z4 := Tryz.sizeOf4
  v4 := Tryz.zeroValue4
  t5 := Tryz.underlying5
  a5 := Tryz.isAgg5
  z5 := Tryz.sizeOf5
  v5 := Tryz.zeroValue5
  t9 := Tryz.underlying9
  a9 := Tryz.isAgg9
  z9 := Tryz.sizeOf9
  v9 := Tryz.zeroValue9
  t46 := Tryz.underlying121
  a46 := Tryz.isAgg121
  z46 := Tryz.sizeOf121
  v46 := Tryz.zeroValue121
  t51 := Tryz.underlying149
  a51 := Tryz.isAgg149
  z51 := Tryz.sizeOf149
  v51 := Tryz.zeroValue149
  t53 := Tryz.underlying151
  a53 := Tryz.isAgg151
  z53 := Tryz.sizeOf151
  v53 := Tryz.zeroValue151 }
theorem Tryz.bits_Len (x : Int) (w : World) (h0 : 0 ≤ x) (h1 : x ≤ 18446744073709551615) :
    Calls Tryz.prog 116 #[.int .u64 x] w fun e w' => e = .returned (.int .i64 (Lib.bitLen x.toNat)) ∧ w' = w := Any.bits_Len Tryz.lays125 x w h0 h1
end Go.Proofs
namespace Go.Proofs.YtoenfbbadfcfpaaGreatDoor
open Go.VM Go Go.RowKit
def joinS (sep : ByteArray) (l : List ByteArray) : ByteArray := ⟨(Lib.join (l.map (·.data.toList)) sep.data.toList).toArray⟩
theorem steady_below {w w' : World} {ow : Own} (h : Below w.heap.size w w') : Steady w ow w' (fun _ => none) :=
  ⟨fun b _ hb => ⟨h.block b hb, rfl⟩, h.size, h.os, h.tape, h.output⟩
theorem rel_bare {w : World} {bs : Base} {fr : Nat → Prop} : Rel w (fun _ => none) bs st0 fr :=
  ⟨(fun r R h => by simp [st0] at h), (fun r R h => by simp [st0] at h), (fun b ℓ h => by cases h), fun r h => rfl⟩
theorem runs_102 (l : List ByteArray) (sep : ByteArray) (hl : l.length ≤ 2 ^ 20) (hj : (Lib.join (l.map (·.data.toList)) sep.data.toList).length ≤ 2 ^ 40) :
    Runs Tryz.prog 102 [.one (.v (.list false 1 (l.map sRow))), .one (.v (.str sep))] [.one (.v (.str (joinS sep l)))] [] := by
  intro w ow bs vals hrel heach
  obtain ⟨hlen, hv⟩ := heach
  have hv0 := hv 0 _ rfl
  have hv1 := hv 1 _ rfl
  have hsz : vals.size = 2 := hlen.symm
  obtain ⟨v0, v1, rfl⟩ : ∃ v0 v1, vals = #[v0, v1] := by
    refine ⟨vals[0], vals[1], ?_⟩
    apply Array.ext
    · simp [hsz]
    · intro i h1 h2
      match i with
      | 0 => rfl
      | 1 => rfl
      | i + 2 => omega
  change RelV w ow bs _ _ (.c (.list false 1 (l.map sRow))) v0 at hv0
  change RelV w ow bs _ _ (.c (.str sep)) v1 at hv1
  obtain rfl := rel_str hv1
  have fin : ∀ (e : Ending) (w' : World), (e = .returned (.string (joinS sep l)) ∧ Below w.heap.size w w') → ∃ v ow' bs', e = .returned v ∧ Steady w ow w' ow' ∧ Rel w' ow' bs' (stOut [.one (.v (.str (joinS sep l)))] []) (fun _ => False) ∧
      RelV w' ow' bs' (stOut [.one (.v (.str (joinS sep l)))] []) (fun _ => False) (outV [.one (.v (.str (joinS sep l)))]) v ∧ ∀ p ∈ ([] : List (Nat × Root)), bs' (p.1, []) = bs (p.1, []) := by
    rintro e w' ⟨rfl, hb⟩
    exact ⟨_, fun _ => none, bs, rfl, steady_below hb, rel_bare, .c .str, fun p hp => nomatch hp⟩
  cases hv0 with
  | c hv0 =>
  generalize hrows : l.map sRow = rows at hv0
  cases hv0 with
  | @nil _ a cap =>
    have : l = [] := by simpa using hrows
    subst this
    refine (Tryz.strings_Join_none a cap sep w).mono (fun e w' ⟨h1, h2⟩ => fin e w' ⟨?_, ?_⟩)
    · rw [h1]; rfl
    · rw [h2]; exact Below.refl _ _
  | @list a _ _ len cap c e fr spot own blk hlen2 hcap fits hr hcells =>
    obtain rfl : len = l.length := by rw [hlen2, ← hrows]; simp
    obtain ⟨bk, o, s⟩ := a
    simp only at spot own blk fits hcells
    subst spot
    refine (Tryz.strings_Join bk o cap l sep w (fun j x hx => ?_) (lt_of_get blk) (by omega) hcap (by omega)).mono (fun e w' h => fin e w' h)
    have h1 : rows[j]? = some (sRow x) := by rw [← hrows, List.getElem?_map, hx]; rfl
    have h2 := hcells j (sRow x) 0 (.str x) h1 rfl
    have hjl := lt_of_getl hx
    rw [Nat.mul_one, Nat.add_zero] at h2
    have hc := cell_of (b := bk) (o := o + j) blk (by omega)
    rw [hc]
    cases hq : c.getD (o + j) undef with
    | string s => rw [hq] at h2; cases h2; rfl
    | _ => rw [hq] at h2; cases h2
theorem runs_116 (n : Nat) (hn : n ≤ 2 ^ 60) : Runs Tryz.prog 116 [.one (.v (.int .u64 (n : Int)))] [.one (.v (.int .i64 (Lib.bitLen n)))] [] := by
  intro w ow bs vals hrel heach
  obtain ⟨hlen, hv⟩ := heach
  have hv0 := hv 0 _ rfl
  have hsz : vals.size = 1 := hlen.symm
  obtain ⟨v0, rfl⟩ : ∃ v0, vals = #[v0] := by
    refine ⟨vals[0], ?_⟩
    apply Array.ext
    · simp [hsz]
    · intro i h1 h2
      match i with
      | 0 => rfl
      | i + 1 => omega
  change RelV w ow bs _ _ (.c (.int .u64 (n : Int))) v0 at hv0
  obtain rfl := rel_int hv0
  refine (Tryz.bits_Len (n : Int) w (by omega) (by omega)).mono (fun e w' ⟨h1, h2⟩ => ?_)
  subst h1 h2
  exact ⟨_, fun _ => none, bs, rfl, steady_below (Below.refl _ _), rel_bare, .c .int, fun p hp => nomatch hp⟩
end Go.Proofs.YtoenfbbadfcfpaaGreatDoor
namespace Go.Proofs.YtoenfbbadfcfpaaGreatDoor
open Go.VM Go
set_option maxRecDepth 100000
attribute [-go_sem] runW_cons
attribute [local congr] vw_congr runV_congr runH_congr runW_congr runX_congr stuckV_congr stuckX_congr
theorem runs_160 (s : ByteArray) : Runs Tryz.prog 160 [.one (.v (.str s))] [.one (.v (.bool false))] [] := by
  refine runs_tab (tab := [(0, .c (.str s))]) (rts := []) (n := 6) (k := 1) Tryz.func160 rfl rfl (by simp) rfl (fun t => ?_) rfl ?_
  · rcases t with _ | t <;> rfl
  refine vw_go rfl ?_; simp only [go_sem, setCells, setIn]
  refine vw_go rfl ?_; simp only [go_sem, setCells, setIn]
  exact vw_ret (e_ret (ret_of rfl rfl (by simp [RB]) rfl rfl))
theorem runs_137 (s t : ByteArray) : Runs Tryz.prog 137 [.one (.v (.str s)), .one (.v (.str t))] [.one (.v (.bool (ltB s t)))] [] := by
  refine runs_tab (tab := [(0, .c (.str s)), (1, .c (.str t))]) (rts := []) (n := 17) (k := 2) Tryz.func137 rfl rfl (by simp) rfl (fun t => ?_) rfl ?_
  · rcases t with _ | _ | t <;> rfl
  unfold ltB
  refine vw_go rfl ?_; simp only [go_sem, setCells, setIn]
  refine vw_go rfl ?_; simp only [go_sem, setCells, setIn]
  refine ⟨_, _, call_rd [0] Tryz.func160 (runs_160 s) rfl rfl rfl rfl rfl rfl rfl rfl rfl rfl rfl rfl rfl, ?_⟩
  simp only [runH, runX, go_sem, setCells, setIn]
  exact vw_ret (e_ret (ret_of rfl rfl (by simp [RB]) rfl rfl))
theorem sort_step {L : List ByteArray} {i : Nat} {s : ByteArray} (hs : L[i]? = some s) : sortL (L.take (i + 1)) = insG (sortL (L.take i)) s := by
  unfold sortL
  rw [List.take_add_one, hs, List.foldl_append]
  rfl
theorem nodup_at : ∀ {L : List ByteArray} {j i : Nat} {s : ByteArray}, L.Nodup → j < i → L[j]? = L[i]? → L[i]? = some s → False
  | [], _, _, _, _, _, _, h => by simp at h
  | a :: L, 0, i + 1, s, hd, _, he, h => by
    rw [List.nodup_cons] at hd
    simp only [List.getElem?_cons_succ] at h he
    rw [h] at he
    simp only [List.getElem?_cons_zero, Option.some.injEq] at he
    subst he
    exact hd.1 (List.mem_of_getElem? h)
  | a :: L, j + 1, i + 1, s, hd, hji, he, h => by
    rw [List.nodup_cons] at hd
    simp only [List.getElem?_cons_succ] at h he
    exact nodup_at hd.2 (by omega) he h
theorem sort_pre {L : List ByteArray} (hd : L.Nodup) {i : Nat} {s : ByteArray} (hs : L[i]? = some s) : Asc (sortL (L.take i)) ∧ s ∉ sortL (L.take i) ∧ (sortL (L.take i)).length = i := by
  have hin := lt_of_getl hs
  have hdt : (L.take i).Nodup := hd.sublist (List.take_sublist i L)
  obtain ⟨h1, h2⟩ := sort_asc (L.take i) [] (by simp [Asc]) hdt (fun x _ h => nomatch h)
  refine ⟨h1, fun h => ?_, ?_⟩
  · have h3 := (h2 s).1 h
    rcases h3 with h3 | h3
    · obtain ⟨j, hj⟩ := List.getElem?_of_mem h3
      rw [List.getElem?_take] at hj
      split at hj
      · rename_i hji
        exact nodup_at hd hji (by rw [hj, hs]) hs
      · cases hj
    · cases h3
  · have : ∀ (l acc : List ByteArray), (l.foldl insG acc).length = acc.length + l.length := by
      intro l
      induction l with
      | nil => intro acc; simp
      | cons x l ih => intro acc; rw [List.foldl_cons, ih, ins_len, List.length_cons]; omega
    unfold sortL
    rw [this, List.length_take, List.length_nil]; omega
theorem snoc_of : ∀ (P : List ByteArray), P ≠ [] → ∃ P' u, P = P' ++ [u]
  | [], h => absurd rfl h
  | [a], _ => ⟨[], a, rfl⟩
  | a :: b :: P, _ => by
    obtain ⟨P', u, e⟩ := snoc_of (b :: P) (by simp)
    exact ⟨a :: P', u, by rw [e]; rfl⟩
set_option maxHeartbeats 2000000 in
theorem runs_131 (L : List ByteArray) (hl : L.length ≤ 12) (hd : L.Nodup) :
    Runs Tryz.prog 131 [.one (.v (.list true 1 (L.map sRow))), .one (.v (.int .i64 0)), .one (.v (.int .i64 L.length))] [] [(0, ⟨false, 1, (sortL L).map sRow, []⟩)] := by
  refine runs_tabB (tab := [(0, .al 0 [] 0 1 0 L.length), (1, .c (.int .i64 0)), (2, .c (.int .i64 L.length))]) (rts := [(0, some ⟨false, 1, L.map sRow, []⟩)]) (n := 49) (k := 3) Tryz.func131 rfl rfl (by simp) rfl (fun t => ?_) rfl ?_
  · rcases t with _ | _ | _ | t <;> simp [envOf, rvv, RT.vv, CT.vv, cvv, tabE_cons, tabE_nil, rcells, RT.cells]
  refine vw_go rfl ?_; simp only [go_sem, setCells, setIn]
  refine vw_block ?_
  refine vw_loop_tab (α := Nat × List ByteArray) (fun x => L.length + 1 - x.1) (fun x => ⟨tabE [(0, .al 0 [] 0 1 0 L.length), (1, .c (.int .i64 0)), (2, .c (.int .i64 L.length)), (6, .c (.int .i64 x.1))], tabS [(0, some ⟨false, 1, x.2.map sRow, []⟩)], 3⟩)
    (fun x => 1 ≤ x.1 ∧ x.2 = sortL (L.take x.1) ++ L.drop x.1) (x := (1, L)) ?round ?h0 ?hn
  case h0 =>
    refine ⟨Nat.le_refl _, ?_⟩
    cases L with
    | nil => rfl
    | cons a L => rfl
  case hn =>
    refine norm_to [(0, 0)] rfl ?_ ?_ <;> simp only [go_sem]
    · rfl
  rintro ⟨i, w⟩ ⟨hi, hw⟩
  simp only at hi hw
  refine vw_seq ?_
  by_cases hc : (i : Int) < L.length
  case neg =>
    rw [List.take_of_length_le (by omega), List.drop_of_length_le (by omega), List.append_nil] at hw
    subst hw
    refine vw_go rfl ?_; simp only [hc, go_sem, setCells, setIn]
    refine vw_cond (t := false) rfl (fun h => nomatch h) (fun _ => ?_)
    refine vw_exit (x_then (x_then (x_block (e_normal ?_))))
    exact (ret_b rfl rfl (by simp [RB]) rfl rfl ⟨⟨by simp, _, rfl, rfl, rfl, rfl⟩, trivial⟩)
  have hin : i < L.length := by omega
  obtain ⟨s, hs⟩ : ∃ s, L[i]? = some s := ⟨_, List.getElem?_eq_getElem hin⟩
  obtain ⟨hasc, hns, hSl⟩ := sort_pre hd hs
  have hst := sort_step hs
  rw [drop_of hs] at hw
  have hRl : i + 1 + (L.drop (i + 1)).length = L.length := by rw [List.length_drop]; omega
  generalize hR : L.drop (i + 1) = R at hw hRl
  generalize sortL (L.take i) = S at hasc hns hSl hst hw
  subst hw
  subst hSl
  have w3 : IntKind.wrap .i64 ((S.length:Int) + 1) = ((S.length + 1 : Nat) : Int) := by rw [wrap_i64 (by omega) (by omega)]; rfl
  refine vw_go rfl ?_; simp only [hc, go_sem, setCells, setIn]
  refine vw_cond (t := true) rfl (fun _ => ?_) (fun h => nomatch h)
  refine vw_skip (n_then ?_)
  refine vw_seq ?_
  refine vw_block ?_
  refine vw_go rfl ?_; simp only [go_sem, setCells, setIn]
  refine vw_block ?_
  refine vw_loop_tab (α := List ByteArray × List ByteArray) (fun x => x.1.length) (fun x => ⟨tabE [(0, .al 0 [] 0 1 0 L.length), (1, .c (.int .i64 0)), (2, .c (.int .i64 L.length)), (6, .c (.int .i64 S.length)), (7, .c (.int .i64 x.1.length))], tabS [(0, some ⟨false, 1, (x.1 ++ s :: (x.2 ++ R)).map sRow, []⟩)], 3⟩)
    (fun x => S = x.1 ++ x.2 ∧ ∀ u ∈ x.2, ltB s u = true) (x := (S, [])) ?round2 ?h02 ?hn2
  case h02 => exact ⟨(List.append_nil _).symm, fun u h => nomatch h⟩
  case hn2 =>
    refine norm_to [(0, 0)] rfl ?_ ?_ <;> simp only [go_sem]
  rintro ⟨P, Q⟩ ⟨hPQ, hQ⟩
  simp only at hPQ hQ
  have hdone : (∀ u ∈ P, ltB u s = true) → P ++ s :: (Q ++ R) = sortL (L.take (S.length + 1)) ++ L.drop (S.length + 1) := fun hP => by
    rw [hst, hPQ, ins_of hP hQ, ← hPQ, hR]; simp
  have hlen : (P ++ s :: (Q ++ R)).length = L.length := by rw [← hRl, hPQ]; simp; omega
  refine vw_seq ?_
  rcases Decidable.em (P = []) with rfl | hne
  case inl =>
    have hdn := hdone (fun u h => nomatch h)
    have z0 : ¬ (0 : Int) < (([] : List ByteArray).length : Int) := by simp
    refine vw_drawA mixed rfl rfl ?_; intro A hAA
    have k3 : (A[3]?).bind (·.dst) = some 19 := by subst hAA; rfl
    simp (maxSteps := 1000000) only [z0, k3, go_sem, setCells, setIn, runW_step]
    refine ⟨by subst hAA; unfold allOk; kernel_rfl, ?_⟩
    refine vw_cond (t := false) rfl (fun h => nomatch h) (fun _ => ?_)
    refine vw_exit (x_then (x_then (x_block (n_block (n_then ?_)))))
    refine vw_last rfl ?_; simp only [w3, go_sem, setCells, setIn]
    refine (n_then ?_)
    refine ⟨(S.length + 1, _), by simp only; omega, ⟨by simp only; omega, hdn⟩, ?_⟩
    refine norm_to [(0, 0)] rfl ?_ ?_ <;> simp only [go_sem]
  obtain ⟨P', u, rfl⟩ := snoc_of P hne
  have hPu : (P' ++ [u]).length = P'.length + 1 := by simp
  have gj : (P' ++ [u] ++ s :: (Q ++ R))[(P' ++ [u]).length]? = some s := by simp
  have gi : (P' ++ [u] ++ s :: (Q ++ R))[P'.length]? = some u := by simp
  have hjl : (P' ++ [u]).length < L.length := by rw [← hlen]; simp
  have hjW : (P' ++ [u]).length < (P' ++ [u] ++ s :: (Q ++ R)).length := by simp
  have hswap : (((P' ++ [u] ++ s :: (Q ++ R)).map sRow).set (P' ++ [u]).length [.str u]).set P'.length [.str s] = (P' ++ s :: ((u :: Q) ++ R)).map sRow := by
    simp [sRow]
  have hltP : ltB s u = false → ∀ v ∈ P' ++ [u], ltB v s = true := fun h v hv => by
    have hSu : u ∈ S := by rw [hPQ]; simp
    have hus : ltB u s = true := by
      cases h2 : ltB u s
      · exact absurd (ltB_total h2 h) (fun e => hns (e ▸ hSu))
      · rfl
    rcases List.mem_append.1 hv with hv | hv
    · rw [hPQ, List.append_assoc] at hasc
      have := (List.pairwise_append.1 hasc).2.2 v hv u (by simp)
      exact ltB_trans this hus
    · rw [List.mem_singleton] at hv; rw [hv]; exact hus
  generalize P' ++ [u] ++ s :: (Q ++ R) = W at *
  generalize (P' ++ [u]).length = j at *
  have hiW : P'.length < W.length := by omega
  have e1 : ((W.map sRow).set j [.str u]).getD P'.length [] = [.str u] := by
    rw [List.getD_eq_getElem?_getD, List.getElem?_set_ne (by omega), ← List.getD_eq_getElem?_getD, getD_map_of gi, sRow]
  have z0 : (0 : Int) < (j : Int) := by omega
  have w4 : IntKind.wrap .i64 ((j:Int) - 1) = (P'.length : Int) := by rw [wrap_i64 (by omega) (by omega)]; omega
  have c0 : (0 : Int) ≤ (j : Int) := by omega
  have c1 : (j : Int) < (L.length : Int) := by omega
  have c2 : (0 : Int) ≤ (P'.length : Int) := by omega
  have c3 : (P'.length : Int) < (L.length : Int) := by omega
  refine vw_drawA mixed rfl rfl ?_; intro A hAA
  have k3 : (A[3]?).bind (·.dst) = some 19 := by subst hAA; rfl
  simp (maxSteps := 1000000) only [z0, w4, c0, c1, c2, c3, hjW, hiW, List.length_map, Int.toNat_natCast, getD_map_of gj, getD_map_of gi, sRow, k3, go_sem, setCells, setIn, runW_step]
  refine ⟨_, _, _, call_rd_at [0, 0] [] Tryz.func137 (runs_137 s u) (fun _ _ => rfl) rfl rfl rfl rfl rfl rfl rfl rfl rfl rfl rfl rfl, ?_⟩
  cases hlt : ltB s u
  · (unfold runX; simp (maxSteps := 1000000) only [k3, go_sem, setCells, setIn, runW_step])
    refine ⟨by subst hAA; unfold allOk; kernel_rfl, ?_⟩
    refine vw_cond (t := false) rfl (fun h => nomatch h) (fun _ => ?_)
    refine vw_exit (x_then (x_then (x_block (n_block (n_then ?_)))))
    have hdn := hdone (hltP hlt)
    refine vw_last rfl ?_; simp only [w3, go_sem, setCells, setIn]
    refine (n_then ?_)
    refine ⟨(S.length + 1, _), by simp only; omega, ⟨by simp only; omega, hdn⟩, ?_⟩
    refine norm_to [(0, 0)] rfl ?_ ?_ <;> simp only [go_sem]
  (unfold runX; simp (maxSteps := 1000000) only [k3, go_sem, setCells, setIn, runW_step])
  refine ⟨by subst hAA; unfold allOk; kernel_rfl, ?_⟩
  refine vw_cond (t := true) rfl (fun _ => ?_) (fun h => nomatch h)
  refine vw_skip (n_then ?_)
  refine vw_seq ?_
  refine vw_block ?_
  refine vw_drawA_last mixed rfl rfl ?_
  intro A hAA
  simp (maxSteps := 1000000) only [w4, c0, c1, c2, c3, hjW, hiW, List.length_map, Int.toNat_natCast, getD_map_of gj, getD_map_of gi, sRow, e1, hswap, List.length_set, go_sem, setCells, setIn, runW_step]
  refine ⟨by subst hAA; unfold allOk; kernel_rfl, ?_⟩
  refine (n_block (n_then ?_))
  refine vw_last rfl ?_; simp only [w4, go_sem, setCells, setIn]
  refine (n_then ?_)
  refine ⟨(P', u :: Q), by simp only; omega, ⟨by rw [hPQ]; simp, fun v hv => ?_⟩, ?_⟩
  · rcases List.mem_cons.1 hv with rfl | hv
    · exact hlt
    · exact hQ v hv
  refine norm_to [(0, 0)] rfl ?_ ?_ <;> simp only [go_sem]
theorem runs_115 (L : List ByteArray) (hl : L.length ≤ 12) (hd : L.Nodup) (lim : Int) :
    Runs Tryz.prog 115 [.one (.v (.list true 1 (L.map sRow))), .one (.v (.int .i64 0)), .one (.v (.int .i64 L.length)), .one (.v (.int .i64 lim))] [] [(0, ⟨false, 1, (sortL L).map sRow, []⟩)] := by
  refine runs_tabB (tab := [(0, .al 0 [] 0 1 0 L.length), (1, .c (.int .i64 0)), (2, .c (.int .i64 L.length)), (3, .c (.int .i64 lim))]) (rts := [(0, some ⟨false, 1, L.map sRow, []⟩)]) (n := 134) (k := 4) Tryz.func115 rfl rfl (by simp) rfl (fun t => ?_) rfl ?_
  · rcases t with _ | _ | _ | _ | t <;> simp [envOf, rvv, RT.vv, CT.vv, cvv, tabE_cons, tabE_nil, rcells, RT.cells]
  have w0 : IntKind.wrap .i64 ((L.length:Int) - 0) = (L.length : Int) := by rw [wrap_i64 (by omega) (by omega)]; omega
  have c0 : (L.length : Int) ≤ 12 := by omega
  refine vw_go rfl ?_; simp only [go_sem, setCells, setIn]
  refine vw_go rfl ?_; simp only [go_sem, setCells, setIn]
  refine vw_block ?_
  refine vw_loop_tab (α := Unit) (fun x => 0) (fun x => ⟨tabE [(0, .al 0 [] 0 1 0 L.length), (1, .c (.int .i64 0)), (2, .c (.int .i64 L.length)), (3, .c (.int .i64 lim))], tabS [(0, some ⟨false, 1, L.map sRow, []⟩)], 4⟩)
    (fun x => True) (x := ()) ?round trivial ?hn
  case hn =>
    refine norm_to [(0, 0)] rfl ?_ ?_ <;> simp only [go_sem]
  rintro ⟨⟩ -
  refine vw_block ?_
  refine vw_go rfl ?_; simp only [w0, go_sem, setCells, setIn]
  refine vw_seq ?_
  refine vw_go rfl ?_; simp only [c0, go_sem, setCells, setIn]
  refine vw_cond (t := true) rfl (fun _ => ?_) (fun h => nomatch h)
  refine vw_go rfl ?_; simp only [go_sem, setCells, setIn]
  refine ⟨_, _, call_bs [0, 0, 0] [.back, .ro, .ro] [(0, 0, ⟨false, 1, L.map sRow, []⟩)] [(sortL L).map sRow] (rest := [.c (.int .i64 0), .c (.int .i64 L.length)]) Tryz.func131 (runs_131 L hl hd) rfl rfl rfl rfl rfl rfl rfl rfl (by simp [VV.cells, ev, tabE_cons, sRow_r1, sRow_comp, sRow_clean]) (by simp [tabS_cons, sRow_r1, sRow_comp, sRow_clean]) (by simp) rfl rfl (by simp [rcells, RT.cells, sRow_r1, sRow_comp, sRow_clean]) rfl rfl (by simp [clean_map, sRow_r1, sRow_comp, sRow_clean]) rfl rfl, ?_⟩
  simp only [runH, runX, go_sem, setCells, setIn]
  refine vw_ret ?_
  repeat (first | refine r_then ?_ | refine r_block ?_)
  refine e_ret ?_
  exact (ret_b rfl rfl (by simp [RB]) rfl rfl ⟨⟨by simp, _, rfl, rfl, rfl, rfl⟩, trivial⟩)
theorem runs_100 (L : List ByteArray) (hl : L.length ≤ 12) (hd : L.Nodup) :
    Runs Tryz.prog 100 [.one (.v (.list true 1 (L.map sRow)))] [] [(0, ⟨false, 1, (sortL L).map sRow, []⟩)] := by
  refine runs_tabB (tab := [(0, .al 0 [] 0 1 0 L.length)]) (rts := [(0, some ⟨false, 1, L.map sRow, []⟩)]) (n := 11) (k := 1) Tryz.func100 rfl rfl (by simp) rfl (fun t => ?_) rfl ?_
  · rcases t with _ | t <;> simp [envOf, rvv, RT.vv, CT.vv, cvv, tabE_cons, tabE_nil, rcells, RT.cells]
  have w0 : IntKind.wrap .u64 (L.length:Int) = (L.length : Int) := by
    unfold IntKind.wrap
    simp only [IntKind.bits, IntKind.signed, Bool.false_and, Bool.false_eq_true, if_false]
    omega
  refine vw_go rfl ?_; simp only [go_sem, setCells, setIn]
  refine vw_last rfl ?_; simp only [w0, go_sem, setCells, setIn]
  refine ⟨_, _, call_rd [0] Tryz.func116 (runs_116 L.length (by omega)) rfl rfl rfl rfl rfl rfl rfl rfl rfl rfl rfl rfl rfl, ?_⟩
  simp only [runH, runX, go_sem, setCells, setIn]
  refine ⟨_, _, call_bs [0, 0, 0, 0] [.back, .ro, .ro, .ro] [(0, 0, ⟨false, 1, L.map sRow, []⟩)] [(sortL L).map sRow] (rest := [.c (.int .i64 0), .c (.int .i64 L.length), .c (.int .i64 (Lib.bitLen L.length))]) Tryz.func115 (runs_115 L hl hd (Lib.bitLen L.length)) rfl rfl rfl rfl rfl rfl rfl rfl (by simp [VV.cells, ev, tabE_cons, lit, sRow_r1, sRow_comp, sRow_clean]) (by simp [tabS_cons, lit, sRow_r1, sRow_comp, sRow_clean]) (by simp) rfl rfl (by simp [rcells, RT.cells, lit, sRow_r1, sRow_comp, sRow_clean]) rfl rfl (by simp [clean_map, lit, sRow_r1, sRow_comp, sRow_clean]) rfl rfl, ?_⟩
  simp only [runH, runX, go_sem, setCells, setIn]
  exact e_normal (ret_b rfl rfl (by simp [RB]) rfl rfl ⟨⟨by simp, _, rfl, rfl, rfl, rfl⟩, trivial⟩)
end Go.Proofs.YtoenfbbadfcfpaaGreatDoor
