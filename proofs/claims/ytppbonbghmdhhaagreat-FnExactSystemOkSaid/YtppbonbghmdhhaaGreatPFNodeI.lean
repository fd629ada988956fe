/- Nodes: NodeText of impl. -/
import Derived.Test.YtppbonbghmdhhaaGreatPFNodeT
namespace Go.Proofs.YtppbonbghmdhhaaGreat
open Go.VM Go
set_option maxRecDepth 100000
set_option linter.unusedSimpArgs false
set_option linter.unusedVariables false
attribute [local congr] vw_congr runV_congr runH_congr runW_congr runX_congr

theorem runs_168 (n : NodeV) (hs : n.small) (hs2 : n.names.length ≤ 2 ^ 20) (hs3 : n.data.size < 2 ^ 59) : Runs Tryz.prog 168 [.agg [.v (.bool n.dir), .v (.list false 1 (n.names.map sRow)), .v (.list false 1 (n.kids.map nRow)), .v (.str n.data)]] [.one (.v (.str (nodeText n)))] [] := by
  refine runs_tab (tab := [(0, .agg [.c (.bool n.dir), .c (.list false 1 (n.names.map sRow)), .c (.list false 1 (n.kids.map nRow)), .c (.str n.data)])]) (rts := []) (n := 40) (k := 4) Tryz.func168 rfl rfl (by simp) rfl (fun t => ?_) rfl ?_
  · rcases t with _ | t <;> rfl
  have rO := runs_203 n hs
  unfold nodeText
  (refine vw_go rfl ?_; simp only [go_sem, setCells, setIn])
  refine vw_seq ?_
  (refine vw_go rfl ?_; simp only [go_sem, setCells, setIn])
  (refine ⟨_, _, call_rx [0] Tryz.func203 (rO) rfl rfl rfl rfl rfl rfl rfl (by simp [lendAll, lendC, seek, fresh, nav, rcells, RT.cells, VV.cells, tabE_cons, tabS_cons, ev, take_map_len, sRow_r1, sRow_comp, sRow_clean, nRow_r1, nRow_comp, nRow_clean]) rfl (by simp [rcells, RT.cells, CT.clean, T.clean, sRow_r1, sRow_comp, sRow_clean, nRow_r1, nRow_comp, nRow_clean]) rfl rfl, ?_⟩)
  cases hok : nodeOk n
  · simp only [runH, runX, go_sem, setCells, setIn]
    (refine vw_cond (t := true) rfl (fun _ => ?_) (fun h => nomatch h))
    (refine vw_go rfl ?_; simp only [go_sem, setCells, setIn])
    exact vw_ret (r_then (e_ret (ret_of rfl rfl (by simp [RB]) rfl rfl)))
  simp only [runH, runX, go_sem, setCells, setIn]
  (refine vw_cond (t := false) rfl (fun h => nomatch h) (fun _ => ?_))
  refine vw_skip (n_then ?_)
  refine vw_seq ?_
  (refine vw_go rfl ?_; simp only [go_sem, setCells, setIn])
  rcases hd : n.dir with _ | _
  · have A0 : 1 + n.data.size < 2 ^ 60 := by omega
    (refine vw_cond (t := true) rfl (fun _ => ?_) (fun h => nomatch h))
    (refine vw_go rfl ?_; simp only [ByteArray.size_append, sz_lit, List.size_toArray, List.length_cons, List.length_nil, A0, go_sem, setCells, setIn])
    exact vw_ret (r_then (e_ret (ret_of rfl rfl (by simp [RB]) rfl rfl)))
  (refine vw_cond (t := false) rfl (fun h => nomatch h) (fun _ => ?_))
  refine vw_skip (n_then ?_)
  obtain ⟨hl, he, hA⟩ := nodeOk_dir hd hok
  (refine vw_go rfl ?_; simp only [range1, List.replicate_succ, List.replicate_zero, List.flatten_cons, List.flatten_nil, List.range_zero, gt_iff_lt, go_sem, setCells, setIn])
  refine vw_seq ?_
  (refine vw_go rfl ?_; simp only [go_sem, setCells, setIn])
  refine vw_block ?_
  refine vw_loop_tab (α := Nat × List UInt8) (fun x => n.names.length - x.1) (fun x => ⟨tabE [(1, .ptr 4 [] 0 0 0), (3, .al 5 [] 0 1 0 x.2.length), (18, .c (.list false 1 (n.names.map sRow))), (19, .c (.int .i64 n.names.length)), (20, .c (.int .i64 x.1))], tabS [(4, some ⟨true, 4, [[.bool n.dir, .list false 1 (n.names.map sRow), .list false 1 (n.kids.map nRow), .str n.data]], []⟩), (5, some ⟨false, 1, x.2.map bRow, []⟩)], 6⟩)
    (fun x => x.1 ≤ n.names.length ∧ byA x.2 = bodyTo n x.1) (x := (0, [100])) ?round ?h0 ?hn
  case h0 => exact ⟨Nat.zero_le _, rfl⟩
  case hn =>
    (refine norm_to [(4, 4), (196612, 5)] rfl ?_ ?_ <;> simp only [go_sem])
    · rw [hd]; exact ⟨rfl, rfl⟩
  rintro ⟨i, L⟩ ⟨hi, hL⟩
  simp only at hi hL
  have qL : ∀ L : List UInt8, (L.map bRow).take L.length = L.map bRow := fun L => by rw [List.take_of_length_le (by simp)]
  (refine vw_go rfl ?_; simp only [go_sem, setCells, setIn])
  refine vw_seq ?_
  by_cases hc : (i : Int) < n.names.length
  case neg =>
    refine vw_cond (t := false) (by simp [ev, tabE_cons, hc]) (fun h => nomatch h) (fun _ => ?_)
    refine vw_exit (x_then (x_then (x_block (n_then ?_))))
    obtain rfl : i = n.names.length := by omega
    have qb : (⟨L.toArray⟩ : ByteArray) = bodyTo n n.names.length := hL
    (refine vw_go rfl ?_; simp only [qL, bytesV_map, qb, go_sem, setCells, setIn])
    exact vw_ret (e_ret (ret_of rfl rfl (by simp [RB]) rfl rfl))
  refine vw_cond (t := true) (by simp [ev, tabE_cons, hc]) (fun _ => ?_) (fun h => nomatch h)
  refine vw_skip (n_then ?_)
  rcases get_or n.names i with ⟨u, hu, hlt⟩ | ⟨_, hge⟩
  case inr => omega
  rcases get_or n.kids i with ⟨y, hy, hlt2⟩ | ⟨_, hge⟩
  case inr => omega
  have hz := bodyTo_size hA i (by omega)
  have hO := nodeAt_out (hA i hlt)
  have hB : bodyTo n (i + 1) = ((bodyTo n i ++ u) ++ ⟨#[61]⟩) ++ ⟨#[kidB y]⟩ := by rw [bodyTo, getD_of hu, getD_of hy]
  rw [getD_of hu, getD_of hy] at hO
  rw [← hL, byA_size] at hz
  obtain ⟨m, rfl⟩ : ∃ m : Nat, y = m := ⟨y.toNat, by omega⟩
  have c1 : (0:Int) ≤ (i:Int) := by omega
  have c2 : (i:Int) < (n.kids.length : Int) := by omega
  have w3 : IntKind.wrap .i64 ((i:Int) + 1) = ((i + 1 : Nat) : Int) := by rw [wrap_i64 (by omega) (by omega)]; rfl
  have w4 : IntKind.wrap .i64 (48 + (m : Int)) = ((48 + m : Nat) : Int) := by rw [wrap_i64 (by omega) (by omega)]; omega
  have w5 : IntKind.wrap .u8 ((48 + m : Nat) : Int) = ((kidB (m : Int)).toNat : Int) := by rw [kidB, Int.toNat_natCast]; exact u8_wrap (by omega)
  have hD : u.data.toList.length = u.size := Array.length_toList
  have hB1 : ¬ (L.length + u.size + 1) * (1 + 1) > bigRow := by simp only [bigRow]; omega
  have hB2 : ¬ (L.length + u.size + 2 + 1) * (1 + 1) > bigRow := by simp only [bigRow]; omega
  have qd : (List.map (fun b : UInt8 => [T.int .u8 b.toNat]) u.data.toList).take u.size = u.data.toList.map bRow := by rw [List.take_of_length_le (by simp [hD])]
  have qt : (L.map bRow ++ List.map (fun b : UInt8 => [T.int .u8 b.toNat]) u.data.toList).take (L.length + u.size) = L.map bRow ++ u.data.toList.map bRow := List.take_of_length_le (by simp [hD])
  have hB3 : ¬ bigRow < (L.length + u.size + 2 + 1) * 2 := by simp only [bigRow]; omega
  refine vw_seq ?_
  refine vw_block ?_
  (refine vw_go rfl ?_; simp only [c1, hc, Int.toNat_natCast, getD_map_of hu, sRow, go_sem, setCells, setIn])
  (refine vw_draw_last mixed rfl rfl ?_; simp only [List.length_append, hB1, hB2, hB3, qt, hD, qL, qd, c1, c2, Int.toNat_natCast, getD_map_of hy, nRow, w4, w5, List.length_map, Nat.le_refl, bRow_noOwn, range1, List.replicate_succ, List.replicate_zero, List.flatten_cons, List.flatten_nil, List.range_zero, gt_iff_lt, go_sem, setCells, setIn])
  refine ⟨by unfold allOk; kernel_rfl, ?_⟩
  refine (n_block (n_then ?_))
  (refine vw_last rfl ?_; simp only [w3, go_sem, setCells, setIn])
  refine (n_then ?_)
  have e2 : byA (L ++ u.data.toList ++ [61, kidB m]) = bodyTo n (i + 1) := by
    rw [hB, ← hL, byA_app, byA_app, byA_of]
    apply ByteArray.ext; apply Array.ext'; simp [byA]
  refine ⟨(i + 1, L ++ u.data.toList ++ [61, kidB m]), by simp only; omega, ⟨by simp only; omega, e2⟩, ?_⟩
  have e3 : L.length + u.size + 2 = (L ++ u.data.toList ++ [61, kidB m]).length := by simp [hD]; omega
  have e4 : L.map bRow ++ u.data.toList.map bRow ++ [[.int .u8 61], [.int .u8 (kidB (m : Int)).toNat]] = (L ++ u.data.toList ++ [61, kidB m]).map bRow := by simp
  rw [e3, e4]
  generalize L ++ u.data.toList ++ [61, kidB m] = L'
  (refine norm_to [(4, 4), (142342, 5)] rfl ?_ ?_ <;> simp only [go_sem])
end Go.Proofs.YtppbonbghmdhhaaGreat
