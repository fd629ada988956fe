/- Nodes: NodeText of both. Nodes: NodeText of impl. Nodes: NodeRead of both, NodeAt of both. -/
import Derived.Test.YtoenfbbadfcfpaaGreatDoorPFNode
set_option linter.unusedSimpArgs false
set_option linter.unusedVariables false
namespace Go.Proofs.YtoenfbbadfcfpaaGreatDoor
open Go.VM Go
set_option maxRecDepth 100000
attribute [local congr] vw_congr runV_congr runH_congr runW_congr runX_congr stuckV_congr stuckX_congr
def byA (l : List UInt8) : ByteArray := ⟨l.toArray⟩
theorem byA_app (l m : List UInt8) : byA (l ++ m) = byA l ++ byA m := by
  apply ByteArray.ext; simp [byA]
theorem byA_size (l : List UInt8) : (byA l).size = l.length := by simp [byA, ByteArray.size]
theorem byA_of (s : ByteArray) : byA s.data.toList = s := by simp [byA]
theorem bytesV_one (b : UInt8) : bytesV [[T.int .u8 (b.toNat : Int)]] = some ⟨#[b]⟩ := bytesV_map [b]
def kidB (y : Int) : UInt8 := UInt8.ofNat (48 + y.toNat)
def bodyTo (n : NodeV) : Nat → ByteArray
  | 0 => ⟨#[100]⟩
  | i + 1 => ((bodyTo n i ++ n.names.getD i ⟨#[]⟩) ++ ⟨#[61]⟩) ++ ⟨#[kidB (n.kids.getD i 0)]⟩
def nodeText (n : NodeV) : ByteArray := if nodeOk n = true then (if n.dir = true then bodyTo n n.names.length else ⟨#[102]⟩ ++ n.data) else ⟨#[]⟩
theorem nodeOk_dir {n : NodeV} (hd : n.dir = true) (h : nodeOk n = true) : n.names.length = n.kids.length ∧ n.data = ⟨#[]⟩ ∧ ∀ i, i < n.names.length → nodeAtOk n i = true := by
  unfold nodeOk at h
  rw [if_pos hd] at h
  simp only [Bool.and_eq_true, decide_eq_true_eq, List.all_eq_true] at h
  exact ⟨h.1, h.2.1, fun i hi => h.2.2 i (List.mem_range.2 hi)⟩
theorem nodeOk_file {n : NodeV} (hd : n.dir = false) (h : nodeOk n = true) : n.names.length = 0 ∧ n.kids.length = 0 ∧ n.data.size ≤ 60 := by
  unfold nodeOk at h
  rw [hd] at h
  simpa only [Bool.and_eq_true, decide_eq_true_eq, Bool.false_eq_true, if_false] using h
theorem nodeAt_out {n : NodeV} {i : Nat} (h : nodeAtOk n i = true) : (n.names.getD i ⟨#[]⟩).size ≤ 6 ∧ 1 ≤ (n.names.getD i ⟨#[]⟩).size ∧ 1 ≤ n.kids.getD i 0 ∧ n.kids.getD i 0 ≤ 11 := by
  unfold nodeAtOk at h
  generalize n.names.getD i ⟨#[]⟩ = u at h
  generalize n.kids.getD i 0 = y at h
  simp only [Bool.and_eq_true, nameOk, inB, decide_eq_true_eq] at h
  omega
theorem bodyTo_size {n : NodeV} (hA : ∀ i, i < n.names.length → nodeAtOk n i = true) : ∀ i, i ≤ n.names.length → (bodyTo n i).size ≤ 1 + 8 * i
  | 0, _ => Nat.le_refl _
  | i + 1, hi => by
    have := bodyTo_size hA i (by omega)
    have h1 := nodeAt_out (hA i (by omega))
    have h2 : (⟨#[61]⟩ : ByteArray).size = 1 := rfl
    have h3 : ∀ b, (⟨#[b]⟩ : ByteArray).size = 1 := fun _ => rfl
    simp only [bodyTo, ByteArray.size_append, h2, h3]; omega
theorem runs_107 (n : NodeV) (hs : n.small) (hs2 : n.names.length ≤ 2 ^ 20) (hs3 : n.data.size < 2 ^ 59) : Runs Tryz.prog 107 [.agg [.v (.bool n.dir), .v (.list false 1 (n.names.map sRow)), .v (.list false 1 (n.kids.map nRow)), .v (.str n.data)]] [.one (.v (.str (nodeText n)))] [] := by
  refine runs_tab (tab := [(0, .agg [.c (.bool n.dir), .c (.list false 1 (n.names.map sRow)), .c (.list false 1 (n.kids.map nRow)), .c (.str n.data)])]) (rts := []) (n := 40) (k := 4) Tryz.func107 rfl rfl (by simp) rfl (fun t => ?_) rfl ?_
  · rcases t with _ | t <;> rfl
  have rO := runs_124 n hs
  unfold nodeText
  refine vw_go rfl ?_; simp only [go_sem, setCells, setIn]
  refine vw_seq ?_
  refine vw_go rfl ?_; simp only [go_sem, setCells, setIn]
  refine ⟨_, _, call_rx [0] Tryz.func124 (rO) rfl rfl rfl rfl rfl rfl rfl (by simp [lendAll, lendC, seek, fresh, nav, rcells, RT.cells, VV.cells, tabE_cons, tabS_cons, ev, take_map_len, sRow_r1, sRow_comp, sRow_clean, nRow_r1, nRow_comp, nRow_clean]) rfl (by simp [rcells, RT.cells, CT.clean, T.clean, sRow_r1, sRow_comp, sRow_clean, nRow_r1, nRow_comp, nRow_clean]) rfl rfl, ?_⟩
  cases hok : nodeOk n
  · simp only [runH, runX, go_sem, setCells, setIn]
    refine vw_cond (t := true) rfl (fun _ => ?_) (fun h => nomatch h)
    refine vw_go rfl ?_; simp only [go_sem, setCells, setIn]
    exact vw_ret (r_then (e_ret (ret_of rfl rfl (by simp [RB]) rfl rfl)))
  simp only [runH, runX, go_sem, setCells, setIn]
  refine vw_cond (t := false) rfl (fun h => nomatch h) (fun _ => ?_)
  refine vw_skip (n_then ?_)
  refine vw_seq ?_
  refine vw_go rfl ?_; simp only [go_sem, setCells, setIn]
  rcases hd : n.dir with _ | _
  · have A0 : 1 + n.data.size < 2 ^ 60 := by omega
    refine vw_cond (t := true) rfl (fun _ => ?_) (fun h => nomatch h)
    refine vw_go rfl ?_; simp only [ByteArray.size_append, sz_lit, List.size_toArray, List.length_cons, List.length_nil, A0, go_sem, setCells, setIn]
    exact vw_ret (r_then (e_ret (ret_of rfl rfl (by simp [RB]) rfl rfl)))
  refine vw_cond (t := false) rfl (fun h => nomatch h) (fun _ => ?_)
  refine vw_skip (n_then ?_)
  obtain ⟨hl, he, hA⟩ := nodeOk_dir hd hok
  refine vw_go rfl ?_; simp only [go_sem, setCells, setIn]
  refine vw_seq ?_
  refine vw_go rfl ?_; simp only [go_sem, setCells, setIn]
  refine vw_block ?_
  refine vw_loop_tab (α := Nat) (fun x => n.names.length - x) (fun x => ⟨tabE [(1, .ptr 4 [] 0 0 0), (3, .c (.str (bodyTo n x))), (4, .c (.int .i64 x))], tabS [(4, some ⟨true, 4, [[.bool n.dir, .list false 1 (n.names.map sRow), .list false 1 (n.kids.map nRow), .str n.data]], []⟩)], 5⟩)
    (fun x => x ≤ n.names.length) (x := 0) ?round ?h0 ?hn
  case h0 => exact Nat.zero_le _
  case hn =>
    refine norm_to [(4, 4)] rfl ?_ ?_ <;> simp only [go_sem]
    · rfl
    · rw [hd]
  rintro i hi
  refine vw_seq ?_
  by_cases hc : (i : Int) < n.names.length
  case neg =>
    refine vw_go rfl ?_; simp only [hc, go_sem, setCells, setIn]
    refine vw_cond (t := false) rfl (fun h => nomatch h) (fun _ => ?_)
    refine vw_exit (x_then (x_then (x_block (n_then ?_))))
    obtain rfl : i = n.names.length := by omega
    refine vw_go rfl ?_; simp only [go_sem, setCells, setIn]
    exact vw_ret (e_ret (ret_of rfl rfl (by simp [RB]) rfl rfl))
  refine vw_go rfl ?_; simp only [hc, go_sem, setCells, setIn]
  refine vw_cond (t := true) rfl (fun _ => ?_) (fun h => nomatch h)
  refine vw_skip (n_then ?_)
  rcases get_or n.names i with ⟨u, hu, hlt⟩ | ⟨_, hge⟩
  case inr => omega
  rcases get_or n.kids i with ⟨y, hy, hlt2⟩ | ⟨_, hge⟩
  case inr => omega
  have hz := bodyTo_size hA i (by omega)
  have hO := nodeAt_out (hA i hlt)
  have hB : bodyTo n (i + 1) = ((bodyTo n i ++ u) ++ ⟨#[61]⟩) ++ ⟨#[kidB y]⟩ := by rw [bodyTo, getD_of hu, getD_of hy]
  rw [getD_of hu, getD_of hy] at hO
  obtain ⟨m, rfl⟩ : ∃ m : Nat, y = m := ⟨y.toNat, by omega⟩
  have c1 : (0:Int) ≤ (i:Int) := by omega
  have c2 : (i:Int) < (n.kids.length : Int) := by omega
  have w3 : IntKind.wrap .i64 ((i:Int) + 1) = ((i + 1 : Nat) : Int) := by rw [wrap_i64 (by omega) (by omega)]; rfl
  have w4 : IntKind.wrap .i64 (48 + (m : Int)) = ((48 + m : Nat) : Int) := by rw [wrap_i64 (by omega) (by omega)]; omega
  have w5 : IntKind.wrap .u8 ((48 + m : Nat) : Int) = ((kidB (m : Int)).toNat : Int) := by rw [kidB, Int.toNat_natCast]; exact u8_wrap (by omega)
  have A1 : (bodyTo n i).size + u.size < 2 ^ 60 := by omega
  have A2 : (bodyTo n i).size + u.size + 1 < 2 ^ 60 := by omega
  have A3 : (bodyTo n i).size + u.size + 1 + 1 < 2 ^ 60 := by omega
  refine vw_seq ?_
  refine vw_block ?_
  refine vw_draw_last mixed rfl rfl ?_; simp only [c1, c2, hc, Int.toNat_natCast, getD_map_of hu, getD_map_of hy, sRow, nRow, w4, w5, ByteArray.size_append, sz_lit, List.size_toArray, List.length_cons, List.length_nil, A1, A2, A3, range1, List.replicate_succ, List.replicate_zero, List.flatten_cons, List.flatten_nil, List.range_zero, gt_iff_lt, bytesV_one, go_sem, setCells, setIn]
  refine ⟨by unfold allOk; kernel_rfl, ?_⟩
  refine (n_block (n_then ?_))
  refine vw_last rfl ?_; simp only [w3, go_sem, setCells, setIn]
  refine (n_then ?_)
  refine ⟨i + 1, by omega, by omega, ?_⟩
  rw [hB]
  refine norm_to [(4, 4)] rfl ?_ ?_ <;> simp only [go_sem]
end Go.Proofs.YtoenfbbadfcfpaaGreatDoor
namespace Go.Proofs.YtoenfbbadfcfpaaGreatDoor
open Go.VM Go
set_option maxRecDepth 100000
attribute [local congr] vw_congr runV_congr runH_congr runW_congr runX_congr stuckV_congr stuckX_congr
theorem runs_121 (n : NodeV) (hs : n.small) (hs2 : n.names.length ≤ 2 ^ 20) (hs3 : n.data.size < 2 ^ 59) : Runs Tryz.prog 121 [.agg [.v (.bool n.dir), .v (.list false 1 (n.names.map sRow)), .v (.list false 1 (n.kids.map nRow)), .v (.str n.data)]] [.one (.v (.str (nodeText n)))] [] := by
  refine runs_tab (tab := [(0, .agg [.c (.bool n.dir), .c (.list false 1 (n.names.map sRow)), .c (.list false 1 (n.kids.map nRow)), .c (.str n.data)])]) (rts := []) (n := 40) (k := 4) Tryz.func121 rfl rfl (by simp) rfl (fun t => ?_) rfl ?_
  · rcases t with _ | t <;> rfl
  have rO := runs_144 n hs
  unfold nodeText
  refine vw_go rfl ?_; simp only [go_sem, setCells, setIn]
  refine vw_seq ?_
  refine vw_go rfl ?_; simp only [go_sem, setCells, setIn]
  refine ⟨_, _, call_rx [0] Tryz.func144 (rO) rfl rfl rfl rfl rfl rfl rfl (by simp [lendAll, lendC, seek, fresh, nav, rcells, RT.cells, VV.cells, tabE_cons, tabS_cons, ev, take_map_len, sRow_r1, sRow_comp, sRow_clean, nRow_r1, nRow_comp, nRow_clean]) rfl (by simp [rcells, RT.cells, CT.clean, T.clean, sRow_r1, sRow_comp, sRow_clean, nRow_r1, nRow_comp, nRow_clean]) rfl rfl, ?_⟩
  cases hok : nodeOk n
  · simp only [runH, runX, go_sem, setCells, setIn]
    refine vw_cond (t := true) rfl (fun _ => ?_) (fun h => nomatch h)
    refine vw_go rfl ?_; simp only [go_sem, setCells, setIn]
    exact vw_ret (r_then (e_ret (ret_of rfl rfl (by simp [RB]) rfl rfl)))
  simp only [runH, runX, go_sem, setCells, setIn]
  refine vw_cond (t := false) rfl (fun h => nomatch h) (fun _ => ?_)
  refine vw_skip (n_then ?_)
  refine vw_seq ?_
  refine vw_go rfl ?_; simp only [go_sem, setCells, setIn]
  rcases hd : n.dir with _ | _
  · have A0 : 1 + n.data.size < 2 ^ 60 := by omega
    refine vw_cond (t := true) rfl (fun _ => ?_) (fun h => nomatch h)
    refine vw_go rfl ?_; simp only [ByteArray.size_append, sz_lit, List.size_toArray, List.length_cons, List.length_nil, A0, go_sem, setCells, setIn]
    exact vw_ret (r_then (e_ret (ret_of rfl rfl (by simp [RB]) rfl rfl)))
  refine vw_cond (t := false) rfl (fun h => nomatch h) (fun _ => ?_)
  refine vw_skip (n_then ?_)
  obtain ⟨hl, he, hA⟩ := nodeOk_dir hd hok
  refine vw_go rfl ?_; simp only [range1, List.replicate_succ, List.replicate_zero, List.flatten_cons, List.flatten_nil, List.range_zero, gt_iff_lt, go_sem, setCells, setIn]
  refine vw_seq ?_
  refine vw_go rfl ?_; simp only [go_sem, setCells, setIn]
  refine vw_block ?_
  refine vw_loop_tab (α := Nat × List UInt8) (fun x => n.names.length - x.1) (fun x => ⟨tabE [(1, .ptr 4 [] 0 0 0), (3, .al 5 [] 0 1 0 x.2.length), (18, .c (.list false 1 (n.names.map sRow))), (19, .c (.int .i64 n.names.length)), (20, .c (.int .i64 x.1))], tabS [(4, some ⟨true, 4, [[.bool n.dir, .list false 1 (n.names.map sRow), .list false 1 (n.kids.map nRow), .str n.data]], []⟩), (5, some ⟨false, 1, x.2.map bRow, []⟩)], 6⟩)
    (fun x => x.1 ≤ n.names.length ∧ byA x.2 = bodyTo n x.1) (x := (0, [100])) ?round ?h0 ?hn
  case h0 => exact ⟨Nat.zero_le _, rfl⟩
  case hn =>
    refine norm_to [(4, 4), (196612, 5)] rfl ?_ ?_ <;> simp only [go_sem]
    · rw [hd]; exact ⟨rfl, rfl⟩
  rintro ⟨i, L⟩ ⟨hi, hL⟩
  simp only at hi hL
  have qL : ∀ L : List UInt8, (L.map bRow).take L.length = L.map bRow := fun L => by rw [List.take_of_length_le (by simp)]
  refine vw_go rfl ?_; simp only [go_sem, setCells, setIn]
  refine vw_seq ?_
  by_cases hc : (i : Int) < n.names.length
  case neg =>
    refine vw_cond (t := false) (by simp [ev, tabE_cons, hc]) (fun h => nomatch h) (fun _ => ?_)
    refine vw_exit (x_then (x_then (x_block (n_then ?_))))
    obtain rfl : i = n.names.length := by omega
    have qb : (⟨L.toArray⟩ : ByteArray) = bodyTo n n.names.length := hL
    refine vw_go rfl ?_; simp only [qL, bytesV_map, qb, go_sem, setCells, setIn]
    exact vw_ret (e_ret (ret_of rfl rfl (by simp [RB]) rfl rfl))
  refine vw_cond (t := true) (by simp [ev, tabE_cons, hc]) (fun _ => ?_) (fun h => nomatch h)
  refine vw_skip (n_then ?_)
  rcases get_or n.names i with ⟨u, hu, hlt⟩ | ⟨_, hge⟩
  case inr => omega
  rcases get_or n.kids i with ⟨y, hy, hlt2⟩ | ⟨_, hge⟩
  case inr => omega
  have hz := bodyTo_size hA i (by omega)
  have hO := nodeAt_out (hA i hlt)
  have hB : bodyTo n (i + 1) = ((bodyTo n i ++ u) ++ ⟨#[61]⟩) ++ ⟨#[kidB y]⟩ := by rw [bodyTo, getD_of hu, getD_of hy]
  rw [getD_of hu, getD_of hy] at hO
  rw [← hL, byA_size] at hz
  obtain ⟨m, rfl⟩ : ∃ m : Nat, y = m := ⟨y.toNat, by omega⟩
  have c1 : (0:Int) ≤ (i:Int) := by omega
  have c2 : (i:Int) < (n.kids.length : Int) := by omega
  have w3 : IntKind.wrap .i64 ((i:Int) + 1) = ((i + 1 : Nat) : Int) := by rw [wrap_i64 (by omega) (by omega)]; rfl
  have w4 : IntKind.wrap .i64 (48 + (m : Int)) = ((48 + m : Nat) : Int) := by rw [wrap_i64 (by omega) (by omega)]; omega
  have w5 : IntKind.wrap .u8 ((48 + m : Nat) : Int) = ((kidB (m : Int)).toNat : Int) := by rw [kidB, Int.toNat_natCast]; exact u8_wrap (by omega)
  have hD : u.data.toList.length = u.size := Array.length_toList
  have hB1 : ¬ (L.length + u.size + 1) * (1 + 1) > bigRow := by simp only [bigRow]; omega
  have hB2 : ¬ (L.length + u.size + 2 + 1) * (1 + 1) > bigRow := by simp only [bigRow]; omega
  have qd : (List.map (fun b : UInt8 => [T.int .u8 b.toNat]) u.data.toList).take u.size = u.data.toList.map bRow := by rw [List.take_of_length_le (by simp [hD])]
  have qt : (L.map bRow ++ List.map (fun b : UInt8 => [T.int .u8 b.toNat]) u.data.toList).take (L.length + u.size) = L.map bRow ++ u.data.toList.map bRow := List.take_of_length_le (by simp [hD])
  have hB3 : ¬ bigRow < (L.length + u.size + 2 + 1) * 2 := by simp only [bigRow]; omega
  refine vw_seq ?_
  refine vw_block ?_
  refine vw_go rfl ?_; simp only [c1, hc, Int.toNat_natCast, getD_map_of hu, sRow, go_sem, setCells, setIn]
  refine vw_draw_last mixed rfl rfl ?_; simp only [List.length_append, hB1, hB2, hB3, qt, hD, qL, qd, c1, c2, Int.toNat_natCast, getD_map_of hy, nRow, w4, w5, List.length_map, Nat.le_refl, bRow_noOwn, range1, List.replicate_succ, List.replicate_zero, List.flatten_cons, List.flatten_nil, List.range_zero, gt_iff_lt, go_sem, setCells, setIn]
  refine ⟨by unfold allOk; kernel_rfl, ?_⟩
  refine (n_block (n_then ?_))
  refine vw_last rfl ?_; simp only [w3, go_sem, setCells, setIn]
  refine (n_then ?_)
  have e2 : byA (L ++ u.data.toList ++ [61, kidB m]) = bodyTo n (i + 1) := by
    rw [hB, ← hL, byA_app, byA_app, byA_of]
    apply ByteArray.ext; apply Array.ext'; simp [byA]
  refine ⟨(i + 1, L ++ u.data.toList ++ [61, kidB m]), by simp only; omega, ⟨by simp only; omega, e2⟩, ?_⟩
  have e3 : L.length + u.size + 2 = (L ++ u.data.toList ++ [61, kidB m]).length := by simp [hD]; omega
  have e4 : L.map bRow ++ u.data.toList.map bRow ++ [[.int .u8 61], [.int .u8 (kidB (m : Int)).toNat]] = (L ++ u.data.toList ++ [61, kidB m]).map bRow := by simp
  rw [e3, e4]
  generalize L ++ u.data.toList ++ [61, kidB m] = L'
  refine norm_to [(4, 4), (142342, 5)] rfl ?_ ?_ <;> simp only [go_sem]
end Go.Proofs.YtoenfbbadfcfpaaGreatDoor
namespace Go.Proofs.YtoenfbbadfcfpaaGreatDoor
open Go.VM Go
set_option maxRecDepth 100000
attribute [local congr] vw_congr runV_congr runH_congr runW_congr runX_congr stuckV_congr stuckX_congr
theorem take_snocR {α β : Type} (f : α → β) (l : List α) (x : β) : List.take (l.length + 1) (l.map f ++ [x]) = l.map f ++ [x] := List.take_of_length_le (by simp)
theorem drop_snocR {α : Type} (l : List α) (x : α) : List.drop (l.length + 1) (l ++ [x]) = [] := List.drop_eq_nil_of_le (by simp)
def chr (s : ByteArray) (i : Nat) : UInt8 := s.data.toList.getD i 0
def nrGo (s : ByteArray) : Nat → Nat → Nat → List ByteArray → List Int → List ByteArray × List Int
  | 0, _, _, a, b => (a, b)
  | n + 1, i, fr, a, b => if i + 1 < s.size then (if chr s i = 61 then nrGo s n (i + 2) (i + 2) (a ++ [s.extract fr i]) (b ++ [((chr s (i + 1)).toNat : Int) - 48]) else nrGo s n (i + 1) fr a b) else (a, b)
theorem nrGo_end {s : ByteArray} {n i fr : Nat} {a : List ByteArray} {b : List Int} (h : ¬ i + 1 < s.size) : nrGo s n i fr a b = (a, b) := by
  cases n with
  | zero => rfl
  | succ n => rw [nrGo, if_neg h]
def nodeZ : NodeV := ⟨false, [], [], ⟨#[]⟩⟩
def nodeRaw (s : ByteArray) : NodeV := if chr s 0 = 102 then ⟨false, [], [], s.extract 1 s.size⟩ else ⟨true, (nrGo s s.size 1 1 [] []).1, (nrGo s s.size 1 1 [] []).2, ⟨#[]⟩⟩
def nodeRead (s : ByteArray) : NodeV × Bool := if s.size = 0 then (nodeZ, false) else if nodeText (nodeRaw s) = s then (nodeRaw s, true) else (nodeZ, false)
theorem bodyTo_head (n : NodeV) : ∀ i, chr (bodyTo n i) 0 = 100
  | 0 => rfl
  | i + 1 => by
    have ih := bodyTo_head n i
    have hz : 0 < (bodyTo n i).data.toList.length := by
      cases h : (bodyTo n i).data.toList with
      | nil => rw [chr, h] at ih; exact absurd ih (by decide)
      | cons x l => simp
    unfold chr at ih ⊢
    rw [bodyTo]
    simp only [ByteArray.data_append, Array.toList_append, List.append_assoc, List.getD_eq_getElem?_getD]
    rw [List.getElem?_append_left hz, ← List.getD_eq_getElem?_getD, ih]
theorem nodeText_dir {n : NodeV} (hd : n.dir = true) {s : ByteArray} (h0 : s.size ≠ 0) (h : chr s 0 ≠ 100) : nodeText n ≠ s := by
  intro e
  unfold nodeText at e
  split at e
  · (try rw [if_pos hd] at e)
    rw [← e, bodyTo_head] at h
    exact h rfl
  · exact h0 (by rw [← e]; rfl)
theorem nodeText_z {s : ByteArray} (h : chr s 0 ≠ 102) : nodeText nodeZ ≠ s := by
  intro e
  rw [← e] at h
  exact h (by decide)
theorem nodeRead_not {s : ByteArray} (h0 : s.size ≠ 0) (h1 : chr s 0 ≠ 102) (h2 : chr s 0 ≠ 100) : nodeRead s = (nodeZ, false) := by
  unfold nodeRead
  rw [if_neg h0, if_neg (nodeText_dir (by unfold nodeRaw; rw [if_neg h1]) h0 h2)]
/-- What stands in the node before its text is compared. -/
structure RawFit (s : ByteArray) (z : NodeV) : Prop where
  names : z.names.length ≤ 2 ^ 20
  kids : z.kids.length ≤ 2 ^ 20
  text : ∀ x ∈ z.names, x.size ≤ 2 ^ 20
  data : z.data.size ≤ 2 ^ 20
  yes : nodeText z = s → nodeRead s = (z, true)
  no : nodeText z ≠ s → nodeRead s = (nodeZ, false)
theorem RawFit.small {s : ByteArray} {z : NodeV} (h : RawFit s z) : z.small :=
  ⟨Nat.lt_of_le_of_lt h.names (by decide), Nat.lt_of_le_of_lt h.kids (by decide), fun x hx => Nat.lt_of_le_of_lt (h.text x hx) (by decide)⟩
theorem fit_raw {s : ByteArray} (h0 : s.size ≠ 0) {z : NodeV} (hz : z = nodeRaw s) (h1 : z.names.length ≤ 2 ^ 20) (h2 : z.kids.length ≤ 2 ^ 20) (h3 : ∀ x ∈ z.names, x.size ≤ 2 ^ 20) (h4 : z.data.size ≤ 2 ^ 20) : RawFit s z :=
  ⟨h1, h2, h3, h4, fun h => by subst hz; unfold nodeRead; rw [if_neg h0, if_pos h], fun h => by subst hz; unfold nodeRead; rw [if_neg h0, if_neg h]⟩
theorem fit_z {s : ByteArray} (h0 : s.size ≠ 0) (h1 : chr s 0 ≠ 102) (h2 : chr s 0 ≠ 100) : RawFit s nodeZ :=
  ⟨Nat.zero_le _, Nat.zero_le _, (fun x hx => nomatch hx), Nat.zero_le _, fun h => absurd h (nodeText_z h1), fun _ => nodeRead_not h0 h1 h2⟩
theorem size0 {s : ByteArray} : s = ⟨#[]⟩ ↔ s.size = 0 := by
  constructor
  · intro h; rw [h]; rfl
  · intro h; apply ByteArray.ext; exact Array.eq_empty_of_size_eq_zero h
set_option maxHeartbeats 1000000 in
theorem runs_81 (s : ByteArray) (hs : s.size ≤ 2 ^ 20) (R : NodeV × Bool) (hR : R = nodeRead s) : Runs Tryz.prog 81 [.one (.v (.str s))] [.agg [.v (.bool R.1.dir), .v (.list true 1 (R.1.names.map sRow)), .v (.list true 1 (R.1.kids.map nRow)), .v (.str R.1.data)], .one (.v (.bool R.2))] [] := by
  refine runs_tab (tab := [(0, .c (.str s))]) (rts := []) (n := 59) (k := 1) Tryz.func81 rfl rfl (by simp) rfl (fun t => ?_) rfl ?_
  · rcases t with _ | t <;> rfl
  refine vw_go rfl ?_; simp only [go_sem, setCells, setIn]
  refine vw_go rfl ?_; simp only [go_sem, setCells, setIn]
  refine vw_seq ?_
  by_cases h0 : s = ⟨#[]⟩
  · have e : nodeRead s = (nodeZ, false) := by unfold nodeRead; rw [if_pos (size0.1 h0)]
    rw [e] at hR
    subst hR
    refine vw_go rfl ?_; simp only [h0, go_sem, setCells, setIn]
    refine vw_cond (t := true) rfl (fun _ => ?_) (fun h => nomatch h)
    refine vw_go rfl ?_; simp only [List.drop_length, go_sem, setCells, setIn]
    exact vw_ret (r_then (e_ret (ret_by rfl rfl (by simp [RB]) rfl (by simp only [takeCs, takeC, go_sem, setCells, setIn]; rfl))))
  refine vw_go rfl ?_; simp only [h0, go_sem, setCells, setIn]
  refine vw_cond (t := false) rfl (fun h => nomatch h) (fun _ => ?_)
  refine vw_skip (n_then ?_)
  have hz : s.size ≠ 0 := fun e => h0 (size0.2 e)
  have hz1 : (0:Int) < (s.size : Int) := by omega
  refine vw_join (α := NodeV × List Path) (fun z => ⟨tabE [(0, .c (.str s)), (2, .ptr 1 [] 0 0 0), (4, .ptr 2 [] 0 0 0)], tabS [(1, some ⟨true, 4, [[.bool false, .list true 1 [], .list true 1 [], .str ⟨#[]⟩]], []⟩), (2, some ⟨true, 4, [[.bool z.1.dir, .list true 1 (z.1.names.map sRow), .list true 1 (z.1.kids.map nRow), .str z.1.data]], z.2⟩)], 3⟩)
    (fun z => RawFit s z.1) ?_ ?_
  · (refine vw_go rfl ?_; simp only [hz1, Int.reduceToNat, go_sem, setCells, setIn])
    have hch : s.data.toList.getD 0 0 = chr s 0 := rfl
    rw [hch]
    by_cases h1 : chr s 0 = 102
    · rw [h1]
      refine vw_cond (t := true) rfl (fun _ => ?_) (fun h => nomatch h)
      have hz2 : 1 ≤ s.size := by omega
      refine vw_last rfl ?_; simp only [hz2, Int.reduceToNat, go_sem, setCells, setIn]
      refine (n_then ⟨(⟨false, [], [], s.extract 1 s.size⟩, [[(0, 1)], [(0, 2)]]), ?_, ?_⟩)
      · exact fit_raw hz (by unfold nodeRaw; rw [if_pos h1]) (Nat.zero_le _) (Nat.zero_le _) (fun x hx => nomatch hx) (by simp only [ByteArray.size_extract]; omega)
      refine norm_to [(1, 1), (66561, 2)] rfl ?_ ?_ <;> simp only [go_sem]
    have h1n : ¬ ((chr s 0).toNat : Int) = 102 := by
      intro e
      refine h1 (UInt8.toNat_inj.1 ?_)
      show (chr s 0).toNat = 102
      omega
    refine vw_cond (t := false) (by simp only [ev, tabE_cons, decide_eq_false h1n]; rfl) (fun h => nomatch h) (fun _ => ?_)
    refine vw_go rfl ?_; simp only [go_sem, setCells, setIn]
    refine vw_go rfl ?_; simp only [go_sem, setCells, setIn]
    refine vw_go rfl ?_; simp only [go_sem, setCells, setIn]
    refine vw_block ?_
    refine vw_loop_tab (α := Nat × Nat × Nat × List ByteArray × List Int × List Path) (fun x => s.size - x.1) (fun x => ⟨tabE [(0, .c (.str s)), (2, .ptr 1 [] 0 0 0), (4, .ptr 2 [] 0 0 0), (5, .c (.int .i64 x.2.1)), (6, .c (.int .i64 x.1))],
        tabS [(1, some ⟨true, 4, [[.bool false, .list true 1 [], .list true 1 [], .str ⟨#[]⟩]], []⟩), (2, some ⟨true, 4, [[.bool true, .list true 1 (x.2.2.2.1.map sRow), .list true 1 (x.2.2.2.2.1.map nRow), .str ⟨#[]⟩]], x.2.2.2.2.2⟩)], 3⟩)
      (fun x => nrGo s x.2.2.1 x.1 x.2.1 x.2.2.2.1 x.2.2.2.2.1 = nrGo s s.size 1 1 [] [] ∧ s.size ≤ x.2.2.1 + x.1 ∧ x.2.1 ≤ x.1 ∧ x.1 ≤ s.size ∧ x.2.2.2.1.length ≤ x.1 ∧ x.2.2.2.2.1.length ≤ x.1 ∧ (∀ y ∈ x.2.2.2.1, y.size ≤ 2 ^ 20)) (x := (1, 1, s.size, [], [], [[(0, 1)], [(0, 2)]])) ?round ?h0 ?hn
    case h0 => exact ⟨rfl, by simp only; omega, Nat.le_refl _, by simp only; omega, Nat.zero_le _, Nat.zero_le _, fun x hx => nomatch hx⟩
    case hn =>
      refine norm_to [(1, 1), (66561, 2)] rfl ?_ ?_ <;> simp only [go_sem]
      · rfl
    rintro ⟨i, fr, n, a, b, lg⟩ ⟨hg, hn, hfr, hi1, hla, hlb, hta⟩
    simp only at hg hn hfr hi1 hla hlb hta
    have w3 : IntKind.wrap .i64 ((i:Int) + 1) = ((i + 1 : Nat) : Int) := by rw [wrap_i64 (by omega) (by omega)]; rfl
    refine vw_seq ?_
    by_cases hc : ((i + 1 : Nat) : Int) < s.size
    case neg =>
      refine vw_go rfl ?_; simp only [w3, hc, go_sem, setCells, setIn]
      refine vw_cond (t := false) rfl (fun h => nomatch h) (fun _ => ?_)
      refine vw_exit (x_then (x_then (x_block (n_then ⟨(⟨true, a, b, ⟨#[]⟩⟩, lg), ?_, ?_⟩))))
      · rw [nrGo_end (by omega)] at hg
        refine fit_raw hz (by unfold nodeRaw; rw [if_neg h1, ← hg]) (by simp only; omega) (by simp only; omega) hta (Nat.zero_le _)
      refine norm_to [(1, 1), (2, 2)] rfl ?_ ?_ <;> simp only [go_sem]
    have c0 : (0:Int) ≤ (i : Int) := by omega
    have c1 : (i : Int) < s.size := by omega
    have c2 : (0:Int) ≤ ((i + 1 : Nat) : Int) := by omega
    have c3 : fr ≤ i := hfr
    have c4 : i ≤ s.size := by omega
    obtain ⟨m, rfl⟩ : ∃ m, n = m + 1 := ⟨n - 1, by omega⟩
    rw [nrGo, if_pos (by omega)] at hg
    have ht0 : s.data.toList.getD i 0 = chr s i := rfl
    have ht1 : s.data.toList.getD (i + 1) 0 = chr s (i + 1) := rfl
    refine vw_go rfl ?_; simp only [w3, hc, go_sem, setCells, setIn]
    refine vw_cond (t := true) rfl (fun _ => ?_) (fun h => nomatch h)
    refine vw_skip (n_then ?_)
    refine vw_seq ?_
    refine vw_block ?_
    refine vw_go rfl ?_; simp only [c0, c1, Int.toNat_natCast, ht0, go_sem, setCells, setIn]
    by_cases he : chr s i = 61
    · rw [if_pos he] at hg
      have hen : ((chr s i).toNat : Int) = 61 := by rw [he]; rfl
      have B1 : ¬ (a.length + 1 + 1) * (16 + 1) > bigRow := by simp only [bigRow]; omega
      have B2 : ¬ (b.length + 1 + 1) * (8 + 1) > bigRow := by simp only [bigRow]; omega
      have bt : List.take a.length (a.map sRow) = a.map sRow := List.take_of_length_le (by simp)
      have bt2 : List.take b.length (b.map nRow) = b.map nRow := List.take_of_length_le (by simp)
      have w4 : IntKind.wrap .i64 (((chr s (i + 1)).toNat : Int)) = ((chr s (i + 1)).toNat : Int) := by have := (chr s (i + 1)).toNat_lt; exact wrap_i64 (by omega) (by omega)
      have w5 : IntKind.wrap .i64 (((chr s (i + 1)).toNat : Int) - 48) = ((chr s (i + 1)).toNat : Int) - 48 := by have := (chr s (i + 1)).toNat_lt; exact wrap_i64 (by omega) (by omega)
      have w6 : IntKind.wrap .i64 ((i:Int) + 2) = ((i + 2 : Nat) : Int) := by rw [wrap_i64 (by omega) (by omega)]; rfl
      have w7 : IntKind.wrap .i64 (((i + 1 : Nat):Int) + 1) = ((i + 2 : Nat) : Int) := by rw [wrap_i64 (by omega) (by omega)]; rfl
      have c5 : (0:Int) ≤ (fr : Int) := by omega
      refine vw_cond (t := true) (by simp only [ev, tabE_cons, hen]; rfl) (fun _ => ?_) (fun h => nomatch h)
      refine vw_draw mixed rfl rfl ?_; simp only [B1, c0, c1, c3, c4, c5, Int.toNat_natCast, bt, List.drop_length, List.length_append, range1, List.replicate_succ, List.replicate_zero, List.flatten_cons, List.flatten_nil, List.range_zero, gt_iff_lt, take_snocR, go_sem, setCells, setIn]
      refine ⟨by unfold allOk; kernel_rfl, ?_⟩
      refine vw_draw mixed rfl rfl ?_; simp only [B2, w3, w4, w5, c2, hc, Int.toNat_natCast, ht1, bt2, List.drop_length, drop_snocR, List.length_append, range1, List.replicate_succ, List.replicate_zero, List.flatten_cons, List.flatten_nil, List.range_zero, gt_iff_lt, take_snocR, go_sem, setCells, setIn]
      refine ⟨by unfold allOk; kernel_rfl, ?_⟩
      refine vw_go rfl ?_; simp only [w6, go_sem, setCells, setIn]
      refine vw_last rfl ?_; simp only [w3, go_sem, setCells, setIn]
      refine (n_block (n_then ?_))
      refine vw_last rfl ?_; simp only [w7, go_sem, setCells, setIn]
      refine (n_then ?_)
      have e4 : a.map sRow ++ [[.str (s.extract fr i)]] = (a ++ [s.extract fr i]).map sRow := by simp [sRow]
      have e5 : b.map nRow ++ [[.int .i64 (((chr s (i + 1)).toNat : Int) - 48)]] = (b ++ [((chr s (i + 1)).toNat : Int) - 48]).map nRow := by simp
      have hla' : (a ++ [s.extract fr i]).length ≤ i + 2 := by simp only [List.length_append, List.length_cons, List.length_nil]; omega
      have hlb' : (b ++ [((chr s (i + 1)).toNat : Int) - 48]).length ≤ i + 2 := by simp only [List.length_append, List.length_cons, List.length_nil]; omega
      have hta' : ∀ y ∈ a ++ [s.extract fr i], y.size ≤ 2 ^ 20 := by
        intro y hy
        rcases List.mem_append.1 hy with h | h
        · exact hta y h
        · rw [List.mem_singleton] at h
          rw [h, ByteArray.size_extract]; omega
      rw [e4, e5]
      generalize a ++ [s.extract fr i] = a' at hg hla' hta'
      generalize b ++ [((chr s (i + 1)).toNat : Int) - 48] = b' at hg hlb'
      refine ⟨(i + 2, i + 2, m, a', b', lg ++ [[(0, 1)]] ++ [[(0, 2)]]), by simp only; omega, ⟨hg, by simp only; omega, Nat.le_refl _, by simp only; omega, hla', hlb', hta'⟩, ?_⟩
      refine norm_to [(1, 1), (2, 2)] rfl ?_ ?_ <;> simp only [go_sem]
    rw [if_neg he] at hg
    have hen : ¬ ((chr s i).toNat : Int) = 61 := by
      intro e
      refine he (UInt8.toNat_inj.1 ?_)
      show (chr s i).toNat = 61
      omega
    refine vw_cond (t := false) (by simp only [ev, tabE_cons, decide_eq_false hen]; rfl) (fun h => nomatch h) (fun _ => ?_)
    refine vw_skip (n_block (n_then ?_))
    refine vw_last rfl ?_; simp only [w3, go_sem, setCells, setIn]
    refine (n_then ?_)
    refine ⟨(i + 1, fr, m, a, b, lg), by simp only; omega, ⟨hg, by simp only; omega, by simp only; omega, by simp only; omega, by simp only; omega, by simp only; omega, hta⟩, ?_⟩
    refine norm_to [(1, 1), (2, 2)] rfl ?_ ?_ <;> simp only [go_sem]
  rintro ⟨z, lg⟩ hf
  simp only at hf
  have bt : List.take z.names.length (z.names.map sRow) = z.names.map sRow := List.take_of_length_le (by simp)
  have bt2 : List.take z.kids.length (z.kids.map nRow) = z.kids.map nRow := List.take_of_length_le (by simp)
  have rT := runs_107 z hf.small hf.names (Nat.lt_of_le_of_lt hf.data (by decide))
  refine vw_seq ?_
  refine vw_go rfl ?_; simp only [List.drop_length, bt, bt2, go_sem, setCells, setIn]
  refine ⟨_, _, call_rx [0] Tryz.func107 (rT) rfl rfl rfl rfl rfl rfl rfl (by simp [lendAll, lendC, seek, fresh, nav, rcells, RT.cells, VV.cells, tabE_cons, tabS_cons, ev, take_map_len, sRow_r1, sRow_comp, sRow_clean, nRow_r1, nRow_comp, nRow_clean, bt, bt2, List.drop_length]) rfl (by simp [rcells, RT.cells, CT.clean, T.clean, sRow_r1, sRow_comp, sRow_clean, nRow_r1, nRow_comp, nRow_clean, bt, bt2, List.drop_length]) rfl rfl, ?_⟩
  simp only [runH, runX, go_sem, setCells, setIn]
  by_cases ht : nodeText z = s
  · rw [hf.yes ht] at hR
    subst hR
    refine vw_cond (t := false) (by simp [ev, tabE_cons, ht]) (fun h => nomatch h) (fun _ => ?_)
    refine vw_skip (n_then ?_)
    refine vw_go rfl ?_; simp only [List.drop_length, bt, bt2, go_sem, setCells, setIn]
    exact vw_ret (e_ret (ret_by rfl rfl (by simp [RB]) rfl (by simp only [takeCs, takeC, go_sem, setCells, setIn])))
  rw [hf.no ht] at hR
  subst hR
  refine vw_cond (t := true) (by simp [ev, tabE_cons, ht]) (fun _ => ?_) (fun h => nomatch h)
  refine vw_go rfl ?_; simp only [List.drop_length, go_sem, setCells, setIn]
  exact vw_ret (r_then (e_ret (ret_by rfl rfl (by simp [RB]) rfl (by simp only [takeCs, takeC, go_sem, setCells, setIn]; rfl))))
end Go.Proofs.YtoenfbbadfcfpaaGreatDoor
