/- Nodes: NodeText of both. -/
import Derived.Test.YtppbonbghmdhhaaGreatPFNode
namespace Go.Proofs.YtppbonbghmdhhaaGreat
open Go.VM Go
set_option maxRecDepth 100000
set_option linter.unusedSimpArgs false
set_option linter.unusedVariables false
attribute [local congr] vw_congr runV_congr runH_congr runW_congr runX_congr

def byA (l : List UInt8) : ByteArray := ⟨l.toArray⟩
theorem byA_app (l m : List UInt8) : byA (l ++ m) = byA l ++ byA m := by
  apply ByteArray.ext; simp [byA]
theorem byA_size (l : List UInt8) : (byA l).size = l.length := by simp [byA, ByteArray.size]
theorem byA_of (s : ByteArray) : byA s.data.toList = s := by simp [byA]
theorem bytesV_one (b : UInt8) : bytesV [[T.int .u8 (b.toNat : Int)]] = some ⟨#[b]⟩ := bytesV_map [b]
def kidB (y : Int) : UInt8 := UInt8.ofNat (48 + y.toNat)
def bodyTo (n : NodeV) : Nat → ByteArray
  | 0 => ⟨#[100]⟩
  | i + 1 => ((bodyTo n i ++ n.names.getD i ⟨#[]⟩) ++ ⟨#[61]⟩) ++ ⟨#[kidB (n.kids.getD i 0)]⟩
def nodeText (n : NodeV) : ByteArray := if nodeOk n = true then (if n.dir = true then bodyTo n n.names.length else ⟨#[102]⟩ ++ n.data) else ⟨#[]⟩
theorem nodeOk_dir {n : NodeV} (hd : n.dir = true) (h : nodeOk n = true) : n.names.length = n.kids.length ∧ n.data = ⟨#[]⟩ ∧ ∀ i, i < n.names.length → nodeAtOk n i = true := by
  unfold nodeOk at h
  rw [if_pos hd] at h
  simp only [Bool.and_eq_true, decide_eq_true_eq, List.all_eq_true] at h
  exact ⟨h.1, h.2.1, fun i hi => h.2.2 i (List.mem_range.2 hi)⟩
theorem nodeOk_file {n : NodeV} (hd : n.dir = false) (h : nodeOk n = true) : n.names.length = 0 ∧ n.kids.length = 0 ∧ n.data.size ≤ 60 := by
  unfold nodeOk at h
  rw [hd] at h
  simpa only [Bool.and_eq_true, decide_eq_true_eq, Bool.false_eq_true, if_false] using h
theorem nodeAt_out {n : NodeV} {i : Nat} (h : nodeAtOk n i = true) : (n.names.getD i ⟨#[]⟩).size ≤ 6 ∧ 1 ≤ (n.names.getD i ⟨#[]⟩).size ∧ 1 ≤ n.kids.getD i 0 ∧ n.kids.getD i 0 ≤ 11 := by
  unfold nodeAtOk at h
  generalize n.names.getD i ⟨#[]⟩ = u at h
  generalize n.kids.getD i 0 = y at h
  simp only [Bool.and_eq_true, nameOk, inB, decide_eq_true_eq] at h
  omega
theorem bodyTo_size {n : NodeV} (hA : ∀ i, i < n.names.length → nodeAtOk n i = true) : ∀ i, i ≤ n.names.length → (bodyTo n i).size ≤ 1 + 8 * i
  | 0, _ => Nat.le_refl _
  | i + 1, hi => by
    have := bodyTo_size hA i (by omega)
    have h1 := nodeAt_out (hA i (by omega))
    have h2 : (⟨#[61]⟩ : ByteArray).size = 1 := rfl
    have h3 : ∀ b, (⟨#[b]⟩ : ByteArray).size = 1 := fun _ => rfl
    simp only [bodyTo, ByteArray.size_append, h2, h3]; omega

theorem runs_192 (n : NodeV) (hs : n.small) (hs2 : n.names.length ≤ 2 ^ 20) (hs3 : n.data.size < 2 ^ 59) : Runs Tryz.prog 192 [.agg [.v (.bool n.dir), .v (.list false 1 (n.names.map sRow)), .v (.list false 1 (n.kids.map nRow)), .v (.str n.data)]] [.one (.v (.str (nodeText n)))] [] := by
  refine runs_tab (tab := [(0, .agg [.c (.bool n.dir), .c (.list false 1 (n.names.map sRow)), .c (.list false 1 (n.kids.map nRow)), .c (.str n.data)])]) (rts := []) (n := 40) (k := 4) Tryz.func192 rfl rfl (by simp) rfl (fun t => ?_) rfl ?_
  · rcases t with _ | t <;> rfl
  have rO := runs_228 n hs
  unfold nodeText
  (refine vw_go rfl ?_; simp only [go_sem, setCells, setIn])
  refine vw_seq ?_
  (refine vw_go rfl ?_; simp only [go_sem, setCells, setIn])
  (refine ⟨_, _, call_rx [0] Tryz.func228 (rO) rfl rfl rfl rfl rfl rfl rfl (by simp [lendAll, lendC, seek, fresh, nav, rcells, RT.cells, VV.cells, tabE_cons, tabS_cons, ev, take_map_len, sRow_r1, sRow_comp, sRow_clean, nRow_r1, nRow_comp, nRow_clean]) rfl (by simp [rcells, RT.cells, CT.clean, T.clean, sRow_r1, sRow_comp, sRow_clean, nRow_r1, nRow_comp, nRow_clean]) rfl rfl, ?_⟩)
  cases hok : nodeOk n
  · simp only [runH, runX, go_sem, setCells, setIn]
    (refine vw_cond (t := true) rfl (fun _ => ?_) (fun h => nomatch h))
    (refine vw_go rfl ?_; simp only [go_sem, setCells, setIn])
    exact vw_ret (r_then (e_ret (ret_of rfl rfl (by simp [RB]) rfl rfl)))
  simp only [runH, runX, go_sem, setCells, setIn]
  (refine vw_cond (t := false) rfl (fun h => nomatch h) (fun _ => ?_))
  refine vw_skip (n_then ?_)
  refine vw_seq ?_
  (refine vw_go rfl ?_; simp only [go_sem, setCells, setIn])
  rcases hd : n.dir with _ | _
  · have A0 : 1 + n.data.size < 2 ^ 60 := by omega
    (refine vw_cond (t := true) rfl (fun _ => ?_) (fun h => nomatch h))
    (refine vw_go rfl ?_; simp only [ByteArray.size_append, sz_lit, List.size_toArray, List.length_cons, List.length_nil, A0, go_sem, setCells, setIn])
    exact vw_ret (r_then (e_ret (ret_of rfl rfl (by simp [RB]) rfl rfl)))
  (refine vw_cond (t := false) rfl (fun h => nomatch h) (fun _ => ?_))
  refine vw_skip (n_then ?_)
  obtain ⟨hl, he, hA⟩ := nodeOk_dir hd hok
  (refine vw_go rfl ?_; simp only [go_sem, setCells, setIn])
  refine vw_seq ?_
  (refine vw_go rfl ?_; simp only [go_sem, setCells, setIn])
  refine vw_block ?_
  refine vw_loop_tab (α := Nat) (fun x => n.names.length - x) (fun x => ⟨tabE [(1, .ptr 4 [] 0 0 0), (3, .c (.str (bodyTo n x))), (4, .c (.int .i64 x))], tabS [(4, some ⟨true, 4, [[.bool n.dir, .list false 1 (n.names.map sRow), .list false 1 (n.kids.map nRow), .str n.data]], []⟩)], 5⟩)
    (fun x => x ≤ n.names.length) (x := 0) ?round ?h0 ?hn
  case h0 => exact Nat.zero_le _
  case hn =>
    (refine norm_to [(4, 4)] rfl ?_ ?_ <;> simp only [go_sem])
    · rfl
    · rw [hd]
  rintro i hi
  refine vw_seq ?_
  by_cases hc : (i : Int) < n.names.length
  case neg =>
    (refine vw_go rfl ?_; simp only [hc, go_sem, setCells, setIn])
    (refine vw_cond (t := false) rfl (fun h => nomatch h) (fun _ => ?_))
    refine vw_exit (x_then (x_then (x_block (n_then ?_))))
    obtain rfl : i = n.names.length := by omega
    (refine vw_go rfl ?_; simp only [go_sem, setCells, setIn])
    exact vw_ret (e_ret (ret_of rfl rfl (by simp [RB]) rfl rfl))
  (refine vw_go rfl ?_; simp only [hc, go_sem, setCells, setIn])
  (refine vw_cond (t := true) rfl (fun _ => ?_) (fun h => nomatch h))
  refine vw_skip (n_then ?_)
  rcases get_or n.names i with ⟨u, hu, hlt⟩ | ⟨_, hge⟩
  case inr => omega
  rcases get_or n.kids i with ⟨y, hy, hlt2⟩ | ⟨_, hge⟩
  case inr => omega
  have hz := bodyTo_size hA i (by omega)
  have hO := nodeAt_out (hA i hlt)
  have hB : bodyTo n (i + 1) = ((bodyTo n i ++ u) ++ ⟨#[61]⟩) ++ ⟨#[kidB y]⟩ := by rw [bodyTo, getD_of hu, getD_of hy]
  rw [getD_of hu, getD_of hy] at hO
  obtain ⟨m, rfl⟩ : ∃ m : Nat, y = m := ⟨y.toNat, by omega⟩
  have c1 : (0:Int) ≤ (i:Int) := by omega
  have c2 : (i:Int) < (n.kids.length : Int) := by omega
  have w3 : IntKind.wrap .i64 ((i:Int) + 1) = ((i + 1 : Nat) : Int) := by rw [wrap_i64 (by omega) (by omega)]; rfl
  have w4 : IntKind.wrap .i64 (48 + (m : Int)) = ((48 + m : Nat) : Int) := by rw [wrap_i64 (by omega) (by omega)]; omega
  have w5 : IntKind.wrap .u8 ((48 + m : Nat) : Int) = ((kidB (m : Int)).toNat : Int) := by rw [kidB, Int.toNat_natCast]; exact u8_wrap (by omega)
  have A1 : (bodyTo n i).size + u.size < 2 ^ 60 := by omega
  have A2 : (bodyTo n i).size + u.size + 1 < 2 ^ 60 := by omega
  have A3 : (bodyTo n i).size + u.size + 1 + 1 < 2 ^ 60 := by omega
  refine vw_seq ?_
  refine vw_block ?_
  (refine vw_draw_last mixed rfl rfl ?_; simp only [c1, c2, hc, Int.toNat_natCast, getD_map_of hu, getD_map_of hy, sRow, nRow, w4, w5, ByteArray.size_append, sz_lit, List.size_toArray, List.length_cons, List.length_nil, A1, A2, A3, range1, List.replicate_succ, List.replicate_zero, List.flatten_cons, List.flatten_nil, List.range_zero, gt_iff_lt, bytesV_one, go_sem, setCells, setIn])
  refine ⟨by unfold allOk; kernel_rfl, ?_⟩
  refine (n_block (n_then ?_))
  (refine vw_last rfl ?_; simp only [w3, go_sem, setCells, setIn])
  refine (n_then ?_)
  refine ⟨i + 1, by omega, by omega, ?_⟩
  rw [hB]
  (refine norm_to [(4, 4)] rfl ?_ ?_ <;> simp only [go_sem])
end Go.Proofs.YtppbonbghmdhhaaGreat
