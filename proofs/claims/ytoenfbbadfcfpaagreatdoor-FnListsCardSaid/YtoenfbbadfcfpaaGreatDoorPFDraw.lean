/- Draws of paths, texts and ops. Names: NameOk of both. Regions of open order with many operations: what is ahead of each given as a list, and checked. -/
import Derived.Test.YtoenfbbadfcfpaaGreatDoorPFTell
import Derived.Test.YtoenfbbadfcfpaaGreatDoorPFIn
set_option linter.unusedSimpArgs false
set_option linter.unusedVariables false
namespace Go.Proofs.YtoenfbbadfcfpaaGreatDoor
open Go.VM Go
set_option maxRecDepth 100000
attribute [local congr] vw_congr runV_congr runH_congr runW_congr runX_congr stuckV_congr stuckX_congr
def pathL : List ByteArray := [⟨#[]⟩, ⟨#[97]⟩, ⟨#[98]⟩, ⟨#[97, 47, 98]⟩, ⟨#[97, 47, 99, 100]⟩, ⟨#[98, 47, 97]⟩, ⟨#[97, 47, 98, 47, 97]⟩, ⟨#[99, 100]⟩, ⟨#[108, 111, 103]⟩, ⟨#[97, 47, 98, 47, 97, 47, 98]⟩, ⟨#[122, 122]⟩]
def badL : List ByteArray := [⟨#[47]⟩, ⟨#[97, 47]⟩, ⟨#[47, 97]⟩, ⟨#[97, 47, 47, 98]⟩, ⟨#[65]⟩, ⟨#[97, 47, 98, 47, 97, 47, 98, 47, 97]⟩, ⟨#[97, 98, 99, 100, 101, 102, 103]⟩, ⟨#[97, 32, 98]⟩]
def dataL : List ByteArray := [⟨#[]⟩, ⟨#[120]⟩, ⟨#[104, 101, 108, 108, 111]⟩, ⟨#[100]⟩]
def kindL : List Int := [1, 1, 2, 2, 3, 3, 4, 5, 6, 7]
def drawPath (L : List UInt8) (c : Cur) : ByteArray := pickV L c pathL ⟨#[]⟩
def drawBad (L : List UInt8) (c : Cur) : ByteArray := if belV L c 5 = 0 then pickV L (byteC L c) badL ⟨#[]⟩ else drawPath L (byteC L c)
theorem runs_85 (v : Value) (L : List UInt8) (hL : L.length < 2 ^ 60) (c : Cur) :
    Runs Tryz.prog 85 [.one (.box [.held v 1 (L.map bRow), .int .i64 c.i, .int .i64 c.h])] [.one (.v (.str (drawPath L c)))] [(0, ⟨true, 3, [[.held v 1 (L.map bRow), .int .i64 (byteC L c).i, .int .i64 (byteC L c).h]], []⟩)] := by
  refine runs_tabB (tab := [(0, .ptr 0 [] 0 0 0)]) (rts := [(0, some ⟨true, 3, [[.held v 1 (L.map bRow), .int .i64 c.i, .int .i64 c.h]], []⟩)]) (n := 6) (k := 1) Tryz.func85 rfl rfl (by simp) rfl (fun t => ?_) rfl ?_
  · rcases t with _ | t <;> rfl
  have rP := runs_80 v L hL c pathL (by decide) (by decide)
  refine vw_go rfl ?_; simp only [go_sem, setCells, setIn]
  refine vw_go rfl ?_; simp only [range1, List.replicate_succ, List.replicate_zero, List.flatten_cons, List.flatten_nil, List.range_zero, gt_iff_lt, go_sem, setCells, setIn]
  refine ⟨_, _, call_pt [0, 0] 0 Tryz.func80 (rP) rfl rfl rfl rfl rfl rfl rfl rfl (by simp [lendAll, lendC, seek, fresh, nav, rcells, RT.cells, VV.cells, tabE_cons, tabS_cons, St.put, ev, lit, take_map_len, sRow, pathL]) rfl rfl (by simp [rcells, RT.cells, CT.fine, T.fine, sRow, pathL]) (by exact ⟨.inr ⟨0, _, _, rfl, .head _, .head _⟩, trivial, trivial, trivial⟩) rfl rfl, ?_⟩
  simp only [runH, runX, go_sem, setCells, setIn]
  exact vw_ret (e_ret (ret_b rfl rfl (by simp [RB]) rfl rfl ⟨⟨by simp, _, rfl, rfl, rfl, rfl⟩, trivial⟩))
theorem runs_54 (v : Value) (L : List UInt8) (hL : L.length < 2 ^ 60) (c : Cur) :
    Runs Tryz.prog 54 [.one (.box [.held v 1 (L.map bRow), .int .i64 c.i, .int .i64 c.h])] [.one (.v (.str (drawBad L c)))] [(0, ⟨true, 3, [[.held v 1 (L.map bRow), .int .i64 (byteC L (byteC L c)).i, .int .i64 (byteC L (byteC L c)).h]], []⟩)] := by
  refine runs_tabB (tab := [(0, .ptr 0 [] 0 0 0)]) (rts := [(0, some ⟨true, 3, [[.held v 1 (L.map bRow), .int .i64 c.i, .int .i64 c.h]], []⟩)]) (n := 10) (k := 1) Tryz.func54 rfl rfl (by simp) rfl (fun t => ?_) rfl ?_
  · rcases t with _ | t <;> rfl
  have rO := runs_53 v L hL c 5 (by decide) (by decide)
  have rP := runs_80 v L hL (byteC L c) badL (by decide) (by decide)
  have rQ := runs_85 v L hL (byteC L c)
  unfold drawBad
  refine vw_go rfl ?_; simp only [go_sem, setCells, setIn]
  refine vw_seq ?_
  refine vw_go rfl ?_; simp only [go_sem, setCells, setIn]
  refine ⟨_, _, call_pt [0, 0] 0 Tryz.func53 (rO) rfl rfl rfl rfl rfl rfl rfl rfl (by simp [lendAll, lendC, seek, fresh, nav, rcells, RT.cells, VV.cells, tabE_cons, tabS_cons, St.put, ev, lit, take_map_len]) rfl rfl (by simp [rcells, RT.cells, CT.fine, T.fine]) (by exact ⟨.inr ⟨0, _, _, rfl, .head _, .head _⟩, trivial, trivial, trivial⟩) rfl rfl, ?_⟩
  simp only [runH, runX, go_sem, setCells, setIn]
  by_cases h : belV L c 5 = 0
  · rw [if_pos h]
    refine vw_cond (t := true) (by simp [ev, tabE_cons, h]) (fun _ => ?_) (fun h => nomatch h)
    refine vw_go rfl ?_; simp only [range1, List.replicate_succ, List.replicate_zero, List.flatten_cons, List.flatten_nil, List.range_zero, gt_iff_lt, go_sem, setCells, setIn]
    refine ⟨_, _, call_pt [0, 0] 0 Tryz.func80 (rP) rfl rfl rfl rfl rfl rfl rfl rfl (by simp [lendAll, lendC, seek, fresh, nav, rcells, RT.cells, VV.cells, tabE_cons, tabS_cons, St.put, ev, lit, take_map_len, sRow, badL]) rfl rfl (by simp [rcells, RT.cells, CT.fine, T.fine, sRow, badL]) (by exact ⟨.inr ⟨0, _, _, rfl, .head _, .head _⟩, trivial, trivial, trivial⟩) rfl rfl, ?_⟩
    simp only [runH, runX, go_sem, setCells, setIn]
    exact vw_ret (r_then (e_ret (ret_b rfl rfl (by simp [RB]) rfl rfl ⟨⟨by simp, _, rfl, rfl, rfl, rfl⟩, trivial⟩)))
  · rw [if_neg h]
    refine vw_cond (t := false) (by simp [ev, tabE_cons, h]) (fun h => nomatch h) (fun _ => ?_)
    refine vw_skip (n_then ?_)
    refine vw_go rfl ?_; simp only [go_sem, setCells, setIn]
    refine ⟨_, _, call_pt [0] 0 Tryz.func85 (rQ) rfl rfl rfl rfl rfl rfl rfl rfl (by simp [lendAll, lendC, seek, fresh, nav, rcells, RT.cells, VV.cells, tabE_cons, tabS_cons, St.put, ev, lit, take_map_len]) rfl rfl (by simp [rcells, RT.cells, CT.fine, T.fine]) (by exact ⟨.inr ⟨0, _, _, rfl, .head _, .head _⟩, trivial, trivial, trivial⟩) rfl rfl, ?_⟩
    simp only [runH, runX, go_sem, setCells, setIn]
    exact vw_ret (e_ret (ret_b rfl rfl (by simp [RB]) rfl rfl ⟨⟨by simp, _, rfl, rfl, rfl, rfl⟩, trivial⟩))
/-- A text that grows while it is too short; each round draws. -/
def growT (L : List UInt8) (b : UInt8) (m : Int) : Nat → Cur → ByteArray → ByteArray × Cur
  | 0, c, s => (s, c)
  | n + 1, c, s => if (s.size : Int) < m + belV L c 2 then growT L b m n (byteC L c) (s ++ ⟨#[b]⟩) else (s, byteC L c)
theorem growT_end {L : List UInt8} {b : UInt8} {m : Int} {n : Nat} {c : Cur} {s : ByteArray} (hn : 0 < n) (h : ¬ (s.size : Int) < m + belV L c 2) : growT L b m n c s = (s, byteC L c) := by
  cases n with
  | zero => omega
  | succ n => rw [growT, if_neg h]
def drawOp (L : List UInt8) (c : Cur) : OpV × Cur :=
  if pickV L c kindL 0 = 3 then (⟨3, drawPath L (byteC L c), ⟨#[]⟩, pickV L (byteC L (byteC L c)) dataL ⟨#[]⟩⟩, byteC L (byteC L (byteC L c)))
  else if pickV L c kindL 0 = 6 then (⟨6, drawPath L (byteC L c), drawPath L (byteC L (byteC L c)), ⟨#[]⟩⟩, byteC L (byteC L (byteC L c)))
  else (⟨pickV L c kindL 0, drawPath L (byteC L c), ⟨#[]⟩, ⟨#[]⟩⟩, byteC L (byteC L c))
theorem runs_84 (v : Value) (L : List UInt8) (hL : L.length < 2 ^ 60) (c : Cur) (o : OpV) (C : Cur) (hC : (o, C) = drawOp L c) :
    Runs Tryz.prog 84 [.one (.box [.held v 1 (L.map bRow), .int .i64 c.i, .int .i64 c.h])] [.agg [.v (.int .i64 o.kind), .v (.str o.path), .v (.str o.to), .v (.str o.data)]] [(0, ⟨true, 3, [[.held v 1 (L.map bRow), .int .i64 C.i, .int .i64 C.h]], []⟩)] := by
  refine runs_tabB (tab := [(0, .ptr 0 [] 0 0 0)]) (rts := [(0, some ⟨true, 3, [[.held v 1 (L.map bRow), .int .i64 c.i, .int .i64 c.h]], []⟩)]) (n := 24) (k := 1) Tryz.func84 rfl rfl (by simp) rfl (fun t => ?_) rfl ?_
  · rcases t with _ | t <;> rfl
  have rK := runs_108 v L hL c kindL (by decide) (by decide)
  have rP := runs_85 v L hL (byteC L c)
  have rD := runs_80 v L hL (byteC L (byteC L c)) dataL (by decide) (by decide)
  have rT := runs_85 v L hL (byteC L (byteC L c))
  unfold drawOp at hC
  refine vw_go rfl ?_; simp only [go_sem, setCells, setIn]
  refine vw_go rfl ?_; simp only [range1, List.replicate_succ, List.replicate_zero, List.flatten_cons, List.flatten_nil, List.range_zero, gt_iff_lt, go_sem, setCells, setIn]
  refine ⟨_, _, call_pt [0, 0] 0 Tryz.func108 (rK) rfl rfl rfl rfl rfl rfl rfl rfl (by simp [lendAll, lendC, seek, fresh, nav, rcells, RT.cells, VV.cells, tabE_cons, tabS_cons, St.put, ev, lit, take_map_len, nRow, kindL]) rfl rfl (by simp [rcells, RT.cells, CT.fine, T.fine, nRow, kindL]) (by exact ⟨.inr ⟨0, _, _, rfl, .head _, .head _⟩, trivial, trivial, trivial⟩) rfl rfl, ?_⟩
  simp only [runH, runX, go_sem, setCells, setIn]
  refine ⟨_, _, call_pt [0] 0 Tryz.func85 (rP) rfl rfl rfl rfl rfl rfl rfl rfl (by simp [lendAll, lendC, seek, fresh, nav, rcells, RT.cells, VV.cells, tabE_cons, tabS_cons, St.put, ev, lit, take_map_len]) rfl rfl (by simp [rcells, RT.cells, CT.fine, T.fine]) (by exact ⟨.inr ⟨0, _, _, rfl, .head _, .head _⟩, trivial, trivial, trivial⟩) rfl rfl, ?_⟩
  simp only [runH, runX, go_sem, setCells, setIn]
  refine vw_seq ?_
  refine vw_go rfl ?_; simp only [go_sem, setCells, setIn]
  generalize hk : pickV L c kindL 0 = k at hC
  refine vw_block ?_
  by_cases h3 : k = 3
  · rw [if_pos h3] at hC
    simp only [Prod.mk.injEq] at hC
    obtain ⟨rfl, rfl⟩ := hC
    subst h3
    refine vw_go rfl ?_; simp only [go_sem, setCells, setIn]
    refine vw_cond (t := true) rfl (fun _ => ?_) (fun h => nomatch h)
    refine vw_last rfl ?_; simp only [range1, List.replicate_succ, List.replicate_zero, List.flatten_cons, List.flatten_nil, List.range_zero, gt_iff_lt, go_sem, setCells, setIn]
    refine ⟨_, _, call_pt [0, 0] 0 Tryz.func80 (rD) rfl rfl rfl rfl rfl rfl rfl rfl (by simp [lendAll, lendC, seek, fresh, nav, rcells, RT.cells, VV.cells, tabE_cons, tabS_cons, St.put, ev, lit, take_map_len, sRow, dataL]) rfl rfl (by simp [rcells, RT.cells, CT.fine, T.fine, sRow, dataL]) (by exact ⟨.inr ⟨0, _, _, rfl, .head _, .head _⟩, trivial, trivial, trivial⟩) rfl rfl, ?_⟩
    simp only [runH, runX, go_sem, setCells, setIn]
    refine (n_block (n_then ?_))
    refine vw_go rfl ?_; simp only [go_sem, setCells, setIn]
    exact vw_ret (e_ret (ret_b rfl rfl (by simp [RB]) rfl rfl ⟨⟨by simp, _, rfl, rfl, rfl, rfl⟩, trivial⟩))
  rw [if_neg h3] at hC
  refine vw_go rfl ?_; simp only [h3, go_sem, setCells, setIn]
  refine vw_cond (t := false) rfl (fun h => nomatch h) (fun _ => ?_)
  by_cases h6 : k = 6
  · rw [if_pos h6] at hC
    simp only [Prod.mk.injEq] at hC
    obtain ⟨rfl, rfl⟩ := hC
    subst h6
    refine vw_go rfl ?_; simp only [go_sem, setCells, setIn]
    refine vw_cond (t := true) rfl (fun _ => ?_) (fun h => nomatch h)
    refine vw_last rfl ?_; simp only [go_sem, setCells, setIn]
    refine ⟨_, _, call_pt [0] 0 Tryz.func85 (rT) rfl rfl rfl rfl rfl rfl rfl rfl (by simp [lendAll, lendC, seek, fresh, nav, rcells, RT.cells, VV.cells, tabE_cons, tabS_cons, St.put, ev, lit, take_map_len]) rfl rfl (by simp [rcells, RT.cells, CT.fine, T.fine]) (by exact ⟨.inr ⟨0, _, _, rfl, .head _, .head _⟩, trivial, trivial, trivial⟩) rfl rfl, ?_⟩
    simp only [runH, runX, go_sem, setCells, setIn]
    refine (n_block (n_then ?_))
    refine vw_go rfl ?_; simp only [go_sem, setCells, setIn]
    exact vw_ret (e_ret (ret_b rfl rfl (by simp [RB]) rfl rfl ⟨⟨by simp, _, rfl, rfl, rfl, rfl⟩, trivial⟩))
  rw [if_neg h6] at hC
  simp only [Prod.mk.injEq] at hC
  obtain ⟨rfl, rfl⟩ := hC
  refine vw_go rfl ?_; simp only [h6, go_sem, setCells, setIn]
  refine vw_cond (t := false) rfl (fun h => nomatch h) (fun _ => ?_)
  refine vw_skip (n_block (n_then ?_))
  refine vw_go rfl ?_; simp only [go_sem, setCells, setIn]
  exact vw_ret (e_ret (ret_b rfl rfl (by simp [RB]) rfl rfl ⟨⟨by simp, _, rfl, rfl, rfl, rfl⟩, trivial⟩))
def drawOpBad (L : List UInt8) (c : Cur) : OpV × Cur :=
  match drawOp L c with
  | (o, c) =>
    if belV L c 20 = 0 then ({ o with kind := IntKind.wrap .i64 (belV L (byteC L c) 10 - 1) }, byteC L (byteC L c))
    else if belV L c 20 = 1 then ({ o with path := drawBad L (byteC L c) }, byteC L (byteC L (byteC L c)))
    else if belV L c 20 = 2 then ({ o with to := drawBad L (byteC L c) }, byteC L (byteC L (byteC L c)))
    else if belV L c 20 = 3 then ({ o with data := (growT L 107 60 62 (byteC L c) o.data).1 }, (growT L 107 60 62 (byteC L c) o.data).2)
    else (o, byteC L c)
theorem drawOp_data (L : List UInt8) (c : Cur) : (drawOp L c).1.data.size ≤ 5 := by
  have h : ∀ x ∈ dataL, x.size ≤ 5 := by decide
  unfold drawOp
  split
  · exact h _ (pickV_mem L _ _ (by decide))
  · split
    · exact Nat.zero_le _
    · exact Nat.zero_le _
theorem runs_52 (v : Value) (L : List UInt8) (hL : L.length < 2 ^ 60) (c : Cur) (p : OpV) (C : Cur) (hC : (p, C) = drawOpBad L c) :
    Runs Tryz.prog 52 [.one (.box [.held v 1 (L.map bRow), .int .i64 c.i, .int .i64 c.h])] [.agg [.v (.int .i64 p.kind), .v (.str p.path), .v (.str p.to), .v (.str p.data)]] [(0, ⟨true, 3, [[.held v 1 (L.map bRow), .int .i64 C.i, .int .i64 C.h]], []⟩)] := by
  refine runs_tabB (tab := [(0, .ptr 0 [] 0 0 0)]) (rts := [(0, some ⟨true, 3, [[.held v 1 (L.map bRow), .int .i64 c.i, .int .i64 c.h]], []⟩)]) (n := 38) (k := 1) Tryz.func52 rfl rfl (by simp) rfl (fun t => ?_) rfl ?_
  · rcases t with _ | t <;> rfl
  unfold drawOpBad at hC
  have hdz := drawOp_data L c
  generalize hd : drawOp L c = g at hC hdz
  obtain ⟨o, d⟩ := g
  have rO := runs_84 v L hL c o d hd.symm
  have rB := runs_79 v L hL d 20 (by decide) (by decide)
  have rB2 := runs_79 v L hL (byteC L d) 10 (by decide) (by decide)
  have rP := runs_54 v L hL (byteC L d)
  simp only at hC hdz
  refine vw_go rfl ?_; simp only [go_sem, setCells, setIn]
  refine vw_go rfl ?_; simp only [go_sem, setCells, setIn]
  refine ⟨_, _, call_pt [0] 0 Tryz.func84 (rO) rfl rfl rfl rfl rfl rfl rfl rfl (by simp [lendAll, lendC, seek, fresh, nav, rcells, RT.cells, VV.cells, tabE_cons, tabS_cons, St.put, ev, lit, take_map_len]) rfl rfl (by simp [rcells, RT.cells, CT.fine, T.fine]) (by exact ⟨.inr ⟨0, _, _, rfl, .head _, .head _⟩, trivial, trivial, trivial⟩) rfl rfl, ?_⟩
  simp only [runH, runX, go_sem, setCells, setIn]
  refine vw_seq ?_
  refine vw_go rfl ?_; simp only [go_sem, setCells, setIn]
  refine ⟨_, _, call_pt [0, 0] 0 Tryz.func79 (rB) rfl rfl rfl rfl rfl rfl rfl rfl (by simp [lendAll, lendC, seek, fresh, nav, rcells, RT.cells, VV.cells, tabE_cons, tabS_cons, St.put, ev, lit, take_map_len]) rfl rfl (by simp [rcells, RT.cells, CT.fine, T.fine]) (by exact ⟨.inr ⟨0, _, _, rfl, .head _, .head _⟩, trivial, trivial, trivial⟩) rfl rfl, ?_⟩
  simp only [runH, runX, go_sem, setCells, setIn]
  generalize hk : belV L d 20 = k at hC
  refine vw_block ?_
  by_cases h0 : k = 0
  · rw [if_pos h0] at hC
    simp only [Prod.mk.injEq] at hC
    obtain ⟨rfl, rfl⟩ := hC
    subst h0
    refine vw_go rfl ?_; simp only [go_sem, setCells, setIn]
    refine vw_cond (t := true) rfl (fun _ => ?_) (fun h => nomatch h)
    refine vw_last rfl ?_; simp only [go_sem, setCells, setIn]
    refine ⟨_, _, call_pt [0, 0] 0 Tryz.func79 (rB2) rfl rfl rfl rfl rfl rfl rfl rfl (by simp [lendAll, lendC, seek, fresh, nav, rcells, RT.cells, VV.cells, tabE_cons, tabS_cons, St.put, ev, lit, take_map_len]) rfl rfl (by simp [rcells, RT.cells, CT.fine, T.fine]) (by exact ⟨.inr ⟨0, _, _, rfl, .head _, .head _⟩, trivial, trivial, trivial⟩) rfl rfl, ?_⟩
    simp only [runH, runX, go_sem, setCells, setIn]
    refine (n_block (n_then ?_))
    refine vw_go rfl ?_; simp only [go_sem, setCells, setIn]
    exact vw_ret (e_ret (ret_b rfl rfl (by simp [RB]) rfl rfl ⟨⟨by simp, _, rfl, rfl, rfl, rfl⟩, trivial⟩))
  rw [if_neg h0] at hC
  refine vw_go rfl ?_; simp only [h0, go_sem, setCells, setIn]
  refine vw_cond (t := false) rfl (fun h => nomatch h) (fun _ => ?_)
  by_cases h1 : k = 1
  · rw [if_pos h1] at hC
    simp only [Prod.mk.injEq] at hC
    obtain ⟨rfl, rfl⟩ := hC
    subst h1
    refine vw_go rfl ?_; simp only [go_sem, setCells, setIn]
    refine vw_cond (t := true) rfl (fun _ => ?_) (fun h => nomatch h)
    refine vw_last rfl ?_; simp only [go_sem, setCells, setIn]
    refine ⟨_, _, call_pt [0] 0 Tryz.func54 (rP) rfl rfl rfl rfl rfl rfl rfl rfl (by simp [lendAll, lendC, seek, fresh, nav, rcells, RT.cells, VV.cells, tabE_cons, tabS_cons, St.put, ev, lit, take_map_len]) rfl rfl (by simp [rcells, RT.cells, CT.fine, T.fine]) (by exact ⟨.inr ⟨0, _, _, rfl, .head _, .head _⟩, trivial, trivial, trivial⟩) rfl rfl, ?_⟩
    simp only [runH, runX, go_sem, setCells, setIn]
    refine (n_block (n_then ?_))
    refine vw_go rfl ?_; simp only [go_sem, setCells, setIn]
    exact vw_ret (e_ret (ret_b rfl rfl (by simp [RB]) rfl rfl ⟨⟨by simp, _, rfl, rfl, rfl, rfl⟩, trivial⟩))
  rw [if_neg h1] at hC
  refine vw_go rfl ?_; simp only [h1, go_sem, setCells, setIn]
  refine vw_cond (t := false) rfl (fun h => nomatch h) (fun _ => ?_)
  by_cases h2 : k = 2
  · rw [if_pos h2] at hC
    simp only [Prod.mk.injEq] at hC
    obtain ⟨rfl, rfl⟩ := hC
    subst h2
    refine vw_go rfl ?_; simp only [go_sem, setCells, setIn]
    refine vw_cond (t := true) rfl (fun _ => ?_) (fun h => nomatch h)
    refine vw_last rfl ?_; simp only [go_sem, setCells, setIn]
    refine ⟨_, _, call_pt [0] 0 Tryz.func54 (rP) rfl rfl rfl rfl rfl rfl rfl rfl (by simp [lendAll, lendC, seek, fresh, nav, rcells, RT.cells, VV.cells, tabE_cons, tabS_cons, St.put, ev, lit, take_map_len]) rfl rfl (by simp [rcells, RT.cells, CT.fine, T.fine]) (by exact ⟨.inr ⟨0, _, _, rfl, .head _, .head _⟩, trivial, trivial, trivial⟩) rfl rfl, ?_⟩
    simp only [runH, runX, go_sem, setCells, setIn]
    refine (n_block (n_then ?_))
    refine vw_go rfl ?_; simp only [go_sem, setCells, setIn]
    exact vw_ret (e_ret (ret_b rfl rfl (by simp [RB]) rfl rfl ⟨⟨by simp, _, rfl, rfl, rfl, rfl⟩, trivial⟩))
  rw [if_neg h2] at hC
  refine vw_go rfl ?_; simp only [h2, go_sem, setCells, setIn]
  refine vw_cond (t := false) rfl (fun h => nomatch h) (fun _ => ?_)
  by_cases h3 : k = 3
  case neg =>
    rw [if_neg h3] at hC
    simp only [Prod.mk.injEq] at hC
    obtain ⟨rfl, rfl⟩ := hC
    refine vw_go rfl ?_; simp only [h3, go_sem, setCells, setIn]
    refine vw_cond (t := false) rfl (fun h => nomatch h) (fun _ => ?_)
    refine vw_skip (n_block (n_then ?_))
    refine vw_go rfl ?_; simp only [go_sem, setCells, setIn]
    exact vw_ret (e_ret (ret_b rfl rfl (by simp [RB]) rfl rfl ⟨⟨by simp, _, rfl, rfl, rfl, rfl⟩, trivial⟩))
  rw [if_pos h3] at hC
  simp only [Prod.mk.injEq] at hC
  subst h3
  refine vw_go rfl ?_; simp only [go_sem, setCells, setIn]
  refine vw_cond (t := true) rfl (fun _ => ?_) (fun h => nomatch h)
  refine vw_block ?_
  refine vw_loop_tab (α := Nat × Cur × ByteArray × List Path) (fun x => x.1) (fun x => ⟨tabE [(0, .ptr 0 [] 0 0 0), (2, .ptr 1 [] 0 0 0), (3, .ptr 2 [] 0 0 0)], tabS [(0, some ⟨true, 3, [[.held v 1 (L.map bRow), .int .i64 x.2.1.i, .int .i64 x.2.1.h]], x.2.2.2⟩),
      (1, some ⟨true, 4, [[.int .i64 0, .str ⟨#[]⟩, .str ⟨#[]⟩, .str ⟨#[]⟩]], []⟩), (2, some ⟨true, 4, [[.int .i64 o.kind, .str o.path, .str o.to, .str x.2.2.1]], []⟩)], 3⟩)
    (fun x => growT L 107 60 x.1 x.2.1 x.2.2.1 = growT L 107 60 62 (byteC L d) o.data ∧ 62 ≤ x.1 + x.2.2.1.size ∧ 1 ≤ x.1 ∧ x.2.2.1.size ≤ 61) (x := (62, byteC L d, o.data, [[], []])) ?round ?h0 ?hn
  case h0 => exact ⟨rfl, by simp only; omega, Nat.le_of_ble_eq_true rfl, by simp only; omega⟩
  case hn => (refine norm_to [(0, 0), (1, 1), (67585, 2)] rfl ?_ ?_ <;> simp only [go_sem])
  rintro ⟨n, e, s, lg⟩ ⟨hg, hs, hn1, hs1⟩
  simp only at hg hs hn1 hs1
  have rE := runs_79 v L hL e 2 (by decide) (by decide)
  have hb := belV_in L e (n := 2) (by decide)
  have w4 : IntKind.wrap .i64 (60 + belV L e 2) = 60 + belV L e 2 := wrap_i64 (by omega) (by omega)
  refine vw_seq ?_
  refine vw_draw mixed rfl rfl ?_; simp only [go_sem, setCells, setIn]
  refine ⟨_, _, _, call_pt_at [0, 0] 0 [] Tryz.func79 (rE) rfl rfl rfl rfl rfl rfl rfl rfl (fun st1 hst1 => by (try simp only [List.mem_cons, List.not_mem_nil, or_false, false_or, forall_eq_or_imp, forall_eq] at hst1); simp [lendAll, lendC, seek, fresh, nav, rcells, RT.cells, VV.cells, tabE_cons, tabS_cons, St.put, ev, lit, take_map_len, hst1]) rfl rfl (fun st1 hst1 => by simp [rcells, RT.cells, CT.fine, T.fine]) (fun st1 hst1 => by exact ⟨.inr ⟨0, _, _, (hst1 _ (.head _)).trans rfl, .head _, .head _⟩, trivial, trivial, trivial⟩) rfl rfl, ?_⟩
  simp only [runH, runX, w4, go_sem, setCells, setIn]
  refine ⟨by unfold allOk; kernel_rfl, ?_⟩
  by_cases hc : (s.size : Int) < 60 + belV L e 2
  · refine vw_cond (t := true) (by simp [ev, tabE_cons, hc]) (fun _ => ?_) (fun h => nomatch h)
    refine vw_skip (n_then ?_)
    obtain ⟨k, rfl⟩ : ∃ k, n = k + 1 := ⟨n - 1, by omega⟩
    have hz : (s ++ (⟨#[107]⟩ : ByteArray)).size = s.size + 1 := by rw [ByteArray.size_append]; rfl
    have A1 : s.size + 1 < 2 ^ 60 := by omega
    refine vw_block ?_
    refine vw_last rfl ?_; simp only [A1, sz_lit, List.size_toArray, go_sem, setCells, setIn]
    refine (n_block (n_then ?_))
    refine ⟨(k, byteC L e, s ++ ⟨#[107]⟩, lg ++ [[]]), by simp only; omega, ⟨?_, by simp only [hz]; omega, by simp only; omega, by simp only [hz]; omega⟩, ?_⟩
    · rw [growT, if_pos hc] at hg
      exact hg
    refine norm_to [(0, 0), (1, 1), (2, 2)] rfl ?_ ?_ <;> simp only [go_sem]
  · refine vw_cond (t := false) (by simp [ev, tabE_cons, hc]) (fun h => nomatch h) (fun _ => ?_)
    refine vw_exit (x_then (x_then (x_block (n_block (n_then ?_)))))
    rw [growT_end (by omega) hc] at hg
    rw [← hg] at hC
    obtain ⟨rfl, rfl⟩ := hC
    refine vw_go rfl ?_; simp only [go_sem, setCells, setIn]
    exact vw_ret (e_ret (ret_b rfl rfl (by simp [RB]) rfl rfl ⟨⟨by simp, _, rfl, rfl, rfl, rfl⟩, trivial⟩))
end Go.Proofs.YtoenfbbadfcfpaaGreatDoor
namespace Go.Proofs.YtoenfbbadfcfpaaGreatDoor
open Go.VM
set_option maxRecDepth 100000
attribute [local congr] vw_congr runV_congr runH_congr runW_congr runX_congr stuckV_congr stuckX_congr
theorem bs_len (s : ByteArray) : s.data.toList.length = s.size := Array.length_toList
def lowB (b : UInt8) : Bool := decide (97 ≤ (b.toNat : Int)) && decide ((b.toNat : Int) ≤ 122)
def nameOk (s : ByteArray) : Bool := s.data.toList.all lowB && inB s.size 1 6
theorem getD_of {α : Type} {l : List α} {i : Nat} {x d : α} (h : l[i]? = some x) : l.getD i d = x := by
  rw [List.getD_eq_getElem?_getD, h]; rfl
theorem all_bad {s : ByteArray} {i : Nat} {b : UInt8} (h : s.data.toList[i]? = some b) (hb : lowB b = false) : nameOk s = false := by
  have : s.data.toList.all lowB = false := by
    rw [List.all_eq_false]
    exact ⟨b, List.mem_of_getElem? h, by simp [hb]⟩
  simp [nameOk, this]
theorem runs_88 (s : ByteArray) (hs : s.size < 2 ^ 62) : Runs Tryz.prog 88 [.one (.v (.str s))] [.one (.v (.bool (nameOk s)))] [] := by
  refine runs_tab (tab := [(0, .c (.str s))]) (rts := []) (n := 23) (k := 1) Tryz.func88 rfl rfl (by simp) rfl (fun t => ?_) rfl ?_
  · rcases t with _ | t <;> rfl
  refine vw_go rfl ?_; simp only [go_sem, setCells, setIn]
  refine vw_seq ?_
  refine vw_go rfl ?_; simp only [go_sem, setCells, setIn]
  refine vw_block ?_
  refine vw_loop_tab (α := Nat) (fun x => s.size - x) (fun x => ⟨tabE [(0, .c (.str s)), (3, .c (.int .i64 x))], tabS [], 1⟩)
    (fun x => x ≤ s.size ∧ (s.data.toList.drop x).all lowB = s.data.toList.all lowB) (x := 0) ?round ?h0 ?hn
  case h0 => exact ⟨Nat.zero_le _, rfl⟩
  case hn => (refine norm_to [] rfl ?_ ?_ <;> simp only [go_sem])
  rintro i ⟨hi, hm⟩
  refine vw_seq ?_
  refine vw_go rfl ?_; simp only [go_sem, setCells, setIn]
  refine vw_cond (t := decide ((i : Int) < s.size)) rfl (fun h => ?_) (fun h => ?_)
  · refine vw_skip (n_then ?_)
    rcases get_or s.data.toList i with ⟨b, hx, hlt⟩ | ⟨_, hge⟩
    case inr => simp only [decide_eq_true_eq] at h; rw [bs_len] at hge; omega
    rw [bs_len] at hlt
    have c1 : (0:Int) ≤ (i:Int) := by omega
    have c2 : (i:Int) < (s.size : Int) := by omega
    have g := getD_of (d := 0) hx
    rw [drop_of hx, List.all_cons] at hm
    refine vw_seq ?_
    refine vw_block ?_
    by_cases a1 : ((b.toNat : Int) < 97)
    · (refine vw_go rfl ?_; simp only [c1, c2, Int.toNat_natCast, g, a1, go_sem, setCells, setIn])
      refine vw_cond (t := true) rfl (fun h => ?_) (fun h => ?_)
      case refine_2 => cases h
      refine vw_go rfl ?_; simp only [go_sem, setCells, setIn]
      rw [all_bad hx (by simp [lowB]; omega)]
      exact vw_ret (r_block (r_then (r_then (r_block (r_then (e_ret (ret_of rfl rfl (by simp [RB]) rfl rfl)))))))
    · (refine vw_go rfl ?_; simp only [c1, c2, Int.toNat_natCast, g, a1, go_sem, setCells, setIn])
      refine vw_cond (t := decide (122 < (b.toNat : Int))) rfl (fun h => ?_) (fun h => ?_)
      · (refine vw_go rfl ?_; simp only [go_sem, setCells, setIn])
        simp only [decide_eq_true_eq] at h
        rw [all_bad hx (by simp [lowB]; omega)]
        exact vw_ret (r_block (r_then (r_then (r_block (r_then (e_ret (ret_of rfl rfl (by simp [RB]) rfl rfl)))))))
      · refine vw_skip (n_block (n_then ?_))
        have w2 : IntKind.wrap .i64 ((i:Int) + 1) = ((i + 1 : Nat) : Int) := by rw [wrap_i64 (by omega) (by omega)]; rfl
        refine vw_last rfl ?_; simp only [w2, go_sem, setCells, setIn]
        refine (n_then ?_)
        simp only [decide_eq_false_iff_not] at h
        rw [show lowB b = true from by simp [lowB]; omega, Bool.true_and] at hm
        refine ⟨i + 1, by omega, ⟨by omega, hm⟩, ?_⟩
        refine norm_to [] rfl ?_ ?_ <;> simp only [go_sem]
  · refine vw_exit (x_then (x_then (x_block (n_then ?_))))
    simp only [decide_eq_false_iff_not] at h
    have : i = s.size := by omega
    subst this
    rw [← bs_len, List.drop_length, List.all_nil] at hm
    refine vw_go rfl ?_; simp only [go_sem, setCells, setIn]
    refine ⟨_, _, call_rd [0, 0, 0] Tryz.func61 (runs_61 (s.size : Int) 1 6) rfl rfl rfl rfl rfl rfl rfl rfl rfl rfl rfl rfl rfl, ?_⟩
    simp only [runH, runX, go_sem, setCells, setIn]
    rw [show nameOk s = inB s.size 1 6 from by simp [nameOk, ← hm]]
    exact vw_ret (e_ret (ret_of rfl rfl (by simp [RB]) rfl rfl))
theorem runs_95 (s : ByteArray) (hs : s.size < 2 ^ 62) : Runs Tryz.prog 95 [.one (.v (.str s))] [.one (.v (.bool (nameOk s)))] [] := by
  refine runs_tab (tab := [(0, .c (.str s))]) (rts := []) (n := 23) (k := 1) Tryz.func95 rfl rfl (by simp) rfl (fun t => ?_) rfl ?_
  · rcases t with _ | t <;> rfl
  refine vw_go rfl ?_; simp only [go_sem, setCells, setIn]
  refine vw_seq ?_
  refine vw_go rfl ?_; simp only [go_sem, setCells, setIn]
  refine vw_block ?_
  refine vw_loop_tab (α := Nat) (fun x => s.size - x) (fun x => ⟨tabE [(0, .c (.str s)), (5, .c (.int .i64 s.size)), (6, .c (.int .i64 x))], tabS [], 1⟩)
    (fun x => x ≤ s.size ∧ (s.data.toList.drop x).all lowB = s.data.toList.all lowB) (x := 0) ?round ?h0 ?hn
  case h0 => exact ⟨Nat.zero_le _, rfl⟩
  case hn => (refine norm_to [] rfl ?_ ?_ <;> simp only [go_sem])
  rintro i ⟨hi, hm⟩
  refine vw_go rfl ?_; simp only [go_sem, setCells, setIn]
  refine vw_seq ?_
  refine vw_cond (t := decide ((i : Int) < s.size)) rfl (fun h => ?_) (fun h => ?_)
  · refine vw_skip (n_then ?_)
    rcases get_or s.data.toList i with ⟨b, hx, hlt⟩ | ⟨_, hge⟩
    case inr => simp only [decide_eq_true_eq] at h; rw [bs_len] at hge; omega
    rw [bs_len] at hlt
    have c1 : (0:Int) ≤ (i:Int) := by omega
    have c2 : (i:Int) < (s.size : Int) := by omega
    have g := getD_of (d := 0) hx
    rw [drop_of hx, List.all_cons] at hm
    refine vw_seq ?_
    refine vw_block ?_
    refine vw_go rfl ?_; simp only [go_sem, setCells, setIn]
    by_cases a1 : ((b.toNat : Int) < 97)
    · (refine vw_go rfl ?_; simp only [c1, c2, Int.toNat_natCast, g, a1, go_sem, setCells, setIn])
      refine vw_cond (t := true) rfl (fun h => ?_) (fun h => ?_)
      case refine_2 => cases h
      refine vw_go rfl ?_; simp only [go_sem, setCells, setIn]
      rw [all_bad hx (by simp [lowB]; omega)]
      exact vw_ret (r_block (r_then (r_then (r_block (r_then (e_ret (ret_of rfl rfl (by simp [RB]) rfl rfl)))))))
    · (refine vw_go rfl ?_; simp only [c1, c2, Int.toNat_natCast, g, a1, go_sem, setCells, setIn])
      refine vw_cond (t := decide (122 < (b.toNat : Int))) rfl (fun h => ?_) (fun h => ?_)
      · (refine vw_go rfl ?_; simp only [go_sem, setCells, setIn])
        simp only [decide_eq_true_eq] at h
        rw [all_bad hx (by simp [lowB]; omega)]
        exact vw_ret (r_block (r_then (r_then (r_block (r_then (e_ret (ret_of rfl rfl (by simp [RB]) rfl rfl)))))))
      · refine vw_skip (n_block (n_then ?_))
        have w2 : IntKind.wrap .i64 ((i:Int) + 1) = ((i + 1 : Nat) : Int) := by rw [wrap_i64 (by omega) (by omega)]; rfl
        refine vw_last rfl ?_; simp only [w2, go_sem, setCells, setIn]
        refine (n_then ?_)
        simp only [decide_eq_false_iff_not] at h
        rw [show lowB b = true from by simp [lowB]; omega, Bool.true_and] at hm
        refine ⟨i + 1, by omega, ⟨by omega, hm⟩, ?_⟩
        refine norm_to [] rfl ?_ ?_ <;> simp only [go_sem]
  · refine vw_exit (x_then (x_then (x_block (n_then ?_))))
    simp only [decide_eq_false_iff_not] at h
    have : i = s.size := by omega
    subst this
    rw [← bs_len, List.drop_length, List.all_nil] at hm
    refine vw_go rfl ?_; simp only [go_sem, setCells, setIn]
    refine ⟨_, _, call_rd [0, 0, 0] Tryz.func66 (runs_66 (s.size : Int) 1 6) rfl rfl rfl rfl rfl rfl rfl rfl rfl rfl rfl rfl rfl, ?_⟩
    simp only [runH, runX, go_sem, setCells, setIn]
    rw [show nameOk s = inB s.size 1 6 from by simp [nameOk, ← hm]]
    exact vw_ret (e_ret (ret_of rfl rfl (by simp [RB]) rfl rfl))
end Go.Proofs.YtoenfbbadfcfpaaGreatDoor
namespace Go.VM
open Go
def chkPre (pre : List (List Nat)) : Nat → List Oper → Bool
  | _, [] => true
  | k, o :: l => ((pre.getD k []).all fun i => (o.after.toList.filter fun e => Region.binds .any e).any fun e => (e.on == i) || (decide (e.on < k) && (pre.getD e.on []).contains i)) && chkPre pre (k + 1) l
theorem closeL_mem {acc : List (List Nat)} {o : Oper} {i : Nat} : i ∈ closeL acc o ↔ ∃ e, e ∈ o.after.toList.filter (fun e => Region.binds .any e) ∧ (i = e.on ∨ i ∈ acc.getD e.on []) := by
  unfold closeL
  rw [List.mem_eraseDups, List.mem_flatMap]
  simp only [List.mem_cons]
theorem chkPre_sub {pre : List (List Nat)} : ∀ (l : List Oper) (acc : List (List Nat)), chkPre pre acc.length l = true → (∀ j i, j < acc.length → i ∈ pre.getD j [] → i ∈ acc.getD j []) →
    ∀ j i, j < acc.length + l.length → i ∈ pre.getD j [] → i ∈ (precs l acc).getD j []
  | [], acc, _, h, j, i, hj, hi => h j i (by simpa using hj) hi
  | o :: l, acc, hc, h, j, i, hj, hi => by
    simp only [chkPre, Bool.and_eq_true, List.all_eq_true] at hc
    simp only [precs]
    refine chkPre_sub l (acc ++ [closeL acc o]) (by simpa using hc.2) (fun j i hj hi => ?_) j i (by simp at hj ⊢; omega) hi
    by_cases e : j < acc.length
    · rw [List.getD_eq_getElem?_getD, List.getElem?_append_left e, ← List.getD_eq_getElem?_getD]
      exact h j i e hi
    · obtain rfl : j = acc.length := by simp at hj; omega
      rw [List.getD_eq_getElem?_getD, List.getElem?_append_right (Nat.le_refl _), Nat.sub_self]
      simp only [List.getElem?_cons_zero, Option.getD_some]
      rw [closeL_mem]
      have := hc.1 i hi
      simp only [List.any_eq_true, Bool.or_eq_true, beq_iff_eq, Bool.and_eq_true, decide_eq_true_eq, List.contains_iff_mem] at this
      obtain ⟨e, he, h1 | ⟨h1, h2⟩⟩ := this
      · exact ⟨e, he, .inl h1.symm⟩
      · exact ⟨e, he, .inr (h e.on i h1 h2)⟩
theorem allOk_pre {l : List Oper} {its : List It} (pre : List (List Nat)) (h1 : chkPre pre 0 l = true) (h0 : its.length ≤ l.length) (h2 : pairsOk pre its = true) : allOk l its := by
  unfold allOk
  unfold pairsOk at h2 ⊢
  simp only [List.all_eq_true, Bool.or_eq_true, List.contains_iff_mem, List.mem_range] at h2 ⊢
  intro j hj i hi
  rcases h2 j hj i hi with h | h
  · exact .inl (chkPre_sub l [] h1 (fun j i hj => absurd hj (by simp)) j i (by simp; omega) h)
  · exact .inr h
/-- A region of open order, its list of operations named. -/
theorem vw_drawA {P : Program} {n K id : Nat} {l : List Oper} {y : Code} {Q : Exit → FS → Prop} {env : Nat → VV} {st : St} {nx : Nat} (hm : P.follows .mixedOrders = true) (hd : regOk n l = true) (he : edgesOk l.toArray = true)
    (h : ∀ A : Array Oper, A = l.toArray → runW P A nx 0 l env st [] (fun its env st => allOk l its ∧ VW P n K y Q ⟨env, st, nx + 65536⟩)) : VW P n K (.seq (.region id l.toArray true) y) Q ⟨env, st, nx⟩ :=
  vw_draw hm hd he (h _ rfl)
theorem vw_drawA_last {P : Program} {n K id : Nat} {l : List Oper} {Q : Exit → FS → Prop} {env : Nat → VV} {st : St} {nx : Nat} (hm : P.follows .mixedOrders = true) (hd : regOk n l = true) (he : edgesOk l.toArray = true)
    (h : ∀ A : Array Oper, A = l.toArray → runW P A nx 0 l env st [] (fun its env st => allOk l its ∧ Q .normal ⟨env, st, nx + 1024 * l.toArray.size⟩)) : VW P n K (.region id l.toArray true) Q ⟨env, st, nx⟩ :=
  vw_draw_last hm hd he (h _ rfl)
theorem runW_step (P : Program) (ops : Array Oper) (nx i : Nat) (o : Oper) (l : List Oper) (env : Nat → VV) (st : St) (acc : List It) (K : List It → (Nat → VV) → St → Prop) :
    runW P ops nx i (o :: l) env st acc K =
      match wantedV ops o env with
      | some true =>
        (match isCall o with
        | true => ∃ v u rd, OpAt P (nx + 1024 * i) o rd env st ⟨v, u⟩ ∧ runX P ops nx (i + 1) l (dstE env o.dst v) (st.ups u) (acc ++ [⟨o.dst, v, u, o.looksAt ops, rd⟩]) K
        | false => match vop P (nx + 1024 * i) o env st with
          | some e => runW P ops nx (i + 1) l (dstE env o.dst e.v) (st.ups e.ups) (acc ++ [⟨o.dst, e.v, e.ups, o.looksAt ops, readsOf env o⟩]) K
          | none => stuckX P ops nx i o l env st acc K)
      | some false => runW P ops nx (i + 1) l (dstE env o.dst (.tup [])) st (acc ++ [⟨o.dst, .tup [], [], o.looksAt ops, []⟩]) K
      | none => False := (rfl)
end Go.VM
