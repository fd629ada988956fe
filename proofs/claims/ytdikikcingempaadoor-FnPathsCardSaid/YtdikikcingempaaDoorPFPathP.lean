/- Draws of volumes: what the laws call. Nodes: pairs and Kid of the implementation. Walks in a volume, of both: whole. Paths, the plain law: a path is its names with a byte 47 between; what is split is met one name later. -/
import Derived.Test.YtdikikcingempaaDoorPFDrawW
import Derived.Test.YtdikikcingempaaDoorPFKid
import Derived.Test.YtdikikcingempaaDoorPFTell
import Derived.Test.YtdikikcingempaaDoorPFWalk
import Derived.Test.YtdikikcingempaaDoorPFItems
import Derived.Test.YtdikikcingempaaDoorPFAskS
namespace Go.Proofs.YtdikikcingempaaDoor
open Go.VM Go
set_option maxRecDepth 100000
set_option linter.unusedSimpArgs false
set_option linter.unusedVariables false
attribute [local congr] vw_congr runV_congr runH_congr runW_congr runX_congr
theorem runs_5 (L : List UInt8) (hL : L.length < 2 ^ 60) (s : ByteArray) (hl : s = drawBad L (newC L)) :
    Runs Tryd.prog 5 [.one (.v (.list false 1 (L.map bRow)))] [.one (.v (.str s))] [] := by
  refine runs_hold (fun v => ?_)
  refine runs_tab (tab := [(0, .c (.held v 1 (L.map bRow)))]) (rts := []) (n := 6) (k := 1) Tryd.func5 rfl rfl (by simp) rfl (fun t => ?_) rfl ?_
  · rcases t with _ | t <;> rfl
  have rN := runs_25 v L hL _ rfl
  generalize newC L = c at rN hl
  have rP := runs_24 v L hL c
  rw [← hl] at rP
  (refine vw_go rfl ?_; simp only [go_sem, setCells, setIn])
  (refine vw_go rfl ?_; simp only [go_sem, setCells, setIn])
  (refine ⟨_, _, call_fine [0] Tryd.func25 (rN) rfl rfl rfl rfl rfl rfl rfl (by simp [lendAll, lendC, seek, fresh, nav, rcells, RT.cells, VV.cells, tabE_cons, tabS_cons, ev, take_map_len]) rfl (by simp [rcells, RT.cells, CT.fine, fineR, T.fine, Known, VV.cells, ev, tabE_cons]) rfl rfl, ?_⟩)
  simp only [runH, runX, go_sem, setCells, setIn]
  (refine ⟨_, _, call_pt [0] 66561 Tryd.func24 (rP) rfl rfl rfl rfl rfl rfl rfl rfl (by simp [lendAll, lendC, seek, fresh, nav, rcells, RT.cells, VV.cells, tabE_cons, tabS_cons, St.put, ev, lit, take_map_len]) rfl rfl (by simp [rcells, RT.cells, CT.fine, T.fine]) (by exact ⟨.inr ⟨66561, _, _, rfl, .head _, .head _⟩, trivial, trivial, trivial⟩) rfl rfl, ?_⟩)
  simp only [runH, runX, go_sem, setCells, setIn]
  exact vw_ret (e_ret (ret_by rfl rfl (by simp [RB]) rfl (by simp only [takeCs, takeC, go_sem, setCells, setIn])))
theorem runs_7 (L : List UInt8) (hL : L.length < 2 ^ 60) (s : ByteArray) (hl : s = drawBad L (newC L)) :
    Runs Tryd.prog 7 [.one (.v (.list false 1 (L.map bRow)))] [.one (.v (.str s))] [] := by
  refine runs_hold (fun v => ?_)
  refine runs_tab (tab := [(0, .c (.held v 1 (L.map bRow)))]) (rts := []) (n := 6) (k := 1) Tryd.func7 rfl rfl (by simp) rfl (fun t => ?_) rfl ?_
  · rcases t with _ | t <;> rfl
  have rN := runs_25 v L hL _ rfl
  generalize newC L = c at rN hl
  have rP := runs_24 v L hL c
  rw [← hl] at rP
  (refine vw_go rfl ?_; simp only [go_sem, setCells, setIn])
  (refine vw_go rfl ?_; simp only [go_sem, setCells, setIn])
  (refine ⟨_, _, call_fine [0] Tryd.func25 (rN) rfl rfl rfl rfl rfl rfl rfl (by simp [lendAll, lendC, seek, fresh, nav, rcells, RT.cells, VV.cells, tabE_cons, tabS_cons, ev, take_map_len]) rfl (by simp [rcells, RT.cells, CT.fine, fineR, T.fine, Known, VV.cells, ev, tabE_cons]) rfl rfl, ?_⟩)
  simp only [runH, runX, go_sem, setCells, setIn]
  (refine ⟨_, _, call_pt [0] 66561 Tryd.func24 (rP) rfl rfl rfl rfl rfl rfl rfl rfl (by simp [lendAll, lendC, seek, fresh, nav, rcells, RT.cells, VV.cells, tabE_cons, tabS_cons, St.put, ev, lit, take_map_len]) rfl rfl (by simp [rcells, RT.cells, CT.fine, T.fine]) (by exact ⟨.inr ⟨66561, _, _, rfl, .head _, .head _⟩, trivial, trivial, trivial⟩) rfl rfl, ?_⟩)
  simp only [runH, runX, go_sem, setCells, setIn]
  exact vw_ret (e_ret (ret_by rfl rfl (by simp [RB]) rfl (by simp only [takeCs, takeC, go_sem, setCells, setIn])))
theorem runs_17 (L : List UInt8) (hL : L.length < 2 ^ 60) (s : ByteArray) (hl : s = drawBad L (newC L)) :
    Runs Tryd.prog 17 [.one (.v (.list false 1 (L.map bRow)))] [.one (.v (.str s))] [] := by
  refine runs_hold (fun v => ?_)
  refine runs_tab (tab := [(0, .c (.held v 1 (L.map bRow)))]) (rts := []) (n := 6) (k := 1) Tryd.func17 rfl rfl (by simp) rfl (fun t => ?_) rfl ?_
  · rcases t with _ | t <;> rfl
  have rN := runs_25 v L hL _ rfl
  generalize newC L = c at rN hl
  have rP := runs_24 v L hL c
  rw [← hl] at rP
  (refine vw_go rfl ?_; simp only [go_sem, setCells, setIn])
  (refine vw_go rfl ?_; simp only [go_sem, setCells, setIn])
  (refine ⟨_, _, call_fine [0] Tryd.func25 (rN) rfl rfl rfl rfl rfl rfl rfl (by simp [lendAll, lendC, seek, fresh, nav, rcells, RT.cells, VV.cells, tabE_cons, tabS_cons, ev, take_map_len]) rfl (by simp [rcells, RT.cells, CT.fine, fineR, T.fine, Known, VV.cells, ev, tabE_cons]) rfl rfl, ?_⟩)
  simp only [runH, runX, go_sem, setCells, setIn]
  (refine ⟨_, _, call_pt [0] 66561 Tryd.func24 (rP) rfl rfl rfl rfl rfl rfl rfl rfl (by simp [lendAll, lendC, seek, fresh, nav, rcells, RT.cells, VV.cells, tabE_cons, tabS_cons, St.put, ev, lit, take_map_len]) rfl rfl (by simp [rcells, RT.cells, CT.fine, T.fine]) (by exact ⟨.inr ⟨66561, _, _, rfl, .head _, .head _⟩, trivial, trivial, trivial⟩) rfl rfl, ?_⟩)
  simp only [runH, runX, go_sem, setCells, setIn]
  exact vw_ret (e_ret (ret_by rfl rfl (by simp [RB]) rfl (by simp only [takeCs, takeC, go_sem, setCells, setIn])))
theorem runs_16 (L : List UInt8) (hL : L.length < 2 ^ 60) (s t : ByteArray) (hs : s = drawBad L (newC L)) (ht : t = drawBad L (byteC L (byteC L (newC L)))) :
    Runs Tryd.prog 16 [.one (.v (.list false 1 (L.map bRow)))] [.one (.v (.str s)), .one (.v (.str t))] [] := by
  refine runs_hold (fun v => ?_)
  refine runs_tab (tab := [(0, .c (.held v 1 (L.map bRow)))]) (rts := []) (n := 13) (k := 1) Tryd.func16 rfl rfl (by simp) rfl (fun t => ?_) rfl ?_
  · rcases t with _ | t <;> rfl
  have rN := runs_25 v L hL _ rfl
  generalize newC L = c at rN hs ht
  have rP := runs_24 v L hL c
  rw [← hs] at rP
  generalize byteC L (byteC L c) = d at rP ht
  have rQ := runs_24 v L hL d
  rw [← ht] at rQ
  (refine vw_go rfl ?_; simp only [go_sem, setCells, setIn])
  (refine vw_go rfl ?_; simp only [go_sem, setCells, setIn])
  (refine ⟨_, _, call_fine [0] Tryd.func25 (rN) rfl rfl rfl rfl rfl rfl rfl (by simp [lendAll, lendC, seek, fresh, nav, rcells, RT.cells, VV.cells, tabE_cons, tabS_cons, ev, take_map_len]) rfl (by simp [rcells, RT.cells, CT.fine, fineR, T.fine, Known, VV.cells, ev, tabE_cons]) rfl rfl, ?_⟩)
  simp only [runH, runX, go_sem, setCells, setIn]
  (refine vw_go rfl ?_; simp only [go_sem, setCells, setIn])
  (refine ⟨_, _, call_pt [0] 66561 Tryd.func24 (rP) rfl rfl rfl rfl rfl rfl rfl rfl (by simp [lendAll, lendC, seek, fresh, nav, rcells, RT.cells, VV.cells, tabE_cons, tabS_cons, St.put, ev, lit, take_map_len]) rfl rfl (by simp [rcells, RT.cells, CT.fine, T.fine]) (by exact ⟨.inr ⟨66561, _, _, rfl, .head _, .head _⟩, trivial, trivial, trivial⟩) rfl rfl, ?_⟩)
  simp only [runH, runX, go_sem, setCells, setIn]
  (refine vw_go rfl ?_; simp only [go_sem, setCells, setIn])
  (refine ⟨_, _, call_pt [0] 66561 Tryd.func24 (rQ) rfl rfl rfl rfl rfl rfl rfl rfl (by simp [lendAll, lendC, seek, fresh, nav, rcells, RT.cells, VV.cells, tabE_cons, tabS_cons, St.put, ev, lit, take_map_len]) rfl rfl (by simp [rcells, RT.cells, CT.fine, T.fine]) (by exact ⟨.inr ⟨66561, _, _, rfl, .head _, .head _⟩, trivial, trivial, trivial⟩) rfl rfl, ?_⟩)
  simp only [runH, runX, go_sem, setCells, setIn]
  exact vw_ret (e_ret (ret_by rfl rfl (by simp [RB]) rfl (by simp only [takeCs, takeC, go_sem, setCells, setIn])))
theorem runs_12 (L : List UInt8) (hL : L.length < 2 ^ 60) (l : List ByteArray) (hl : l = (drawV L (newC L)).1) (s : ByteArray) (hs : s = drawBad L (drawV L (newC L)).2) :
    Runs Tryd.prog 12 [.one (.v (.list false 1 (L.map bRow)))] [.one (.v (.list true 1 (l.map sRow))), .one (.v (.str s))] [] := by
  refine runs_hold (fun v => ?_)
  refine runs_tab (tab := [(0, .c (.held v 1 (L.map bRow)))]) (rts := []) (n := 13) (k := 1) Tryd.func12 rfl rfl (by simp) rfl (fun t => ?_) rfl ?_
  · rcases t with _ | t <;> rfl
  have rN := runs_25 v L hL _ rfl
  generalize newC L = c at rN hl hs
  have rP := runs_32 v L hL c l (drawV L c).2 (by rw [hl])
  generalize (drawV L c).2 = d at rP hs
  have rB := runs_24 v L hL d
  rw [← hs] at rB
  have bl : List.take l.length (l.map sRow) = l.map sRow := List.take_of_length_le (by simp)
  (refine vw_go rfl ?_; simp only [go_sem, setCells, setIn])
  (refine vw_go rfl ?_; simp only [go_sem, setCells, setIn])
  (refine ⟨_, _, call_fine [0] Tryd.func25 (rN) rfl rfl rfl rfl rfl rfl rfl (by simp [lendAll, lendC, seek, fresh, nav, rcells, RT.cells, VV.cells, tabE_cons, tabS_cons, ev, take_map_len]) rfl (by simp [rcells, RT.cells, CT.fine, fineR, T.fine, Known, VV.cells, ev, tabE_cons]) rfl rfl, ?_⟩)
  simp only [runH, runX, go_sem, setCells, setIn]
  (refine vw_go rfl ?_; simp only [go_sem, setCells, setIn])
  (refine ⟨_, _, call_pt [0] 66561 Tryd.func32 (rP) rfl rfl rfl rfl rfl rfl rfl rfl (by simp [lendAll, lendC, seek, fresh, nav, rcells, RT.cells, VV.cells, tabE_cons, tabS_cons, St.put, ev, lit, take_map_len, sRow_r1, sRow_comp, sRow_clean, sRow_fine]) rfl rfl (by simp [rcells, RT.cells, CT.fine, T.fine, sRow_r1, sRow_comp, sRow_clean, sRow_fine]) (by exact ⟨.inr ⟨66561, _, _, rfl, .head _, .head _⟩, trivial, trivial, trivial⟩) rfl rfl, ?_⟩)
  simp only [runH, runX, go_sem, setCells, setIn]
  (refine vw_go rfl ?_; simp only [go_sem, setCells, setIn])
  (refine ⟨_, _, call_pt [0] 66561 Tryd.func24 (rB) rfl rfl rfl rfl rfl rfl rfl rfl (by simp [lendAll, lendC, seek, fresh, nav, rcells, RT.cells, VV.cells, tabE_cons, tabS_cons, St.put, ev, lit, take_map_len]) rfl rfl (by simp [rcells, RT.cells, CT.fine, T.fine]) (by exact ⟨.inr ⟨66561, _, _, rfl, .head _, .head _⟩, trivial, trivial, trivial⟩) rfl rfl, ?_⟩)
  simp only [runH, runX, go_sem, setCells, setIn]
  exact vw_ret (e_ret (ret_by rfl rfl (by simp [RB]) rfl (by simp only [takeCs, takeC, go_sem, setCells, setIn])))
end Go.Proofs.YtdikikcingempaaDoor
namespace Go.Proofs.YtdikikcingempaaDoor
open Go.VM Go
set_option maxRecDepth 100000
set_option linter.unusedSimpArgs false
set_option linter.unusedVariables false
attribute [-go_sem] runW_cons
attribute [local congr] vw_congr runV_congr runH_congr runW_congr runX_congr

theorem idx_kid : ∀ (xs : List ByteArray) (ys : List Int) (s : ByteArray) (i : Nat), xs.length = ys.length → idxOf (fun x => decide (s = x)) xs i = kidIx xs ys s i
  | [], [], s, i, _ => by unfold kidIx idxOf; rfl
  | a :: xs, b :: ys, s, i, h => by
    unfold kidIx idxOf
    rw [idx_kid xs ys s (i + 1) (by simpa using h)]
    by_cases e : a = s
    · subst e; simp
    · simp [e, show ¬ s = a from fun h => e h.symm]

set_option maxHeartbeats 1000000 in
theorem runs_41 (n : NodeV) (h : n.names.length = n.kids.length) (h1 : n.names.length ≤ 2 ^ 20) :
    Runs Tryd.prog 41 [.agg [.v (.bool n.dir), .v (.list false 1 (n.names.map sRow)), .v (.list false 1 (n.kids.map nRow)), .v (.str n.data)]] [.agg [.v (.bool n.dir), .v (.list true 1 (n.names.map sRow)), .v (.list true 1 (n.kids.map nRow)), .v (.str n.data)]] [] := by
  refine runs_tab (tab := [(0, .agg [.c (.bool n.dir), .c (.list false 1 (n.names.map sRow)), .c (.list false 1 (n.kids.map nRow)), .c (.str n.data)])]) (rts := []) (n := 26) (k := 4) Tryd.func41 rfl rfl (by simp) rfl (fun t => ?_) rfl ?_
  · rcases t with _ | t <;> rfl
  have bn : List.take n.kids.length (n.names.map sRow) = n.names.map sRow := List.take_of_length_le (by simp [h])
  have bk : List.take n.kids.length (n.kids.map nRow) = n.kids.map nRow := List.take_of_length_le (by simp)
  have rS := runs_57 n.names h1
  have rI := runs_58 n.kids (by omega)
  have d0 : (0:Int) ≤ (n.kids.length : Int) := by omega
  have mm : min (n.kids.length : Int) (n.kids.length : Int) = (n.kids.length : Int) := by omega
  have mi : ¬ (n.kids.length : Int) < n.kids.length := Int.lt_irrefl _
  (refine vw_go rfl ?_; simp only [go_sem, setCells, setIn])
  (refine vw_go rfl ?_; simp only [h, mi, go_sem, setCells, setIn])
  (refine vw_drawA mixed rfl rfl ?_; intro A hAA)
  simp (maxSteps := 1000000) only [d0, Int.toNat_natCast, h, bn, bk, List.drop_zero, mi, go_sem, setCells, setIn, runW_step]
  (refine ⟨_, _, _, call_rx_at [0] [4] Tryd.func57 (rS) rfl rfl rfl rfl rfl rfl rfl (fun st1 hst1 => by (try simp only [List.mem_cons, List.not_mem_nil, or_false, false_or, forall_eq_or_imp, forall_eq] at hst1); simp [lendAll, lendC, seek, fresh, nav, rcells, RT.cells, VV.cells, tabE_cons, tabS_cons, ev, take_map_len, hst1, sRow_r1, sRow_comp, sRow_clean, nRow_r1, nRow_comp, nRow_clean, bn]) rfl (by simp [rcells, RT.cells, CT.clean, T.clean, sRow_r1, sRow_comp, sRow_clean, nRow_r1, nRow_comp, nRow_clean, bn]) rfl rfl, ?_⟩)
  (unfold runX; simp (maxSteps := 1000000) only [d0, Int.toNat_natCast, h, bn, bk, List.drop_zero, mi, go_sem, setCells, setIn, runW_step])
  (refine ⟨_, _, _, call_rx_at [0] [4] Tryd.func58 (rI) rfl rfl rfl rfl rfl rfl rfl (fun st1 hst1 => by (try simp only [List.mem_cons, List.not_mem_nil, or_false, false_or, forall_eq_or_imp, forall_eq] at hst1); simp [lendAll, lendC, seek, fresh, nav, rcells, RT.cells, VV.cells, tabE_cons, tabS_cons, ev, take_map_len, hst1, sRow_r1, sRow_comp, sRow_clean, nRow_r1, nRow_comp, nRow_clean, bk]) rfl (by simp [rcells, RT.cells, CT.clean, T.clean, sRow_r1, sRow_comp, sRow_clean, nRow_r1, nRow_comp, nRow_clean, bk]) rfl rfl, ?_⟩)
  (unfold runX; simp (maxSteps := 1000000) only [d0, Int.toNat_natCast, h, bn, bk, List.drop_zero, mi, go_sem, setCells, setIn, runW_step])
  refine ⟨by subst hAA; unfold allOk; kernel_rfl, ?_⟩
  exact vw_ret (e_ret (ret_by rfl rfl (by simp [RB]) rfl (by simp only [takeCs, takeC, go_sem, setCells, setIn])))

theorem runs_23 (n : NodeV) (h : n.names.length = n.kids.length) (h1 : n.names.length ≤ 2 ^ 20) (s : ByteArray) :
    Runs Tryd.prog 23 [.agg [.v (.bool n.dir), .v (.list false 1 (n.names.map sRow)), .v (.list false 1 (n.kids.map nRow)), .v (.str n.data)], .one (.v (.str s))] [.one (.v (.int .i64 (kidF n s)))] [] := by
  refine runs_tab (tab := [(0, .agg [.c (.bool n.dir), .c (.list false 1 (n.names.map sRow)), .c (.list false 1 (n.kids.map nRow)), .c (.str n.data)]), (1, .c (.str s))]) (rts := []) (n := 20) (k := 5) Tryd.func23 rfl rfl (by simp) rfl (fun t => ?_) rfl ?_
  · rcases t with _ | _ | t <;> rfl
  have bn : List.take n.names.length (n.names.map sRow) = n.names.map sRow := List.take_of_length_le (by simp)
  have bk : List.take n.kids.length (n.kids.map nRow) = n.kids.map nRow := List.take_of_length_le (by simp)
  have rP := runs_41 n h h1
  have rX := runs_42 n.names (by omega) s
  rw [idx_kid n.names n.kids s 0 h] at rX
  have hx := kidIx_in n.names n.kids s 0
  unfold kidF
  generalize kidIx n.names n.kids s 0 = x at rX hx ⊢
  (refine vw_go rfl ?_; simp only [go_sem, setCells, setIn])
  (refine vw_go rfl ?_; simp only [go_sem, setCells, setIn])
  (refine ⟨_, _, call_rx [0] Tryd.func41 (rP) rfl rfl rfl rfl rfl rfl rfl (by simp [lendAll, lendC, seek, fresh, nav, rcells, RT.cells, VV.cells, tabE_cons, tabS_cons, ev, take_map_len, sRow_r1, sRow_comp, sRow_clean, nRow_r1, nRow_comp, nRow_clean]) rfl (by simp [rcells, RT.cells, CT.clean, T.clean, sRow_r1, sRow_comp, sRow_clean, nRow_r1, nRow_comp, nRow_clean]) rfl rfl, ?_⟩)
  simp only [runH, runX, bn, bk, go_sem, setCells, setIn]
  (refine vw_go rfl ?_; simp only [List.drop_length, bn, bk, go_sem, setCells, setIn])
  (refine ⟨_, _, call_rx [0, 0] Tryd.func42 (rX) rfl rfl rfl rfl rfl rfl rfl (by simp [lendAll, lendC, seek, fresh, nav, rcells, RT.cells, VV.cells, tabE_cons, tabS_cons, ev, take_map_len, sRow_r1, sRow_comp, sRow_clean, nRow_r1, nRow_comp, nRow_clean]) rfl (by simp [rcells, RT.cells, CT.clean, T.clean, sRow_r1, sRow_comp, sRow_clean, nRow_r1, nRow_comp, nRow_clean]) rfl rfl, ?_⟩)
  simp only [runH, runX, bn, bk, go_sem, setCells, setIn]
  refine vw_seq ?_
  rcases hx with rfl | ⟨j, hj, hjl, _⟩
  · rw [if_pos (by decide)]
    (refine vw_go rfl ?_; simp only [go_sem, setCells, setIn])
    (refine vw_cond (t := true) rfl (fun _ => ?_) (fun h => nomatch h))
    (refine vw_go rfl ?_; simp only [go_sem, setCells, setIn])
    exact vw_ret (r_then (e_ret (ret_of rfl rfl (by simp [RB]) rfl rfl)))
  rw [Nat.zero_add] at hj
  subst hj
  have g0 : ¬ (j : Int) < 0 := by omega
  rw [if_neg g0, Int.toNat_natCast]
  obtain ⟨y, hy⟩ : ∃ y, n.kids[j]? = some y := ⟨_, List.getElem?_eq_getElem hjl⟩
  rw [getD_of hy]
  have d0 : (0:Int) ≤ (j : Int) := by omega
  have d1 : (j : Int) < n.kids.length := by omega
  (refine vw_go rfl ?_; simp only [g0, go_sem, setCells, setIn])
  (refine vw_cond (t := false) rfl (fun h => nomatch h) (fun _ => ?_))
  refine vw_skip (n_then ?_)
  (refine vw_go rfl ?_; simp only [d0, d1, hjl, Int.toNat_natCast, getD_map_of hy, nRow, go_sem, setCells, setIn])
  exact vw_ret (e_ret (ret_of rfl rfl (by simp [RB]) rfl rfl))
end Go.Proofs.YtdikikcingempaaDoor
namespace Go.Proofs.YtdikikcingempaaDoor
open Go.VM Go
set_option maxRecDepth 100000
set_option linter.unusedSimpArgs false
set_option linter.unusedVariables false
attribute [local congr] vw_congr runV_congr runH_congr runW_congr runX_congr

def walkF (l : List ByteArray) (p : ByteArray) : Int := if pathOk p = true ∧ volOk l = true then walkG l (namesZ p) 0 else -1
theorem volOk_len {l : List ByteArray} (h : volOk l = true) : l.length = 12 := by
  unfold volOk at h
  simp only [Bool.and_eq_true, decide_eq_true_eq] at h
  exact h.1
theorem nodeAt_in {l : List ByteArray} (hl : l.length = 12) {k : Nat} (hk : k < 12) : nodeAt l (k : Int) = nodeRead (l.getD k ⟨#[]⟩) := by
  unfold nodeAt
  rw [if_pos ⟨hl, by simp only [inB, Bool.and_eq_true, decide_eq_true_eq]; omega⟩, Int.toNat_natCast]

theorem runs_18 (l : List ByteArray) (hl63 : l.length < 2 ^ 60) (hsz : ∀ s ∈ l, s.size ≤ 2 ^ 20) (p : ByteArray) (hp : p.size ≤ 2 ^ 20) :
    Runs Tryd.prog 18 [.one (.v (.list false 1 (l.map sRow))), .one (.v (.str p))] [.one (.v (.int .i64 (walkF l p)))] [] := by
  refine runs_tab (tab := [(0, .c (.list false 1 (l.map sRow))), (1, .c (.str p))]) (rts := []) (n := 16) (k := 2) Tryd.func18 rfl rfl (by simp) rfl (fun t => ?_) rfl ?_
  · rcases t with _ | _ | t <;> rfl
  (refine vw_go rfl ?_; simp only [go_sem, setCells, setIn])
  refine vw_seq ?_
  (refine vw_go rfl ?_; simp only [go_sem, setCells, setIn])
  (refine ⟨_, _, call_rd [0] Tryd.func11 (runs_11 p hp) rfl rfl rfl rfl rfl rfl rfl rfl rfl rfl rfl rfl rfl, ?_⟩)
  cases h1 : pathOk p
  · simp only [runH, runX, go_sem, setCells, setIn]
    (refine vw_cond (t := true) rfl (fun _ => ?_) (fun h => nomatch h))
    (refine vw_go rfl ?_; simp only [go_sem, setCells, setIn])
    rw [show walkF l p = -1 from by simp [walkF, h1]]
    exact vw_ret (r_then (e_ret (ret_of rfl rfl (by simp [RB]) rfl rfl)))
  simp only [runH, runX, go_sem, setCells, setIn]
  (refine ⟨_, _, call_rx [0] Tryd.func21 (runs_21 l hl63 hsz) rfl rfl rfl rfl rfl rfl rfl (by simp [lendAll, lendC, seek, fresh, nav, rcells, RT.cells, VV.cells, tabE_cons, tabS_cons, ev, take_map_len, sRow_r1, sRow_comp, sRow_clean, nRow_r1, nRow_comp, nRow_clean]) rfl (by simp [rcells, RT.cells, CT.clean, T.clean, sRow_r1, sRow_comp, sRow_clean, nRow_r1, nRow_comp, nRow_clean]) rfl rfl, ?_⟩)
  cases h2 : volOk l
  · simp only [runH, runX, go_sem, setCells, setIn]
    (refine vw_cond (t := true) rfl (fun _ => ?_) (fun h => nomatch h))
    (refine vw_go rfl ?_; simp only [go_sem, setCells, setIn])
    rw [show walkF l p = -1 from by simp [walkF, h2]]
    exact vw_ret (r_then (e_ret (ret_of rfl rfl (by simp [RB]) rfl rfl)))
  have hl := volOk_len h2
  have rW := runs_35 l hl hsz p hp
  rw [show walkF l p = walkG l (namesZ p) 0 from by rw [walkF, if_pos ⟨h1, h2⟩]]
  simp only [runH, runX, go_sem, setCells, setIn]
  (refine vw_cond (t := false) rfl (fun h => nomatch h) (fun _ => ?_))
  refine vw_skip (n_then ?_)
  (refine vw_go rfl ?_; simp only [go_sem, setCells, setIn])
  (refine ⟨_, _, call_rx [0, 0] Tryd.func35 (rW) rfl rfl rfl rfl rfl rfl rfl (by simp [lendAll, lendC, seek, fresh, nav, rcells, RT.cells, VV.cells, tabE_cons, tabS_cons, ev, take_map_len, sRow_r1, sRow_comp, sRow_clean, nRow_r1, nRow_comp, nRow_clean]) rfl (by simp [rcells, RT.cells, CT.clean, T.clean, sRow_r1, sRow_comp, sRow_clean, nRow_r1, nRow_comp, nRow_clean]) rfl rfl, ?_⟩)
  simp only [runH, runX, go_sem, setCells, setIn]
  exact vw_ret (e_ret (ret_of rfl rfl (by simp [RB]) rfl rfl))

theorem runs_13 (l : List ByteArray) (hl63 : l.length < 2 ^ 60) (hsz : ∀ s ∈ l, s.size ≤ 2 ^ 20) (p : ByteArray) (hp : p.size ≤ 2 ^ 20) :
    Runs Tryd.prog 13 [.one (.v (.list false 1 (l.map sRow))), .one (.v (.str p))] [.one (.v (.int .i64 (walkF l p)))] [] := by
  refine runs_tab (tab := [(0, .c (.list false 1 (l.map sRow))), (1, .c (.str p))]) (rts := []) (n := 38) (k := 2) Tryd.func13 rfl rfl (by simp) rfl (fun t => ?_) rfl ?_
  · rcases t with _ | _ | t <;> rfl
  (refine vw_go rfl ?_; simp only [go_sem, setCells, setIn])
  refine vw_seq ?_
  (refine vw_go rfl ?_; simp only [go_sem, setCells, setIn])
  (refine ⟨_, _, call_rd [0] Tryd.func10 (runs_10 p hp) rfl rfl rfl rfl rfl rfl rfl rfl rfl rfl rfl rfl rfl, ?_⟩)
  cases h1 : pathOk p
  · simp only [runH, runX, go_sem, setCells, setIn]
    (refine vw_cond (t := true) rfl (fun _ => ?_) (fun h => nomatch h))
    (refine vw_go rfl ?_; simp only [go_sem, setCells, setIn])
    rw [show walkF l p = -1 from by simp [walkF, h1]]
    exact vw_ret (r_then (e_ret (ret_of rfl rfl (by simp [RB]) rfl rfl)))
  simp only [runH, runX, go_sem, setCells, setIn]
  (refine ⟨_, _, call_rx [0] Tryd.func33 (runs_33 l hl63 hsz) rfl rfl rfl rfl rfl rfl rfl (by simp [lendAll, lendC, seek, fresh, nav, rcells, RT.cells, VV.cells, tabE_cons, tabS_cons, ev, take_map_len, sRow_r1, sRow_comp, sRow_clean, nRow_r1, nRow_comp, nRow_clean]) rfl (by simp [rcells, RT.cells, CT.clean, T.clean, sRow_r1, sRow_comp, sRow_clean, nRow_r1, nRow_comp, nRow_clean]) rfl rfl, ?_⟩)
  cases h2 : volOk l
  · simp only [runH, runX, go_sem, setCells, setIn]
    (refine vw_cond (t := true) rfl (fun _ => ?_) (fun h => nomatch h))
    (refine vw_go rfl ?_; simp only [go_sem, setCells, setIn])
    rw [show walkF l p = -1 from by simp [walkF, h2]]
    exact vw_ret (r_then (e_ret (ret_of rfl rfl (by simp [RB]) rfl rfl)))
  have hl := volOk_len h2
  rw [show walkF l p = walkG l (namesZ p) 0 from by rw [walkF, if_pos ⟨h1, h2⟩]]
  simp only [runH, runX, go_sem, setCells, setIn]
  (refine vw_cond (t := false) rfl (fun h => nomatch h) (fun _ => ?_))
  refine vw_skip (n_then ?_)
  have rN := runs_6 p hp
  rw [stepsF_ok h1] at rN
  have hle := namesZ_le p
  generalize namesZ p = st at rN hle ⊢
  have bs : List.take st.length (st.map sRow) = st.map sRow := List.take_of_length_le (by simp)
  (refine vw_go rfl ?_; simp only [go_sem, setCells, setIn])
  refine vw_seq ?_
  (refine vw_go rfl ?_; simp only [go_sem, setCells, setIn])
  (refine ⟨_, _, call_rx [0] Tryd.func6 (rN) rfl rfl rfl rfl rfl rfl rfl (by simp [lendAll, lendC, seek, fresh, nav, rcells, RT.cells, VV.cells, tabE_cons, tabS_cons, ev, take_map_len, sRow_r1, sRow_clean]) rfl (by simp [rcells, RT.cells, CT.clean, T.clean, sRow_r1, sRow_clean]) rfl rfl, ?_⟩)
  simp only [runH, runX, go_sem, setCells, setIn]
  refine vw_block ?_
  refine vw_loop_tab (α := Nat × Nat) (fun x => st.length - x.1) (fun x => ⟨tabE [(0, .c (.list false 1 (l.map sRow))), (5, .c (.int .i64 x.2)), (19, .al 2 [] 0 1 0 st.length), (20, .c (.int .i64 st.length)), (21, .c (.int .i64 x.1))], tabS [(2, some ⟨false, 1, st.map sRow, []⟩)], 3⟩)
    (fun x => x.1 ≤ st.length ∧ walkG l (st.drop x.1) x.2 = walkG l st 0 ∧ x.2 < 12) (x := (0, 0)) ?round ?h0 ?hn
  case h0 => exact ⟨Nat.zero_le _, rfl, by decide⟩
  case hn =>

    (refine norm_to [(197634, 2)] rfl ?_ ?_ <;> simp only [go_sem])
  rintro ⟨i, k⟩ ⟨hi, hg, hk⟩
  simp only at hi hg hk
  by_cases hc : (i : Int) < st.length
  case neg =>
    rw [List.drop_eq_nil_of_le (by omega), walkG] at hg
    rw [← hg]
    (refine vw_go rfl ?_; simp only [hc, go_sem, setCells, setIn])
    refine vw_seq ?_
    (refine vw_cond (t := false) rfl (fun h => nomatch h) (fun _ => ?_))
    refine vw_exit (x_then (x_then (x_block (n_then ?_))))
    (refine vw_go rfl ?_; simp only [go_sem, setCells, setIn])
    exact vw_ret (e_ret (ret_of rfl rfl (by simp [RB]) rfl rfl))
  have hin : i < st.length := by omega
  obtain ⟨s, hs⟩ : ∃ s, st[i]? = some s := ⟨_, List.getElem?_eq_getElem hin⟩
  have hds : st.drop i = s :: st.drop (i + 1) := by
    rw [List.drop_eq_getElem_cons hin]
    congr 1
    rw [List.getElem?_eq_getElem hin] at hs
    exact Option.some.inj hs
  obtain ⟨t, ht⟩ : ∃ t, l[k]? = some t := ⟨_, List.getElem?_eq_getElem (by omega)⟩
  rw [hds, walkG, Int.toNat_natCast, getD_of ht] at hg
  have rR := runs_22 l hl63 hsz k _ rfl
  rw [nodeAt_in hl hk, getD_of ht] at rR
  have hlen := nodeRead_len t
  have hkr := nodeRead_kids t
  generalize nodeRead t = r at rR hg hlen hkr
  obtain ⟨n, ok⟩ := r
  simp only at rR hg hlen hkr
  have rK := runs_23 n hlen.2 (by omega) s
  have hin2 := kidF_in n s
  generalize kidF n s = y at rK hg hin2
  have d0 : (0:Int) ≤ (i : Int) := by omega
  have w3 : IntKind.wrap .i64 ((i:Int) + 1) = ((i + 1 : Nat) : Int) := by rw [wrap_i64 (by omega) (by omega)]; rfl
  have bn : List.take n.names.length (n.names.map sRow) = n.names.map sRow := List.take_of_length_le (by simp)
  have bk : List.take n.kids.length (n.kids.map nRow) = n.kids.map nRow := List.take_of_length_le (by simp)
  (refine vw_go rfl ?_; simp only [hc, go_sem, setCells, setIn])
  refine vw_seq ?_
  (refine vw_cond (t := true) rfl (fun _ => ?_) (fun h => nomatch h))
  refine vw_skip (n_then ?_)
  refine vw_seq ?_
  refine vw_block ?_
  (refine vw_go rfl ?_; simp only [d0, hc, hin, Int.toNat_natCast, getD_map_of hs, sRow, go_sem, setCells, setIn])
  (refine vw_go rfl ?_; simp only [go_sem, setCells, setIn])
  (refine ⟨_, _, call_rx [0, 0] Tryd.func22 (rR) rfl rfl rfl rfl rfl rfl rfl (by simp [lendAll, lendC, seek, fresh, nav, rcells, RT.cells, VV.cells, tabE_cons, tabS_cons, ev, take_map_len, sRow_r1, sRow_comp, sRow_clean, nRow_r1, nRow_comp, nRow_clean]) rfl (by simp [rcells, RT.cells, CT.clean, T.clean, sRow_r1, sRow_comp, sRow_clean, nRow_r1, nRow_comp, nRow_clean]) rfl rfl, ?_⟩)
  simp only [runH, runX, bn, bk, go_sem, setCells, setIn]
  (refine vw_go rfl ?_; simp only [List.drop_length, bn, bk, go_sem, setCells, setIn])
  (refine ⟨_, _, call_rx [0, 0] Tryd.func23 (rK) rfl rfl rfl rfl rfl rfl rfl (by simp [lendAll, lendC, seek, fresh, nav, rcells, RT.cells, VV.cells, tabE_cons, tabS_cons, ev, take_map_len, sRow_r1, sRow_comp, sRow_clean, nRow_r1, nRow_comp, nRow_clean, bn, bk]) rfl (by simp [rcells, RT.cells, CT.clean, T.clean, sRow_r1, sRow_comp, sRow_clean, nRow_r1, nRow_comp, nRow_clean, bn, bk]) rfl rfl, ?_⟩)
  simp only [runH, runX, bn, bk, go_sem, setCells, setIn]
  rcases hin2 with rfl | hy
  · rw [if_pos (by decide)] at hg
    rw [← hg]
    (refine vw_go rfl ?_; simp only [go_sem, setCells, setIn])
    (refine vw_cond (t := true) rfl (fun _ => ?_) (fun h => nomatch h))
    (refine vw_go rfl ?_; simp only [go_sem, setCells, setIn])
    exact vw_ret (r_block (r_then (r_then (r_block (r_then (e_ret (ret_of rfl rfl (by simp [RB]) rfl rfl)))))))
  obtain ⟨y1, y2⟩ := hkr y hy
  have g0 : ¬ y < 0 := by omega
  rw [if_neg g0] at hg
  obtain ⟨y, rfl⟩ : ∃ m : Nat, y = m := ⟨y.toNat, by omega⟩
  (refine vw_go rfl ?_; simp only [g0, go_sem, setCells, setIn])
  (refine vw_cond (t := false) rfl (fun h => nomatch h) (fun _ => ?_))
  refine vw_skip (n_block (n_then ?_))
  (refine vw_last rfl ?_; simp only [w3, go_sem, setCells, setIn])
  refine (n_then ?_)
  refine ⟨(i + 1, y), by simp only; omega, ⟨by simp only; omega, hg, by simp only; omega⟩, ?_⟩
  (refine norm_to [(2, 2)] rfl ?_ ?_ <;> simp only [go_sem])
end Go.Proofs.YtdikikcingempaaDoor
namespace Go.Proofs.YtdikikcingempaaDoor
open Go.VM Go
set_option linter.unusedSimpArgs false
set_option linter.unusedVariables false
/-- What is between i and j of a text, as bytes. -/
theorem cut_bytes (s : ByteArray) (i j : Nat) : (s.extract i j).data.toList = (s.data.toList.take j).drop i := by
  rw [ByteArray.data_extract, Array.toList_extract, List.extract_eq_take_drop, List.drop_take]
theorem cut_join (s : ByteArray) {fr i : Nat} (h : fr ≤ i) (hi : i < s.size) (h47 : s.data.toList.getD i 0 = 47) : s.extract fr i ++ ⟨#[47]⟩ ++ s.extract (i + 1) s.size = s.extract fr s.size := by
  refine ba_eq ?_
  rw [add_bytes, add_bytes, cut_bytes, cut_bytes, cut_bytes]
  have hl : s.data.toList.length = s.size := bs_len s
  have e : s.data.toList.take s.size = s.data.toList := List.take_of_length_le (by omega)
  rw [e]
  obtain ⟨b, hb⟩ : ∃ b, s.data.toList[i]? = some b := ⟨_, List.getElem?_eq_getElem (by omega)⟩
  rw [getD_of hb] at h47
  subst h47
  have e2 : s.data.toList.drop fr = (s.data.toList.drop fr).take (i - fr) ++ (s.data.toList.drop fr).drop (i - fr) := (List.take_append_drop _ _).symm
  rw [e2, List.drop_drop, show fr + (i - fr) = i from by omega, drop_of hb, List.drop_take, List.append_assoc]
  rfl
def jn : ByteArray → List ByteArray → ByteArray
  | acc, [] => acc
  | acc, x :: xs => jn (acc ++ ⟨#[47]⟩ ++ x) xs
def joinF : List ByteArray → ByteArray
  | [] => ⟨#[]⟩
  | x :: xs => jn x xs
theorem app_assoc (a b c : ByteArray) : a ++ b ++ c = a ++ (b ++ c) := ba_eq (by rw [add_bytes, add_bytes, add_bytes, add_bytes, List.append_assoc])
theorem nil_app (a : ByteArray) : ⟨#[]⟩ ++ a = a := ba_eq (by rw [add_bytes]; rfl)
theorem pcs_join (s : ByteArray) : ∀ (n fr i : Nat) (acc : ByteArray), fr ≤ i → i + n = s.size → ∃ p ps, pcs 47 s n fr i = p :: ps ∧ jn (acc ++ p) ps = acc ++ s.extract fr s.size
  | 0, fr, i, acc, h, hi => by
    obtain rfl : i = s.size := by omega
    exact ⟨_, _, rfl, rfl⟩
  | n + 1, fr, i, acc, h, hi => by
    rw [pcs]
    split
    · rename_i h47
      obtain ⟨p, ps, e, ej⟩ := pcs_join s n (i + 1) (i + 1) (acc ++ s.extract fr i ++ ⟨#[47]⟩) (Nat.le_refl _) (by omega)
      refine ⟨_, _, rfl, ?_⟩
      rw [e, jn, ej, app_assoc (acc ++ s.extract fr i), app_assoc acc, ← app_assoc (s.extract fr i), cut_join s h (by omega) h47]
    · exact pcs_join s n fr (i + 1) acc (by omega) (by omega)
theorem names_join (s : ByteArray) : joinF (names s) = s := by
  obtain ⟨p, ps, e, ej⟩ := pcs_join s s.size 0 0 ⟨#[]⟩ (Nat.le_refl _) (by omega)
  unfold names
  rw [e, joinF]
  rw [nil_app, nil_app] at ej
  rw [ej]
  refine ba_eq ?_
  rw [cut_bytes, List.drop_zero, List.take_of_length_le (by rw [bs_len]; omega)]
theorem steps_join {s : ByteArray} (h : 0 < (stepsF s).length) : joinF (stepsF s) = s := by
  unfold stepsF at h ⊢
  split at h
  · rename_i hp
    rw [if_pos hp]
    unfold namesZ at h ⊢
    split at h
    · cases h
    · rename_i hz; rw [if_neg hz]; exact names_join s
  · cases h

/-! ### what is split -/
theorem pcs_none (s : ByteArray) : ∀ (n fr i : Nat), i + n = s.size → (∀ j, i ≤ j → j < s.size → ¬ s.data.toList.getD j 0 = 47) → pcs 47 s n fr i = [s.extract fr s.size]
  | 0, fr, i, hi, _ => by obtain rfl : i = s.size := by omega
                          rfl
  | n + 1, fr, i, hi, h => by
    rw [pcs, if_neg (h i (Nat.le_refl _) (by omega))]
    exact pcs_none s n fr (i + 1) (by omega) (fun j h1 h2 => h j (by omega) h2)
theorem head_getD (s : ByteArray) {k i : Nat} (h : i < k) (hk : k ≤ s.size) : (s.extract 0 k).data.toList.getD i 0 = s.data.toList.getD i 0 := by
  rw [head_bytes, List.getD_eq_getElem?_getD, List.getD_eq_getElem?_getD, List.getElem?_take_of_lt h]
theorem head_cut (s : ByteArray) {k fr i : Nat} (h : i ≤ k) : (s.extract 0 k).extract fr i = s.extract fr i := by
  refine ba_eq ?_
  rw [cut_bytes, cut_bytes, cut_bytes, List.drop_zero, List.take_take, Nat.min_eq_left h]
theorem pcs_cut (s : ByteArray) (k : Nat) (hk : k < s.size) (h47 : s.data.toList.getD k 0 = 47) : ∀ (m fr i : Nat), i + m = k → pcs 47 s (s.size - i) fr i = pcs 47 (s.extract 0 k) m fr i ++ pcs 47 s (s.size - (k + 1)) (k + 1) (k + 1)
  | 0, fr, i, hi => by
    obtain rfl : i = k := by omega
    rw [pcs_hit hk h47, pcs, head_cut s (Nat.le_refl _)]
    rfl
  | m + 1, fr, i, hi => by
    rw [pcs, head_getD s (by omega) (by omega)]
    split
    · rename_i h
      rw [pcs_hit (by omega) h, pcs_cut s k hk h47 m (i + 1) (i + 1) (by omega), head_cut s (by omega)]
      rfl
    · rename_i h
      rw [pcs_miss (by omega) h]
      exact pcs_cut s k hk h47 m fr (i + 1) (by omega)
theorem lastCut_none {l : List UInt8} : ∀ n, lastCut l n = 0 → ∀ j, j < n → ¬ l.getD j 0 = 47
  | 0, _, j, hj => absurd hj (Nat.not_lt_zero _)
  | n + 1, h, j, hj => by
    rw [lastCut] at h
    split at h
    · cases h
    · rename_i h1
      by_cases e : j = n
      · rw [e]; exact h1
      · exact lastCut_none n h j (by omega)
theorem lastCut_some {l : List UInt8} {k : Nat} : ∀ n, lastCut l n = k + 1 → k < n ∧ l.getD k 0 = 47 ∧ ∀ j, k < j → j < n → ¬ l.getD j 0 = 47
  | 0, h => nomatch h
  | n + 1, h => by
    rw [lastCut] at h
    split at h
    · rename_i h1
      obtain rfl : n = k := by omega
      exact ⟨by omega, h1, fun j h2 h3 => absurd h2 (by omega)⟩
    · rename_i h1
      obtain ⟨a, b, c⟩ := lastCut_some n h
      refine ⟨by omega, b, fun j h2 h3 => ?_⟩
      by_cases e : j = n
      · rw [e]; exact h1
      · exact c j h2 (by omega)
theorem extract_size {s : ByteArray} {i j : Nat} (h : j ≤ s.size) : (s.extract i j).size = j - i := by
  rw [ByteArray.size_extract]; omega
theorem nameOk_nil : nameOk ⟨#[]⟩ = false := by decide
/-- What is split well is its names, and the last of them. -/
theorem split_names {s : ByteArray} (h : (splitF s).2.2 = true) : pathOk s = true ∧ namesZ s = namesZ (splitF s).1 ++ [(splitF s).2.1] ∧ pathOk (splitF s).1 = true ∧ underB s (splitF s).1 = true := by
  have h0 : ¬ s = ⟨#[]⟩ := fun e => by rw [splitF_nil e] at h; cases h
  have h1 : pathOk s = true := by
    cases hp : pathOk s
    · rw [splitF_bad hp] at h; cases h
    · rfl
  have hz : namesZ s = names s := by unfold namesZ; rw [if_neg h0]
  have hall : pathOk s = true → ∀ st : List ByteArray, (∃ x, namesZ s = st ++ x) → (st.all nameOk && decide ((st.length : Int) ≤ 4)) = true := by
    intro hp st hx
    obtain ⟨x, hx⟩ := hx
    unfold pathOk at hp
    rw [hx] at hp
    simp only [Bool.and_eq_true, decide_eq_true_eq, List.all_append, List.length_append] at hp ⊢
    exact ⟨hp.1.1, by omega⟩
  have hE : pathOk ⟨#[]⟩ = true := by decide
  cases hc : lastCut s.data.toList s.size with
  | zero =>
    rw [splitF_top h0 h1 hc]
    have hn : names s = [s] := by
      unfold names
      rw [pcs_none s s.size 0 0 (by omega) (fun j _ h2 => lastCut_none s.size hc j h2)]
      congr 1
      refine ba_eq ?_
      rw [cut_bytes, List.drop_zero, List.take_of_length_le (by rw [bs_len]; omega)]
    refine ⟨h1, ?_, hE, ?_⟩
    · rw [hz, hn]; rfl
    · unfold underB; rw [h1, hE]; rfl
  | succ k =>
    obtain ⟨k1, k2, k3⟩ := lastCut_some s.size hc
    rw [splitF_cut h0 h1 hc]
    have hn : names s = names (s.extract 0 k) ++ [s.extract (k + 1) s.size] := by
      have e1 : (s.extract 0 k).size = k := by rw [extract_size (by omega), Nat.sub_zero]
      have e := pcs_cut s k k1 k2 k 0 0 (by omega)
      rw [Nat.sub_zero] at e
      unfold names
      rw [e, e1, pcs_none s (s.size - (k + 1)) (k + 1) (k + 1) (by omega) (fun j h2 h3 => k3 j (by omega) h3)]
    have hk : ¬ s.extract 0 k = ⟨#[]⟩ := by
      intro e
      have := h1
      unfold pathOk at this
      rw [hz, hn, e] at this
      have e2 : names ⟨#[]⟩ = [⟨#[]⟩] := rfl
      rw [e2] at this
      simp only [List.cons_append, List.nil_append, List.all_cons, nameOk_nil, Bool.false_and] at this
      cases this
    have hu : namesZ (s.extract 0 k) = names (s.extract 0 k) := by unfold namesZ; rw [if_neg hk]
    have hup : pathOk (s.extract 0 k) = true := by
      unfold pathOk
      exact hall h1 _ ⟨[s.extract (k + 1) s.size], by rw [hz, hn, hu]⟩
    refine ⟨h1, by rw [hz, hn, hu], hup, ?_⟩
    have e1 : (s.extract 0 k).size = k := by rw [extract_size (by omega), Nat.sub_zero]
    unfold underB preB
    rw [h1, hup, e1, k2]
    have : (k : Int) < s.size := by omega
    simp [this]
def stepW (l : List ByteArray) (x : ByteArray) (j : Int) : Int := if j < 0 then -1 else kidF (nodeRead (l.getD j.toNat ⟨#[]⟩)).1 x
theorem walkG_nil (l : List ByteArray) (k : Int) : walkG l [] k = k := by unfold walkG; rfl
theorem walkG_cons (l : List ByteArray) (s : ByteArray) (st : List ByteArray) (k : Int) : walkG l (s :: st) k = if kidF (nodeRead (l.getD k.toNat ⟨#[]⟩)).1 s < 0 then -1 else walkG l st (kidF (nodeRead (l.getD k.toNat ⟨#[]⟩)).1 s) := by rw [walkG]
theorem walkG_snoc (l : List ByteArray) (x : ByteArray) : ∀ (st : List ByteArray) (k : Int), 0 ≤ k → k ≤ 11 → walkG l (st ++ [x]) k = stepW l x (walkG l st k)
  | [], k, h0, h1 => by
    rw [List.nil_append, walkG_cons, walkG_nil, walkG_nil, stepW, if_neg (show ¬ k < 0 by omega)]
    rcases kidF_in (nodeRead (l.getD k.toNat ⟨#[]⟩)).1 x with h | h
    · rw [h]; rfl
    · have := nodeRead_kids _ _ h
      rw [if_neg (by omega)]
  | s :: st, k, h0, h1 => by
    rw [List.cons_append, walkG_cons, walkG_cons]
    rcases kidF_in (nodeRead (l.getD k.toNat ⟨#[]⟩)).1 s with h | h
    · rw [h]; rfl
    · have := nodeRead_kids _ _ h
      have hn : ¬ kidF (nodeRead (l.getD k.toNat ⟨#[]⟩)).1 s < 0 := by omega
      rw [if_neg hn, if_neg hn]
      exact walkG_snoc l x st _ (by omega) (by omega)
end Go.Proofs.YtdikikcingempaaDoor
