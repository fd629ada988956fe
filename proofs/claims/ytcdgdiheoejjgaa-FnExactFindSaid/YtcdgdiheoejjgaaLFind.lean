import Derived.Test.YtcdgdiheoejjgaaFFind
namespace Go.Proofs.Ytcdgdiheoejjgaa
open Go.VM
set_option maxRecDepth 100000
set_option linter.unusedSimpArgs false
set_option linter.unusedVariables false

attribute [local congr] vw_congr runV_congr runH_congr runW_congr runX_congr

theorem szIS_len {l : List It3} {left : Int} (h : ¬ szIS l left < 0) : (l.length : Int) ≤ left := by
  unfold szIS at h
  split at h
  · exact absurd (by decide) h
  · omega

def It3.ok (x : It3) : Prop := x.1.size < 2 ^ 63 ∧ x.2.2.size < 2 ^ 63

theorem runs_4 (l : List It3) (q : ByteArray) (hb : ∀ x ∈ l, x.1.size < 2 ^ 63 ∧ x.2.2.size < 2 ^ 63) (hl : l.length < 2 ^ 63) :
    Runs Try.prog 4 [.one (.v (.list false 3 (l.map iRow))), .one (.v (.str q))] [.one (.v (.bool true))] [] := by
  refine runs_tab (tab := [(0, .c (.list false 3 (l.map iRow))), (1, .c (.str q))]) (rts := []) (n := 34) (k := 2) Try.func4 rfl rfl (by simp) rfl (fun t => ?_) rfl ?_
  · rcases t with _ | _ | t <;> rfl
  (refine vw_go rfl ?_; simp only [go_sem, setCells, setIn, ↓reduceIte, Nat.reduceEqDiff, Nat.reduceAdd, Nat.reduceMul, Nat.reduceLT, Nat.reduceLeDiff, Nat.reduceBEq, reduceCtorEq])
  refine vw_seq ?_
  (refine vw_go rfl ?_; simp only [go_sem, setCells, setIn, ↓reduceIte, Nat.reduceEqDiff, Nat.reduceAdd, Nat.reduceMul, Nat.reduceLT, Nat.reduceLeDiff, Nat.reduceBEq, reduceCtorEq])
  refine vw_cond (t := decide ((1048576:Int) < q.size)) rfl (fun h => ?_) (fun h => ?_)
  · (refine vw_go rfl ?_; simp only [go_sem, setCells, setIn, ↓reduceIte, Nat.reduceEqDiff, Nat.reduceAdd, Nat.reduceMul, Nat.reduceLT, Nat.reduceLeDiff, Nat.reduceBEq, reduceCtorEq])
    exact vw_ret (r_then (e_ret (ret_of rfl rfl (by simp [RB]) rfl rfl)))
  refine vw_skip (n_then ?_)
  (refine vw_go rfl ?_; simp only [go_sem, setCells, setIn, ↓reduceIte, Nat.reduceEqDiff, Nat.reduceAdd, Nat.reduceMul, Nat.reduceLT, Nat.reduceLeDiff, Nat.reduceBEq, reduceCtorEq])
  (refine vw_go rfl ?_; simp only [go_sem, setCells, setIn, ↓reduceIte, Nat.reduceEqDiff, Nat.reduceAdd, Nat.reduceMul, Nat.reduceLT, Nat.reduceLeDiff, Nat.reduceBEq, reduceCtorEq])
  (refine ⟨_, _, call_rx [0, 0] Try.func17 (runs_17 l 1048576 hb hl (by decide) (by decide)) rfl rfl rfl rfl rfl rfl rfl (by simp [lendAll, lendC, seek, fresh, nav, rcells, RT.cells, VV.cells, tabE_cons, tabS_cons, ev, take_map_len, iRow_r1, iRow_clean]) rfl (by simp [rcells, RT.cells, CT.clean, T.clean, iRow_r1, iRow_clean]) rfl rfl, ?_⟩)
  simp only [go_sem, setCells, setIn, ↓reduceIte, Nat.reduceEqDiff, Nat.reduceAdd, Nat.reduceMul, Nat.reduceLT, Nat.reduceLeDiff, Nat.reduceBEq, reduceCtorEq]
  refine vw_seq ?_
  (refine vw_go rfl ?_; simp only [go_sem, setCells, setIn, ↓reduceIte, Nat.reduceEqDiff, Nat.reduceAdd, Nat.reduceMul, Nat.reduceLT, Nat.reduceLeDiff, Nat.reduceBEq, reduceCtorEq])
  refine vw_cond (t := decide (szIS l 1048576 < 0)) rfl (fun h => ?_) (fun h => ?_)
  · (refine vw_go rfl ?_; simp only [go_sem, setCells, setIn, ↓reduceIte, Nat.reduceEqDiff, Nat.reduceAdd, Nat.reduceMul, Nat.reduceLT, Nat.reduceLeDiff, Nat.reduceBEq, reduceCtorEq])
    exact vw_ret (r_then (e_ret (ret_of rfl rfl (by simp [RB]) rfl rfl)))
  refine vw_skip (n_then ?_)
  have hlen := szIS_len (by simpa using h)
  have hl2 : l.length ≤ 2 ^ 20 := by omega
  (refine vw_go rfl ?_; simp only [go_sem, setCells, setIn, ↓reduceIte, Nat.reduceEqDiff, Nat.reduceAdd, Nat.reduceMul, Nat.reduceLT, Nat.reduceLeDiff, Nat.reduceBEq, reduceCtorEq])
  (refine ⟨_, _, call_rx [0] Try.func19 (runs_19 l hl2) rfl rfl rfl rfl rfl rfl rfl (by simp [lendAll, lendC, seek, fresh, nav, rcells, RT.cells, VV.cells, tabE_cons, tabS_cons, ev, take_map_len, iRow_r1, iRow_clean]) rfl (by simp [rcells, RT.cells, CT.clean, T.clean, iRow_r1, iRow_clean]) rfl rfl, ?_⟩)
  simp only [go_sem, setCells, setIn, ↓reduceIte, Nat.reduceEqDiff, Nat.reduceAdd, Nat.reduceMul, Nat.reduceLT, Nat.reduceLeDiff, Nat.reduceBEq, reduceCtorEq]
  (refine ⟨_, _, call_rx [0, 0] Try.func18 (runs_18 l q hl) rfl rfl rfl rfl rfl rfl rfl (by simp [lendAll, lendC, seek, fresh, nav, rcells, RT.cells, VV.cells, tabE_cons, tabS_cons, ev, take_map_len, iRow_r1, iRow_clean]) rfl (by simp [rcells, RT.cells, CT.clean, T.clean, iRow_r1, iRow_clean]) rfl rfl, ?_⟩)
  simp only [go_sem, setCells, setIn, ↓reduceIte, Nat.reduceEqDiff, Nat.reduceAdd, Nat.reduceMul, Nat.reduceLT, Nat.reduceLeDiff, Nat.reduceBEq, reduceCtorEq]
  (refine vw_go rfl ?_; simp only [go_sem, setCells, setIn, ↓reduceIte, Nat.reduceEqDiff, Nat.reduceAdd, Nat.reduceMul, Nat.reduceLT, Nat.reduceLeDiff, Nat.reduceBEq, reduceCtorEq])
  (refine ⟨_, _, call_rx [0] Try.func19 (runs_19 l hl2) rfl rfl rfl rfl rfl rfl rfl (by simp [lendAll, lendC, seek, fresh, nav, rcells, RT.cells, VV.cells, tabE_cons, tabS_cons, ev, take_map_len, iRow_r1, iRow_clean]) rfl (by simp [rcells, RT.cells, CT.clean, T.clean, iRow_r1, iRow_clean]) rfl rfl, ?_⟩)
  simp only [go_sem, setCells, setIn, ↓reduceIte, Nat.reduceEqDiff, Nat.reduceAdd, Nat.reduceMul, Nat.reduceLT, Nat.reduceLeDiff, Nat.reduceBEq, reduceCtorEq]
  (refine vw_go rfl ?_; simp only [go_sem, setCells, setIn, ↓reduceIte, Nat.reduceEqDiff, Nat.reduceAdd, Nat.reduceMul, Nat.reduceLT, Nat.reduceLeDiff, Nat.reduceBEq, reduceCtorEq])
  (refine ⟨_, _, call_rx [0, 0] Try.func20 (runs_20 l q hl) rfl rfl rfl rfl rfl rfl rfl (by simp [lendAll, lendC, seek, fresh, nav, rcells, RT.cells, VV.cells, tabE_cons, tabS_cons, ev, take_map_len, iRow_r1, iRow_clean]) rfl (by simp [rcells, RT.cells, CT.clean, T.clean, iRow_r1, iRow_clean]) rfl rfl, ?_⟩)
  simp only [go_sem, setCells, setIn, ↓reduceIte, Nat.reduceEqDiff, Nat.reduceAdd, Nat.reduceMul, Nat.reduceLT, Nat.reduceLeDiff, Nat.reduceBEq, reduceCtorEq]
  refine vw_seq ?_
  (refine vw_go rfl ?_; simp only [go_sem, setCells, setIn, ↓reduceIte, Nat.reduceEqDiff, Nat.reduceAdd, Nat.reduceMul, Nat.reduceLT, Nat.reduceLeDiff, Nat.reduceBEq, reduceCtorEq])
  refine vw_cond (t := false) rfl (fun h => ?_) (fun h => ?_)
  · cases h
  refine vw_skip (n_then ?_)
  refine vw_seq ?_
  (refine vw_go rfl ?_; simp only [go_sem, setCells, setIn, ↓reduceIte, Nat.reduceEqDiff, Nat.reduceAdd, Nat.reduceMul, Nat.reduceLT, Nat.reduceLeDiff, Nat.reduceBEq, reduceCtorEq])
  (refine ⟨_, _, call_rx [0] Try.func19 (runs_19 l hl2) rfl rfl rfl rfl rfl rfl rfl (by simp [lendAll, lendC, seek, fresh, nav, rcells, RT.cells, VV.cells, tabE_cons, tabS_cons, ev, take_map_len, iRow_r1, iRow_clean]) rfl (by simp [rcells, RT.cells, CT.clean, T.clean, iRow_r1, iRow_clean]) rfl rfl, ?_⟩)
  simp only [go_sem, setCells, setIn, ↓reduceIte, Nat.reduceEqDiff, Nat.reduceAdd, Nat.reduceMul, Nat.reduceLT, Nat.reduceLeDiff, Nat.reduceBEq, reduceCtorEq]
  (refine ⟨_, _, call_rx [0, 0] Try.func21 (runs_21 l l hl hl) rfl rfl rfl rfl rfl rfl rfl (by simp [lendAll, lendC, seek, fresh, nav, rcells, RT.cells, VV.cells, tabE_cons, tabS_cons, ev, take_map_len, iRow_r1, iRow_clean]) rfl (by simp [rcells, RT.cells, CT.clean, T.clean, iRow_r1, iRow_clean]) rfl rfl, ?_⟩)
  simp only [go_sem, setCells, setIn, ↓reduceIte, Nat.reduceEqDiff, Nat.reduceAdd, Nat.reduceMul, Nat.reduceLT, Nat.reduceLeDiff, Nat.reduceBEq, reduceCtorEq]
  refine vw_cond (t := false) rfl (fun h => ?_) (fun h => ?_)
  · cases h
  refine vw_skip (n_then ?_)
  (refine vw_go rfl ?_; simp only [go_sem, setCells, setIn, ↓reduceIte, Nat.reduceEqDiff, Nat.reduceAdd, Nat.reduceMul, Nat.reduceLT, Nat.reduceLeDiff, Nat.reduceBEq, reduceCtorEq])
  exact vw_ret (e_ret (ret_of rfl rfl (by simp [RB]) rfl rfl))
end Go.Proofs.Ytcdgdiheoejjgaa
