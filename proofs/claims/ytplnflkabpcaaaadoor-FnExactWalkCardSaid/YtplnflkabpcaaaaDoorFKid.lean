/- Nodes: which number a name has, of the reference. -/
import Derived.Test.YtplnflkabpcaaaaDoorFNodeAt
namespace Go.Proofs.YtplnflkabpcaaaaDoor
open Go.VM Go
set_option maxRecDepth 100000
set_option linter.unusedSimpArgs false
set_option linter.unusedVariables false
attribute [local congr] vw_congr runV_congr runH_congr runW_congr runX_congr

def kidIx : List ByteArray → List Int → ByteArray → Nat → Int
  | a :: xs, _ :: ys, s, i => if a = s then (i : Int) else kidIx xs ys s (i + 1)
  | _, _, _, _ => -1
def kidF (n : NodeV) (s : ByteArray) : Int := if kidIx n.names n.kids s 0 < 0 then -1 else n.kids.getD (kidIx n.names n.kids s 0).toNat 0
theorem kidIx_in : ∀ (xs : List ByteArray) (ys : List Int) (s : ByteArray) (i : Nat), kidIx xs ys s i = -1 ∨ ∃ j : Nat, kidIx xs ys s i = ((i + j : Nat) : Int) ∧ j < ys.length ∧ j < xs.length
  | [], ys, s, i => .inl (by unfold kidIx; rfl)
  | a :: xs, [], s, i => .inl (by unfold kidIx; rfl)
  | a :: xs, b :: ys, s, i => by
    unfold kidIx
    split
    · exact .inr ⟨0, rfl, by simp, by simp⟩
    · rcases kidIx_in xs ys s (i + 1) with h | ⟨j, h1, h2, h3⟩
      · exact .inl h
      · exact .inr ⟨j + 1, by rw [h1]; omega, by simpa using h2, by simpa using h3⟩
theorem kidF_in (n : NodeV) (s : ByteArray) : kidF n s = -1 ∨ kidF n s ∈ n.kids := by
  unfold kidF
  rcases kidIx_in n.names n.kids s 0 with h | ⟨j, h1, h2, _⟩
  · rw [h]; exact .inl rfl
  · rw [h1, Nat.zero_add, if_neg (by omega), Int.toNat_natCast, List.getD_eq_getElem?_getD, List.getElem?_eq_getElem h2]
    exact .inr (List.getElem_mem _)

theorem runs_33 (n : NodeV) (h1 : n.names.length < 2 ^ 60) (h2 : n.kids.length < 2 ^ 60) (s : ByteArray) :
    Runs Tryd.prog 33 [.agg [.v (.bool n.dir), .v (.list false 1 (n.names.map sRow)), .v (.list false 1 (n.kids.map nRow)), .v (.str n.data)], .one (.v (.str s))] [.one (.v (.int .i64 (kidIx n.names n.kids s 0)))] [] := by
  refine runs_tab (tab := [(0, .agg [.c (.bool n.dir), .c (.list false 1 (n.names.map sRow)), .c (.list false 1 (n.kids.map nRow)), .c (.str n.data)]), (1, .c (.str s))]) (rts := []) (n := 28) (k := 5) Tryd.func33 rfl rfl (by simp) rfl (fun t => ?_) rfl ?_
  · rcases t with _ | _ | t <;> rfl
  (refine vw_go rfl ?_; simp only [go_sem, setCells, setIn, Int.reduceToNat, Int.reduceEq, Int.reduceLT, Int.reduceLE, Int.reduceNeg, Int.reduceSub, Int.reduceAdd, ge_iff_le, gt_iff_lt, ↓reduceIte, Nat.reduceEqDiff, Nat.reduceAdd, Nat.reduceMul, Nat.reduceLT, Nat.reduceLeDiff, Nat.reduceBEq, reduceCtorEq])
  refine vw_seq ?_
  (refine vw_go rfl ?_; simp only [go_sem, setCells, setIn, Int.reduceToNat, Int.reduceEq, Int.reduceLT, Int.reduceLE, Int.reduceNeg, Int.reduceSub, Int.reduceAdd, ge_iff_le, gt_iff_lt, ↓reduceIte, Nat.reduceEqDiff, Nat.reduceAdd, Nat.reduceMul, Nat.reduceLT, Nat.reduceLeDiff, Nat.reduceBEq, reduceCtorEq])
  refine vw_block ?_
  refine vw_loop_tab (α := Nat) (fun x => n.names.length - x) (fun x => ⟨tabE [(1, .c (.str s)), (2, .ptr 5 [] 0 0 0), (5, .c (.int .i64 x))], tabS [(5, some ⟨true, 4, [[.bool n.dir, .list false 1 (n.names.map sRow), .list false 1 (n.kids.map nRow), .str n.data]], []⟩)], 6⟩)
    (fun x => x ≤ n.names.length ∧ kidIx (n.names.drop x) (n.kids.drop x) s x = kidIx n.names n.kids s 0) (x := 0) ?round ?h0 ?hn
  case h0 => exact ⟨Nat.zero_le _, rfl⟩
  case hn => (refine norm_to [(5, 5)] rfl ?_ ?_ <;> simp only [go_sem, Int.reduceToNat, Int.reduceEq, Int.reduceLT, Int.reduceLE, Int.reduceNeg, Int.reduceSub, Int.reduceAdd, ge_iff_le, gt_iff_lt, ↓reduceIte, Nat.reduceEqDiff, Nat.reduceAdd, Nat.reduceMul, Nat.reduceLT, Nat.reduceLeDiff, Nat.reduceBEq, reduceCtorEq])
  rintro i ⟨hi, hg⟩
  refine vw_seq ?_
  by_cases hc : (i : Int) < n.names.length
  case neg =>
    rw [List.drop_eq_nil_of_le (show n.names.length ≤ i by omega)] at hg
    have e : kidIx [] (n.kids.drop i) s i = -1 := by unfold kidIx; rfl
    rw [← hg, e]
    (refine vw_go rfl ?_; simp only [hc, go_sem, setCells, setIn, Int.reduceToNat, Int.reduceEq, Int.reduceLT, Int.reduceLE, Int.reduceNeg, Int.reduceSub, Int.reduceAdd, ge_iff_le, gt_iff_lt, ↓reduceIte, Nat.reduceEqDiff, Nat.reduceAdd, Nat.reduceMul, Nat.reduceLT, Nat.reduceLeDiff, Nat.reduceBEq, reduceCtorEq])
    (refine vw_cond (t := false) rfl (fun h => nomatch h) (fun _ => ?_))
    refine vw_exit (x_then (x_then (x_block (n_then ?_))))
    (refine vw_go rfl ?_; simp only [go_sem, setCells, setIn, Int.reduceToNat, Int.reduceEq, Int.reduceLT, Int.reduceLE, Int.reduceNeg, Int.reduceSub, Int.reduceAdd, ge_iff_le, gt_iff_lt, ↓reduceIte, Nat.reduceEqDiff, Nat.reduceAdd, Nat.reduceMul, Nat.reduceLT, Nat.reduceLeDiff, Nat.reduceBEq, reduceCtorEq])
    exact vw_ret (e_ret (ret_of rfl rfl (by simp [RB]) rfl rfl))
  have hin : i < n.names.length := by omega
  by_cases hk : (i : Int) < n.kids.length
  case neg =>
    rw [List.drop_eq_nil_of_le (show n.kids.length ≤ i by omega), List.drop_eq_getElem_cons hin] at hg
    have e : ∀ a xs, kidIx (a :: xs) [] s i = -1 := fun a xs => by unfold kidIx; rfl
    rw [← hg, e]
    (refine vw_go rfl ?_; simp only [hc, hk, go_sem, setCells, setIn, Int.reduceToNat, Int.reduceEq, Int.reduceLT, Int.reduceLE, Int.reduceNeg, Int.reduceSub, Int.reduceAdd, ge_iff_le, gt_iff_lt, ↓reduceIte, Nat.reduceEqDiff, Nat.reduceAdd, Nat.reduceMul, Nat.reduceLT, Nat.reduceLeDiff, Nat.reduceBEq, reduceCtorEq])
    (refine vw_cond (t := false) rfl (fun h => nomatch h) (fun _ => ?_))
    refine vw_exit (x_then (x_then (x_block (n_then ?_))))
    (refine vw_go rfl ?_; simp only [go_sem, setCells, setIn, Int.reduceToNat, Int.reduceEq, Int.reduceLT, Int.reduceLE, Int.reduceNeg, Int.reduceSub, Int.reduceAdd, ge_iff_le, gt_iff_lt, ↓reduceIte, Nat.reduceEqDiff, Nat.reduceAdd, Nat.reduceMul, Nat.reduceLT, Nat.reduceLeDiff, Nat.reduceBEq, reduceCtorEq])
    exact vw_ret (e_ret (ret_of rfl rfl (by simp [RB]) rfl rfl))
  have hik : i < n.kids.length := by omega
  obtain ⟨a, ha⟩ : ∃ a, n.names[i]? = some a := ⟨_, List.getElem?_eq_getElem hin⟩
  have hda : n.names.drop i = a :: n.names.drop (i + 1) := by
    rw [List.drop_eq_getElem_cons hin]
    congr 1
    rw [List.getElem?_eq_getElem hin] at ha
    exact Option.some.inj ha
  rw [hda, List.drop_eq_getElem_cons hik, kidIx] at hg
  have d0 : (0:Int) ≤ (i : Int) := by omega
  have w3 : IntKind.wrap .i64 ((i:Int) + 1) = ((i + 1 : Nat) : Int) := by rw [wrap_i64 (by omega) (by omega)]; rfl
  (refine vw_go rfl ?_; simp only [hc, hk, go_sem, setCells, setIn, Int.reduceToNat, Int.reduceEq, Int.reduceLT, Int.reduceLE, Int.reduceNeg, Int.reduceSub, Int.reduceAdd, ge_iff_le, gt_iff_lt, ↓reduceIte, Nat.reduceEqDiff, Nat.reduceAdd, Nat.reduceMul, Nat.reduceLT, Nat.reduceLeDiff, Nat.reduceBEq, reduceCtorEq])
  (refine vw_cond (t := true) rfl (fun _ => ?_) (fun h => nomatch h))
  refine vw_skip (n_then ?_)
  refine vw_seq ?_
  refine vw_block ?_
  (refine vw_go rfl ?_; simp only [d0, hc, Int.toNat_natCast, getD_map_of ha, sRow, go_sem, setCells, setIn, Int.reduceToNat, Int.reduceEq, Int.reduceLT, Int.reduceLE, Int.reduceNeg, Int.reduceSub, Int.reduceAdd, ge_iff_le, gt_iff_lt, ↓reduceIte, Nat.reduceEqDiff, Nat.reduceAdd, Nat.reduceMul, Nat.reduceLT, Nat.reduceLeDiff, Nat.reduceBEq, reduceCtorEq])
  by_cases has : a = s
  · rw [if_pos has] at hg
    rw [← hg]
    refine vw_cond (t := true) (by simp [ev, tabE_cons, has]) (fun _ => ?_) (fun h => nomatch h)
    (refine vw_go rfl ?_; simp only [go_sem, setCells, setIn, Int.reduceToNat, Int.reduceEq, Int.reduceLT, Int.reduceLE, Int.reduceNeg, Int.reduceSub, Int.reduceAdd, ge_iff_le, gt_iff_lt, ↓reduceIte, Nat.reduceEqDiff, Nat.reduceAdd, Nat.reduceMul, Nat.reduceLT, Nat.reduceLeDiff, Nat.reduceBEq, reduceCtorEq])
    exact vw_ret (r_block (r_then (r_then (r_block (r_then (e_ret (ret_of rfl rfl (by simp [RB]) rfl rfl)))))))
  · rw [if_neg has] at hg
    refine vw_cond (t := false) (by simp [ev, tabE_cons, has]) (fun h => nomatch h) (fun _ => ?_)
    refine vw_skip (n_block (n_then ?_))
    (refine vw_last rfl ?_; simp only [w3, go_sem, setCells, setIn, Int.reduceToNat, Int.reduceEq, Int.reduceLT, Int.reduceLE, Int.reduceNeg, Int.reduceSub, Int.reduceAdd, ge_iff_le, gt_iff_lt, ↓reduceIte, Nat.reduceEqDiff, Nat.reduceAdd, Nat.reduceMul, Nat.reduceLT, Nat.reduceLeDiff, Nat.reduceBEq, reduceCtorEq])
    refine (n_then ?_)
    refine ⟨i + 1, by omega, ⟨by omega, hg⟩, ?_⟩
    (refine norm_to [(5, 5)] rfl ?_ ?_ <;> simp only [go_sem, Int.reduceToNat, Int.reduceEq, Int.reduceLT, Int.reduceLE, Int.reduceNeg, Int.reduceSub, Int.reduceAdd, ge_iff_le, gt_iff_lt, ↓reduceIte, Nat.reduceEqDiff, Nat.reduceAdd, Nat.reduceMul, Nat.reduceLT, Nat.reduceLeDiff, Nat.reduceBEq, reduceCtorEq])

theorem runs_21 (n : NodeV) (h1 : n.names.length < 2 ^ 60) (h2 : n.kids.length < 2 ^ 60) (s : ByteArray) :
    Runs Tryd.prog 21 [.agg [.v (.bool n.dir), .v (.list false 1 (n.names.map sRow)), .v (.list false 1 (n.kids.map nRow)), .v (.str n.data)], .one (.v (.str s))] [.one (.v (.int .i64 (kidF n s)))] [] := by
  refine runs_tab (tab := [(0, .agg [.c (.bool n.dir), .c (.list false 1 (n.names.map sRow)), .c (.list false 1 (n.kids.map nRow)), .c (.str n.data)]), (1, .c (.str s))]) (rts := []) (n := 16) (k := 5) Tryd.func21 rfl rfl (by simp) rfl (fun t => ?_) rfl ?_
  · rcases t with _ | _ | t <;> rfl
  have rL := runs_33 n h1 h2 s
  have hx := kidIx_in n.names n.kids s 0
  unfold kidF
  generalize kidIx n.names n.kids s 0 = x at rL hx ⊢
  (refine vw_go rfl ?_; simp only [go_sem, setCells, setIn, Int.reduceToNat, Int.reduceEq, Int.reduceLT, Int.reduceLE, Int.reduceNeg, Int.reduceSub, Int.reduceAdd, ge_iff_le, gt_iff_lt, ↓reduceIte, Nat.reduceEqDiff, Nat.reduceAdd, Nat.reduceMul, Nat.reduceLT, Nat.reduceLeDiff, Nat.reduceBEq, reduceCtorEq])
  (refine vw_go rfl ?_; simp only [go_sem, setCells, setIn, Int.reduceToNat, Int.reduceEq, Int.reduceLT, Int.reduceLE, Int.reduceNeg, Int.reduceSub, Int.reduceAdd, ge_iff_le, gt_iff_lt, ↓reduceIte, Nat.reduceEqDiff, Nat.reduceAdd, Nat.reduceMul, Nat.reduceLT, Nat.reduceLeDiff, Nat.reduceBEq, reduceCtorEq])
  (refine ⟨_, _, call_rx [0, 0] Tryd.func33 (rL) rfl rfl rfl rfl rfl rfl rfl (by simp [lendAll, lendC, seek, fresh, nav, rcells, RT.cells, VV.cells, tabE_cons, tabS_cons, ev, take_map_len, sRow_r1, sRow_comp, sRow_clean, nRow_r1, nRow_comp, nRow_clean]) rfl (by simp [rcells, RT.cells, CT.clean, T.clean, sRow_r1, sRow_comp, sRow_clean, nRow_r1, nRow_comp, nRow_clean]) rfl rfl, ?_⟩)
  simp only [runH, runX, go_sem, setCells, setIn, Int.reduceToNat, Int.reduceEq, Int.reduceLT, Int.reduceLE, Int.reduceNeg, Int.reduceSub, Int.reduceAdd, ge_iff_le, gt_iff_lt, ↓reduceIte, Nat.reduceEqDiff, Nat.reduceAdd, Nat.reduceMul, Nat.reduceLT, Nat.reduceLeDiff, Nat.reduceBEq, reduceCtorEq]
  refine vw_seq ?_
  rcases hx with rfl | ⟨j, hj, hjl, _⟩
  · rw [if_pos (by decide)]
    (refine vw_go rfl ?_; simp only [go_sem, setCells, setIn, Int.reduceToNat, Int.reduceEq, Int.reduceLT, Int.reduceLE, Int.reduceNeg, Int.reduceSub, Int.reduceAdd, ge_iff_le, gt_iff_lt, ↓reduceIte, Nat.reduceEqDiff, Nat.reduceAdd, Nat.reduceMul, Nat.reduceLT, Nat.reduceLeDiff, Nat.reduceBEq, reduceCtorEq])
    (refine vw_cond (t := true) rfl (fun _ => ?_) (fun h => nomatch h))
    (refine vw_go rfl ?_; simp only [go_sem, setCells, setIn, Int.reduceToNat, Int.reduceEq, Int.reduceLT, Int.reduceLE, Int.reduceNeg, Int.reduceSub, Int.reduceAdd, ge_iff_le, gt_iff_lt, ↓reduceIte, Nat.reduceEqDiff, Nat.reduceAdd, Nat.reduceMul, Nat.reduceLT, Nat.reduceLeDiff, Nat.reduceBEq, reduceCtorEq])
    exact vw_ret (r_then (e_ret (ret_of rfl rfl (by simp [RB]) rfl rfl)))
  rw [Nat.zero_add] at hj
  subst hj
  have g0 : ¬ (j : Int) < 0 := by omega
  rw [if_neg g0, Int.toNat_natCast]
  obtain ⟨y, hy⟩ : ∃ y, n.kids[j]? = some y := ⟨_, List.getElem?_eq_getElem hjl⟩
  rw [getD_of hy]
  have d0 : (0:Int) ≤ (j : Int) := by omega
  have d1 : (j : Int) < n.kids.length := by omega
  (refine vw_go rfl ?_; simp only [g0, go_sem, setCells, setIn, Int.reduceToNat, Int.reduceEq, Int.reduceLT, Int.reduceLE, Int.reduceNeg, Int.reduceSub, Int.reduceAdd, ge_iff_le, gt_iff_lt, ↓reduceIte, Nat.reduceEqDiff, Nat.reduceAdd, Nat.reduceMul, Nat.reduceLT, Nat.reduceLeDiff, Nat.reduceBEq, reduceCtorEq])
  (refine vw_cond (t := false) rfl (fun h => nomatch h) (fun _ => ?_))
  refine vw_skip (n_then ?_)
  (refine vw_go rfl ?_; simp only [d0, d1, hjl, Int.toNat_natCast, getD_map_of hy, nRow, go_sem, setCells, setIn, Int.reduceToNat, Int.reduceEq, Int.reduceLT, Int.reduceLE, Int.reduceNeg, Int.reduceSub, Int.reduceAdd, ge_iff_le, gt_iff_lt, ↓reduceIte, Nat.reduceEqDiff, Nat.reduceAdd, Nat.reduceMul, Nat.reduceLT, Nat.reduceLeDiff, Nat.reduceBEq, reduceCtorEq])
  exact vw_ret (e_ret (ret_of rfl rfl (by simp [RB]) rfl rfl))

/-- From a number on, step by step. -/
def walkG (l : List ByteArray) : List ByteArray → Int → Int
  | [], k => k
  | s :: ss, k => if kidF (nodeRead (l.getD k.toNat ⟨#[]⟩)).1 s < 0 then -1 else walkG l ss (kidF (nodeRead (l.getD k.toNat ⟨#[]⟩)).1 s)
end Go.Proofs.YtplnflkabpcaaaaDoor
