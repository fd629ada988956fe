/- Draws of parts. -/
import Derived.Test.YtppbonbghmdhhaaPFDrawT
namespace Go.Proofs.Ytppbonbghmdhhaa
open Go.VM Go
set_option maxRecDepth 100000
set_option linter.unusedSimpArgs false
set_option linter.unusedVariables false
attribute [-go_sem] runW_cons
attribute [local congr] vw_congr runV_congr runH_congr runW_congr runX_congr

theorem codeG_len (L : List UInt8) (n : Nat) : ∀ (k : Nat) (c : Cur) (l : List InsV), (codeG L n k c l).1.length = l.length + k
  | 0, c, l => rfl
  | k + 1, c, l => by
    rw [codeG, codeG_len L n k]
    simp only [List.length_append, List.length_cons, List.length_nil]; omega
theorem drawCode_len (L : List UInt8) (c : Cur) : 0 < (drawCode L c).1.length ∧ (drawCode L c).1.length ≤ 13 := by
  have h := codeG_len L (codeN L c) (codeN L c) (byteC L c) []
  have hb := belV_in L c (n := 10) (by decide)
  have hn : codeN L c ≤ 11 := by unfold codeN; omega
  unfold drawCode
  generalize codeG L (codeN L c) (codeN L c) (byteC L c) [] = g at h
  obtain ⟨l, d⟩ := g
  simp only [List.length_append, List.length_cons, List.length_nil] at h ⊢
  omega
theorem spoil_len (L : List UInt8) (c : Cur) (l : List InsV) : (spoil L c l).1.length ≤ l.length := by
  unfold spoil
  simp only
  split
  · simp
  · split
    · simp
    · split
      · simp only [List.length_take]; omega
      · split
        · simp
        · exact Nat.le_refl _
def seenG (L : List UInt8) : Nat → Nat → Cur → List TellV → List TellV × Cur
  | 0, _, c, l => (l, c)
  | n + 1, i, c, l => if (i : Int) < belV L c 4 then seenG L n (i + 1) (byteC L (byteC L c)) (l ++ [⟨belV L (byteC L c) 3, ⟨#[]⟩⟩]) else (l, byteC L c)
theorem seenG_end {L : List UInt8} {n i : Nat} {c : Cur} {l : List TellV} (hn : 0 < n) (h : ¬ (i : Int) < belV L c 4) : seenG L n i c l = (l, byteC L c) := by
  cases n with
  | zero => omega
  | succ n => rw [seenG, if_neg h]
def partE (L : List UInt8) (code : List InsV) (a : Int) (seen : List TellV) (c : Cur) : PartV × Cur :=
  if belV L c 15 = 0 then (⟨code, pickV L (byteC L c) [-1, 99] 0, seen, false⟩, byteC L (byteC L c))
  else if belV L c 15 = 1 then (⟨code, a, seen, true⟩, byteC L c)
  else if belV L c 15 = 2 then (⟨(spoil L (byteC L c) code).1, a, seen, false⟩, (spoil L (byteC L c) code).2)
  else if belV L c 15 = 3 then (⟨code, a, List.replicate (300 + belV L (byteC L c) 2).toNat ⟨0, ⟨#[]⟩⟩, false⟩, byteC L (byteC L c))
  else (⟨code, a, seen, false⟩, byteC L c)
def drawPart (L : List UInt8) (c : Cur) : PartV × Cur :=
  partE L (drawCode L c).1 (belV L (drawCode L c).2 (drawCode L c).1.length) (seenG L 4 0 (byteC L (drawCode L c).2) []).1 (seenG L 4 0 (byteC L (drawCode L c).2) []).2

set_option maxHeartbeats 1000000 in
theorem runs_111 (v : Value) (L : List UInt8) (hL : L.length < 2 ^ 60) (c : Cur) (x : PartV) (C : Cur) (hC : (x, C) = drawPart L c) :
    Runs Try.prog 111 [.one (.box [.held v 1 (L.map bRow), .int .i64 c.i, .int .i64 c.h])] [.agg [.v (.list true 6 (x.code.map insRow)), .v (.int .i64 x.at_), .v (.list true 2 (x.seen.map tellRow)), .v (.bool x.over)]] [(0, ⟨true, 3, [[.held v 1 (L.map bRow), .int .i64 C.i, .int .i64 C.h]], []⟩)] := by
  refine runs_tabB (tab := [(0, .ptr 0 [] 0 0 0)]) (rts := [(0, some ⟨true, 3, [[.held v 1 (L.map bRow), .int .i64 c.i, .int .i64 c.h]], []⟩)]) (n := 54) (k := 1) Try.func111 rfl rfl (by simp) rfl (fun t => ?_) rfl ?_
  · rcases t with _ | t <;> rfl
  have rC := runs_117 v L hL c _ rfl
  have hlen := drawCode_len L c
  unfold drawPart at hC
  generalize drawCode L c = g at rC hlen hC
  obtain ⟨code, c1⟩ := g
  simp only at rC hlen hC
  have rA := runs_109 v L hL c1 code.length hlen.1 (Nat.le_trans hlen.2 (by decide))
  generalize belV L c1 code.length = a at rA hC
  generalize byteC L c1 = c2 at rA hC
  have bc : List.take code.length (code.map insRow) = code.map insRow := List.take_of_length_le (by simp)
  (refine vw_go rfl ?_; simp only [go_sem, setCells, setIn, Int.reduceToNat, Int.reduceEq, Int.reduceLT, Int.reduceLE, Int.reduceNeg, Int.reduceSub, Int.reduceAdd, ge_iff_le, gt_iff_lt, ↓reduceIte, Nat.reduceEqDiff, Nat.reduceAdd, Nat.reduceMul, Nat.reduceLT, Nat.reduceLeDiff, Nat.reduceBEq, reduceCtorEq])
  (refine vw_go rfl ?_; simp only [go_sem, setCells, setIn, Int.reduceToNat, Int.reduceEq, Int.reduceLT, Int.reduceLE, Int.reduceNeg, Int.reduceSub, Int.reduceAdd, ge_iff_le, gt_iff_lt, ↓reduceIte, Nat.reduceEqDiff, Nat.reduceAdd, Nat.reduceMul, Nat.reduceLT, Nat.reduceLeDiff, Nat.reduceBEq, reduceCtorEq])
  (refine ⟨_, _, call_pt [0] 0 Try.func117 (rC) rfl rfl rfl rfl rfl rfl rfl rfl (by simp [lendAll, lendC, seek, fresh, nav, rcells, RT.cells, VV.cells, tabE_cons, tabS_cons, St.put, ev, lit, take_map_len, eq_true (fineRs_of (insRow_clean _))]) rfl rfl (by simp [rcells, RT.cells, CT.fine, T.fine, eq_true (fineRs_of (insRow_clean _))]) (by exact ⟨.inr ⟨0, _, _, rfl, .head _, .head _⟩, trivial, trivial, trivial⟩) rfl rfl, ?_⟩)
  simp only [runH, runX, bc, go_sem, setCells, setIn, Int.reduceToNat, Int.reduceEq, Int.reduceLT, Int.reduceLE, Int.reduceNeg, Int.reduceSub, Int.reduceAdd, ge_iff_le, gt_iff_lt, ↓reduceIte, Nat.reduceEqDiff, Nat.reduceAdd, Nat.reduceMul, Nat.reduceLT, Nat.reduceLeDiff, Nat.reduceBEq, reduceCtorEq]
  (refine vw_go rfl ?_; simp only [bc, List.drop_length, go_sem, setCells, setIn, Int.reduceToNat, Int.reduceEq, Int.reduceLT, Int.reduceLE, Int.reduceNeg, Int.reduceSub, Int.reduceAdd, ge_iff_le, gt_iff_lt, ↓reduceIte, Nat.reduceEqDiff, Nat.reduceAdd, Nat.reduceMul, Nat.reduceLT, Nat.reduceLeDiff, Nat.reduceBEq, reduceCtorEq])
  (refine ⟨_, _, call_pt [0, 0] 0 Try.func109 (rA) rfl rfl rfl rfl rfl rfl rfl rfl (by simp [lendAll, lendC, seek, fresh, nav, rcells, RT.cells, VV.cells, tabE_cons, tabS_cons, St.put, ev, lit, take_map_len]) rfl rfl (by simp [rcells, RT.cells, CT.fine, T.fine]) (by exact ⟨.inr ⟨0, _, _, rfl, .head _, .head _⟩, trivial, trivial, trivial⟩) rfl rfl, ?_⟩)
  simp only [runH, runX, go_sem, setCells, setIn, Int.reduceToNat, Int.reduceEq, Int.reduceLT, Int.reduceLE, Int.reduceNeg, Int.reduceSub, Int.reduceAdd, ge_iff_le, gt_iff_lt, ↓reduceIte, Nat.reduceEqDiff, Nat.reduceAdd, Nat.reduceMul, Nat.reduceLT, Nat.reduceLeDiff, Nat.reduceBEq, reduceCtorEq]
  refine vw_seq ?_
  (refine vw_go rfl ?_; simp only [go_sem, setCells, setIn, Int.reduceToNat, Int.reduceEq, Int.reduceLT, Int.reduceLE, Int.reduceNeg, Int.reduceSub, Int.reduceAdd, ge_iff_le, gt_iff_lt, ↓reduceIte, Nat.reduceEqDiff, Nat.reduceAdd, Nat.reduceMul, Nat.reduceLT, Nat.reduceLeDiff, Nat.reduceBEq, reduceCtorEq])
  refine vw_block ?_
  refine vw_loop_tab (α := Nat × Nat × Cur × List TellV × List Path × List Path) (fun x => x.1) (fun x => ⟨tabE [(0, .ptr 0 [] 0 0 0), (2, .ptr 1 [] 0 0 0), (3, .ptr 2 [] 0 0 0), (4, .c (.int .i64 x.2.1))], tabS [(0, some ⟨true, 3, [[.held v 1 (L.map bRow), .int .i64 x.2.2.1.i, .int .i64 x.2.2.1.h]], x.2.2.2.2.1⟩),
      (1, some ⟨true, 4, [[.list true 6 [], .int .i64 0, .list true 2 [], .bool false]], []⟩), (2, some ⟨true, 4, [[.list true 6 (code.map insRow), .int .i64 a, .list true 2 (x.2.2.2.1.map tellRow), .bool false]], x.2.2.2.2.2⟩)], 3⟩)
    (fun x => seenG L x.1 x.2.1 x.2.2.1 x.2.2.2.1 = seenG L 4 0 c2 [] ∧ x.1 + x.2.1 = 4 ∧ 1 ≤ x.1 ∧ x.2.2.2.1.length ≤ x.2.1) (x := (4, 0, c2, [], [[], []], [[(0, 0)], [(0, 2)]])) ?round ?h0 ?hn
  case h0 => exact ⟨rfl, rfl, Nat.le_of_ble_eq_true rfl, Nat.le_refl _⟩
  case hn =>
    (refine norm_to [(0, 0), (1, 1), (68609, 2)] rfl ?_ ?_ <;> simp only [go_sem, Int.reduceToNat, Int.reduceEq, Int.reduceLT, Int.reduceLE, Int.reduceNeg, Int.reduceSub, Int.reduceAdd, ge_iff_le, gt_iff_lt, ↓reduceIte, Nat.reduceEqDiff, Nat.reduceAdd, Nat.reduceMul, Nat.reduceLT, Nat.reduceLeDiff, Nat.reduceBEq, reduceCtorEq])
  rintro ⟨n, i, d, m, lg, lg2⟩ ⟨hg, hs, hn1, hs1⟩
  simp only at hg hs hn1 hs1
  have rB := runs_109 v L hL d 4 (by decide) (by decide)
  have hb := belV_in L d (n := 4) (by decide)
  refine vw_seq ?_
  (refine vw_go rfl ?_; simp only [go_sem, setCells, setIn, Int.reduceToNat, Int.reduceEq, Int.reduceLT, Int.reduceLE, Int.reduceNeg, Int.reduceSub, Int.reduceAdd, ge_iff_le, gt_iff_lt, ↓reduceIte, Nat.reduceEqDiff, Nat.reduceAdd, Nat.reduceMul, Nat.reduceLT, Nat.reduceLeDiff, Nat.reduceBEq, reduceCtorEq])
  (refine ⟨_, _, call_pt [0, 0] 0 Try.func109 (rB) rfl rfl rfl rfl rfl rfl rfl rfl (by simp [lendAll, lendC, seek, fresh, nav, rcells, RT.cells, VV.cells, tabE_cons, tabS_cons, St.put, ev, lit, take_map_len]) rfl rfl (by simp [rcells, RT.cells, CT.fine, T.fine]) (by exact ⟨.inr ⟨0, _, _, rfl, .head _, .head _⟩, trivial, trivial, trivial⟩) rfl rfl, ?_⟩)
  simp only [runH, runX, go_sem, setCells, setIn, Int.reduceToNat, Int.reduceEq, Int.reduceLT, Int.reduceLE, Int.reduceNeg, Int.reduceSub, Int.reduceAdd, ge_iff_le, gt_iff_lt, ↓reduceIte, Nat.reduceEqDiff, Nat.reduceAdd, Nat.reduceMul, Nat.reduceLT, Nat.reduceLeDiff, Nat.reduceBEq, reduceCtorEq]
  by_cases hc : (i : Int) < belV L d 4
  · refine vw_cond (t := true) (by simp [ev, tabE_cons, hc]) (fun _ => ?_) (fun h => nomatch h)
    refine vw_skip (n_then ?_)
    obtain ⟨k, rfl⟩ : ∃ k, n = k + 1 := ⟨n - 1, by omega⟩
    rw [seenG, if_pos hc] at hg
    have rK := runs_109 v L hL (byteC L d) 3 (by decide) (by decide)
    generalize belV L (byteC L d) 3 = z at rK hg
    generalize byteC L (byteC L d) = e at rK hg
    have B1 : ¬ (m.length + 1 + 1) * (24 + 1) > bigRow := big_le (Nat.le_trans hs1 (by omega)) (by decide) (by decide)
    have bt : List.take m.length (m.map tellRow) = m.map tellRow := List.take_of_length_le (by simp)
    have w3 : IntKind.wrap .i64 ((i:Int) + 1) = ((i + 1 : Nat) : Int) := by rw [wrap_i64 (by omega) (by omega)]; rfl
    refine vw_seq ?_
    refine vw_block ?_
    refine vw_drawA_last mixed rfl rfl ?_
    intro A hAA
    have k3 : (A[3]?).bind (·.dst) = some 23 := by subst hAA; rfl
    simp (maxSteps := 1000000) only [k3, go_sem, setCells, setIn, Int.reduceToNat, Int.reduceEq, Int.reduceLT, Int.reduceLE, Int.reduceNeg, Int.reduceSub, Int.reduceAdd, ge_iff_le, gt_iff_lt, ↓reduceIte, Nat.reduceEqDiff, Nat.reduceAdd, Nat.reduceMul, Nat.reduceLT, Nat.reduceLeDiff, Nat.reduceBEq, reduceCtorEq, runW_step]
    (refine ⟨_, _, _, call_pt_at [0, 0] 0 [] Try.func109 (rK) rfl rfl rfl rfl rfl rfl rfl rfl (fun st1 hst1 => by (try simp only [List.mem_cons, List.not_mem_nil, or_false, false_or, forall_eq_or_imp, forall_eq] at hst1); simp [lendAll, lendC, seek, fresh, nav, rcells, RT.cells, VV.cells, tabE_cons, tabS_cons, St.put, ev, lit, take_map_len, hst1]) rfl rfl (fun st1 hst1 => by simp [rcells, RT.cells, CT.fine, T.fine]) (fun st1 hst1 => by exact ⟨.inr ⟨0, _, _, (hst1 _ (.head _)).trans rfl, .head _, .head _⟩, trivial, trivial, trivial⟩) rfl rfl, ?_⟩)
    (unfold runX; simp (maxSteps := 1000000) only [k3, B1, List.drop_length, List.length_append, range1, List.replicate_succ, List.replicate_zero, List.flatten_cons, List.flatten_nil, List.range_zero, gt_iff_lt, bt, take_snoc, go_sem, setCells, setIn, Int.reduceToNat, Int.reduceEq, Int.reduceLT, Int.reduceLE, Int.reduceNeg, Int.reduceSub, Int.reduceAdd, ge_iff_le, gt_iff_lt, ↓reduceIte, Nat.reduceEqDiff, Nat.reduceAdd, Nat.reduceMul, Nat.reduceLT, Nat.reduceLeDiff, Nat.reduceBEq, reduceCtorEq, runW_step])
    refine ⟨by subst hAA; unfold allOk; kernel_rfl, ?_⟩
    refine (n_block (n_then ?_))
    (refine vw_last rfl ?_; simp only [w3, go_sem, setCells, setIn, Int.reduceToNat, Int.reduceEq, Int.reduceLT, Int.reduceLE, Int.reduceNeg, Int.reduceSub, Int.reduceAdd, ge_iff_le, gt_iff_lt, ↓reduceIte, Nat.reduceEqDiff, Nat.reduceAdd, Nat.reduceMul, Nat.reduceLT, Nat.reduceLeDiff, Nat.reduceBEq, reduceCtorEq])
    refine (n_then ?_)
    refine ⟨(k, i + 1, e, m ++ [(⟨z, ⟨#[]⟩⟩ : TellV)], (lg ++ [[]]) ++ [[]], lg2 ++ [[(0, 2)]]), by simp only; omega, ⟨hg, by simp only; omega, by simp only; omega, by simp only [List.length_append, List.length_cons, List.length_nil]; omega⟩, ?_⟩
    have e4 : m.map tellRow ++ [[.int .i64 z, .str ⟨#[]⟩]] = (m ++ [(⟨z, ⟨#[]⟩⟩ : TellV)]).map tellRow := by simp [tellRow]
    rw [e4]
    generalize m ++ [(⟨z, ⟨#[]⟩⟩ : TellV)] = m'
    (refine norm_to [(0, 0), (1, 1), (2, 2)] rfl ?_ ?_ <;> simp only [go_sem, Int.reduceToNat, Int.reduceEq, Int.reduceLT, Int.reduceLE, Int.reduceNeg, Int.reduceSub, Int.reduceAdd, ge_iff_le, gt_iff_lt, ↓reduceIte, Nat.reduceEqDiff, Nat.reduceAdd, Nat.reduceMul, Nat.reduceLT, Nat.reduceLeDiff, Nat.reduceBEq, reduceCtorEq])
  refine vw_cond (t := false) (by simp [ev, tabE_cons, hc]) (fun h => nomatch h) (fun _ => ?_)
  refine vw_exit (x_then (x_then (x_block (n_then ?_))))
  rw [seenG_end (by omega) hc] at hg
  rw [← hg] at hC
  simp only at hC
  clear hg hs hn1 rB hb hc
  generalize byteC L d = c3 at hC ⊢
  unfold partE at hC
  have rZ := runs_109 v L hL c3 15 (by decide) (by decide)
  have bt : List.take m.length (m.map tellRow) = m.map tellRow := List.take_of_length_le (by simp)
  refine vw_seq ?_
  (refine vw_go rfl ?_; simp only [go_sem, setCells, setIn, Int.reduceToNat, Int.reduceEq, Int.reduceLT, Int.reduceLE, Int.reduceNeg, Int.reduceSub, Int.reduceAdd, ge_iff_le, gt_iff_lt, ↓reduceIte, Nat.reduceEqDiff, Nat.reduceAdd, Nat.reduceMul, Nat.reduceLT, Nat.reduceLeDiff, Nat.reduceBEq, reduceCtorEq])
  (refine ⟨_, _, call_pt [0, 0] 0 Try.func109 (rZ) rfl rfl rfl rfl rfl rfl rfl rfl (by simp [lendAll, lendC, seek, fresh, nav, rcells, RT.cells, VV.cells, tabE_cons, tabS_cons, St.put, ev, lit, take_map_len]) rfl rfl (by simp [rcells, RT.cells, CT.fine, T.fine]) (by exact ⟨.inr ⟨0, _, _, rfl, .head _, .head _⟩, trivial, trivial, trivial⟩) rfl rfl, ?_⟩)
  simp only [runH, runX, go_sem, setCells, setIn, Int.reduceToNat, Int.reduceEq, Int.reduceLT, Int.reduceLE, Int.reduceNeg, Int.reduceSub, Int.reduceAdd, ge_iff_le, gt_iff_lt, ↓reduceIte, Nat.reduceEqDiff, Nat.reduceAdd, Nat.reduceMul, Nat.reduceLT, Nat.reduceLeDiff, Nat.reduceBEq, reduceCtorEq]
  generalize belV L c3 15 = k at hC
  generalize byteC L c3 = c4 at hC ⊢
  refine vw_block ?_
  by_cases h0 : k = 0
  · rw [if_pos h0] at hC
    simp only [Prod.mk.injEq] at hC
    obtain ⟨rfl, rfl⟩ := hC
    subst h0
    have rP := runs_153 v L hL c4 [-1, 99] (by decide) (by decide)
    (refine vw_go rfl ?_; simp only [go_sem, setCells, setIn, Int.reduceToNat, Int.reduceEq, Int.reduceLT, Int.reduceLE, Int.reduceNeg, Int.reduceSub, Int.reduceAdd, ge_iff_le, gt_iff_lt, ↓reduceIte, Nat.reduceEqDiff, Nat.reduceAdd, Nat.reduceMul, Nat.reduceLT, Nat.reduceLeDiff, Nat.reduceBEq, reduceCtorEq])
    (refine vw_cond (t := true) rfl (fun _ => ?_) (fun h => nomatch h))
    (refine vw_last rfl ?_; simp only [range1, List.replicate_succ, List.replicate_zero, List.flatten_cons, List.flatten_nil, List.range_zero, gt_iff_lt, go_sem, setCells, setIn, Int.reduceToNat, Int.reduceEq, Int.reduceLT, Int.reduceLE, Int.reduceNeg, Int.reduceSub, Int.reduceAdd, ge_iff_le, gt_iff_lt, ↓reduceIte, Nat.reduceEqDiff, Nat.reduceAdd, Nat.reduceMul, Nat.reduceLT, Nat.reduceLeDiff, Nat.reduceBEq, reduceCtorEq])
    (refine ⟨_, _, call_pt [0, 0] 0 Try.func153 (rP) rfl rfl rfl rfl rfl rfl rfl rfl (by simp [lendAll, lendC, seek, fresh, nav, rcells, RT.cells, VV.cells, tabE_cons, tabS_cons, St.put, ev, lit, take_map_len, nRow]) rfl rfl (by simp [rcells, RT.cells, CT.fine, T.fine, nRow]) (by exact ⟨.inr ⟨0, _, _, rfl, .head _, .head _⟩, trivial, trivial, trivial⟩) rfl rfl, ?_⟩)
    simp only [runH, runX, go_sem, setCells, setIn, Int.reduceToNat, Int.reduceEq, Int.reduceLT, Int.reduceLE, Int.reduceNeg, Int.reduceSub, Int.reduceAdd, ge_iff_le, gt_iff_lt, ↓reduceIte, Nat.reduceEqDiff, Nat.reduceAdd, Nat.reduceMul, Nat.reduceLT, Nat.reduceLeDiff, Nat.reduceBEq, reduceCtorEq]
    refine (n_block (n_then ?_))
    (refine vw_go rfl ?_; simp only [List.drop_length, bc, bt, go_sem, setCells, setIn, Int.reduceToNat, Int.reduceEq, Int.reduceLT, Int.reduceLE, Int.reduceNeg, Int.reduceSub, Int.reduceAdd, ge_iff_le, gt_iff_lt, ↓reduceIte, Nat.reduceEqDiff, Nat.reduceAdd, Nat.reduceMul, Nat.reduceLT, Nat.reduceLeDiff, Nat.reduceBEq, reduceCtorEq])
    exact vw_ret (e_ret (ret_b rfl rfl (by simp [RB]) rfl (by simp only [takeCs, takeC, List.drop_length, bc, bt, go_sem, setCells, setIn, Int.reduceToNat, Int.reduceEq, Int.reduceLT, Int.reduceLE, Int.reduceNeg, Int.reduceSub, Int.reduceAdd, ge_iff_le, gt_iff_lt, ↓reduceIte, Nat.reduceEqDiff, Nat.reduceAdd, Nat.reduceMul, Nat.reduceLT, Nat.reduceLeDiff, Nat.reduceBEq, reduceCtorEq]; rfl) (by exact ⟨⟨by simp, _, rfl, rfl, rfl, rfl⟩, trivial⟩)))
  rw [if_neg h0] at hC
  (refine vw_go rfl ?_; simp only [h0, go_sem, setCells, setIn, Int.reduceToNat, Int.reduceEq, Int.reduceLT, Int.reduceLE, Int.reduceNeg, Int.reduceSub, Int.reduceAdd, ge_iff_le, gt_iff_lt, ↓reduceIte, Nat.reduceEqDiff, Nat.reduceAdd, Nat.reduceMul, Nat.reduceLT, Nat.reduceLeDiff, Nat.reduceBEq, reduceCtorEq])
  (refine vw_cond (t := false) rfl (fun h => nomatch h) (fun _ => ?_))
  by_cases h1 : k = 1
  · rw [if_pos h1] at hC
    simp only [Prod.mk.injEq] at hC
    obtain ⟨rfl, rfl⟩ := hC
    subst h1
    (refine vw_go rfl ?_; simp only [go_sem, setCells, setIn, Int.reduceToNat, Int.reduceEq, Int.reduceLT, Int.reduceLE, Int.reduceNeg, Int.reduceSub, Int.reduceAdd, ge_iff_le, gt_iff_lt, ↓reduceIte, Nat.reduceEqDiff, Nat.reduceAdd, Nat.reduceMul, Nat.reduceLT, Nat.reduceLeDiff, Nat.reduceBEq, reduceCtorEq])
    (refine vw_cond (t := true) rfl (fun _ => ?_) (fun h => nomatch h))
    (refine vw_last rfl ?_; simp only [go_sem, setCells, setIn, Int.reduceToNat, Int.reduceEq, Int.reduceLT, Int.reduceLE, Int.reduceNeg, Int.reduceSub, Int.reduceAdd, ge_iff_le, gt_iff_lt, ↓reduceIte, Nat.reduceEqDiff, Nat.reduceAdd, Nat.reduceMul, Nat.reduceLT, Nat.reduceLeDiff, Nat.reduceBEq, reduceCtorEq])
    refine (n_block (n_then ?_))
    (refine vw_go rfl ?_; simp only [List.drop_length, bc, bt, go_sem, setCells, setIn, Int.reduceToNat, Int.reduceEq, Int.reduceLT, Int.reduceLE, Int.reduceNeg, Int.reduceSub, Int.reduceAdd, ge_iff_le, gt_iff_lt, ↓reduceIte, Nat.reduceEqDiff, Nat.reduceAdd, Nat.reduceMul, Nat.reduceLT, Nat.reduceLeDiff, Nat.reduceBEq, reduceCtorEq])
    exact vw_ret (e_ret (ret_b rfl rfl (by simp [RB]) rfl (by simp only [takeCs, takeC, List.drop_length, bc, bt, go_sem, setCells, setIn, Int.reduceToNat, Int.reduceEq, Int.reduceLT, Int.reduceLE, Int.reduceNeg, Int.reduceSub, Int.reduceAdd, ge_iff_le, gt_iff_lt, ↓reduceIte, Nat.reduceEqDiff, Nat.reduceAdd, Nat.reduceMul, Nat.reduceLT, Nat.reduceLeDiff, Nat.reduceBEq, reduceCtorEq]; rfl) (by exact ⟨⟨by simp, _, rfl, rfl, rfl, rfl⟩, trivial⟩)))
  rw [if_neg h1] at hC
  (refine vw_go rfl ?_; simp only [h1, go_sem, setCells, setIn, Int.reduceToNat, Int.reduceEq, Int.reduceLT, Int.reduceLE, Int.reduceNeg, Int.reduceSub, Int.reduceAdd, ge_iff_le, gt_iff_lt, ↓reduceIte, Nat.reduceEqDiff, Nat.reduceAdd, Nat.reduceMul, Nat.reduceLT, Nat.reduceLeDiff, Nat.reduceBEq, reduceCtorEq])
  (refine vw_cond (t := false) rfl (fun h => nomatch h) (fun _ => ?_))
  by_cases h2 : k = 2
  · rw [if_pos h2] at hC
    simp only [Prod.mk.injEq] at hC
    have rS := runs_116 v L hL c4 code hlen.1 (Nat.le_trans hlen.2 (by decide)) _ rfl
    generalize spoil L c4 code = sp at rS hC
    obtain ⟨sc, sd⟩ := sp
    simp only at rS hC
    obtain ⟨rfl, rfl⟩ := hC
    subst h2
    have bs : List.take sc.length (sc.map insRow) = sc.map insRow := List.take_of_length_le (by simp)
    (refine vw_go rfl ?_; simp only [go_sem, setCells, setIn, Int.reduceToNat, Int.reduceEq, Int.reduceLT, Int.reduceLE, Int.reduceNeg, Int.reduceSub, Int.reduceAdd, ge_iff_le, gt_iff_lt, ↓reduceIte, Nat.reduceEqDiff, Nat.reduceAdd, Nat.reduceMul, Nat.reduceLT, Nat.reduceLeDiff, Nat.reduceBEq, reduceCtorEq])
    (refine vw_cond (t := true) rfl (fun _ => ?_) (fun h => nomatch h))
    (refine vw_last rfl ?_; simp only [List.drop_length, bc, go_sem, setCells, setIn, Int.reduceToNat, Int.reduceEq, Int.reduceLT, Int.reduceLE, Int.reduceNeg, Int.reduceSub, Int.reduceAdd, ge_iff_le, gt_iff_lt, ↓reduceIte, Nat.reduceEqDiff, Nat.reduceAdd, Nat.reduceMul, Nat.reduceLT, Nat.reduceLeDiff, Nat.reduceBEq, reduceCtorEq])
    (refine ⟨_, _, call_po [0, 0] 0 [(2, some ⟨true, 4, [[.dead, .int .i64 a, .list true 2 (m.map tellRow), .bool false]], lg2⟩)] Try.func116 (rS) rfl rfl rfl rfl rfl rfl rfl rfl (by simp [takeCs, takeC, takeV, seek, fresh, nav, takenUp, rcells, RT.cells, VV.cells, tabE_cons, tabS_cons, modAt, setIn, ups_tab, ups_nil, St.put, ev, lit, take_map_len, eq_true (fineRs_of (insRow_clean _)), bc, List.drop_length]) rfl rfl (by simp [rcells, RT.cells, CT.fine, T.fine, eq_true (fineRs_of (insRow_clean _)), bc, List.drop_length]) (by exact ⟨.inr ⟨0, _, _, rfl, .head _, .head _⟩, trivial, trivial, trivial⟩) rfl rfl, ?_⟩)
    simp only [runH, runX, bs, List.drop_length, go_sem, setCells, setIn, Int.reduceToNat, Int.reduceEq, Int.reduceLT, Int.reduceLE, Int.reduceNeg, Int.reduceSub, Int.reduceAdd, ge_iff_le, gt_iff_lt, ↓reduceIte, Nat.reduceEqDiff, Nat.reduceAdd, Nat.reduceMul, Nat.reduceLT, Nat.reduceLeDiff, Nat.reduceBEq, reduceCtorEq]
    refine (n_block (n_then ?_))
    (refine vw_go rfl ?_; simp only [List.drop_length, bs, bt, go_sem, setCells, setIn, Int.reduceToNat, Int.reduceEq, Int.reduceLT, Int.reduceLE, Int.reduceNeg, Int.reduceSub, Int.reduceAdd, ge_iff_le, gt_iff_lt, ↓reduceIte, Nat.reduceEqDiff, Nat.reduceAdd, Nat.reduceMul, Nat.reduceLT, Nat.reduceLeDiff, Nat.reduceBEq, reduceCtorEq])
    exact vw_ret (e_ret (ret_b rfl rfl (by simp [RB]) rfl (by simp only [takeCs, takeC, List.drop_length, bs, bt, go_sem, setCells, setIn, Int.reduceToNat, Int.reduceEq, Int.reduceLT, Int.reduceLE, Int.reduceNeg, Int.reduceSub, Int.reduceAdd, ge_iff_le, gt_iff_lt, ↓reduceIte, Nat.reduceEqDiff, Nat.reduceAdd, Nat.reduceMul, Nat.reduceLT, Nat.reduceLeDiff, Nat.reduceBEq, reduceCtorEq]; rfl) (by exact ⟨⟨by simp, _, rfl, rfl, rfl, rfl⟩, trivial⟩)))
  rw [if_neg h2] at hC
  (refine vw_go rfl ?_; simp only [h2, go_sem, setCells, setIn, Int.reduceToNat, Int.reduceEq, Int.reduceLT, Int.reduceLE, Int.reduceNeg, Int.reduceSub, Int.reduceAdd, ge_iff_le, gt_iff_lt, ↓reduceIte, Nat.reduceEqDiff, Nat.reduceAdd, Nat.reduceMul, Nat.reduceLT, Nat.reduceLeDiff, Nat.reduceBEq, reduceCtorEq])
  (refine vw_cond (t := false) rfl (fun h => nomatch h) (fun _ => ?_))
  by_cases h3 : k = 3
  · rw [if_pos h3] at hC
    simp only [Prod.mk.injEq] at hC
    obtain ⟨rfl, rfl⟩ := hC
    subst h3
    have rP := runs_109 v L hL c4 2 (by decide) (by decide)
    have hb := belV_in L c4 (n := 2) (by decide)
    generalize belV L c4 2 = z at rP hb ⊢
    have w4 : IntKind.wrap .i64 (300 + z) = 300 + z := wrap_i64 (by omega) (by omega)
    have g1 : (0:Int) ≤ 300 + z := by omega
    have g2 : (300 + z) * (((24 : Nat) : Int) + 1) ≤ (bigRow : Int) := by simp only [bigRow]; omega
    have e4 : List.replicate (300 + z).toNat [T.int .i64 0, T.str ⟨#[]⟩] = (List.replicate (300 + z).toNat (⟨0, ⟨#[]⟩⟩ : TellV)).map tellRow := by rw [List.map_replicate]; rfl
    (refine vw_go rfl ?_; simp only [go_sem, setCells, setIn, Int.reduceToNat, Int.reduceEq, Int.reduceLT, Int.reduceLE, Int.reduceNeg, Int.reduceSub, Int.reduceAdd, ge_iff_le, gt_iff_lt, ↓reduceIte, Nat.reduceEqDiff, Nat.reduceAdd, Nat.reduceMul, Nat.reduceLT, Nat.reduceLeDiff, Nat.reduceBEq, reduceCtorEq])
    (refine vw_cond (t := true) rfl (fun _ => ?_) (fun h => nomatch h))
    (refine vw_last rfl ?_; simp only [go_sem, setCells, setIn, Int.reduceToNat, Int.reduceEq, Int.reduceLT, Int.reduceLE, Int.reduceNeg, Int.reduceSub, Int.reduceAdd, ge_iff_le, gt_iff_lt, ↓reduceIte, Nat.reduceEqDiff, Nat.reduceAdd, Nat.reduceMul, Nat.reduceLT, Nat.reduceLeDiff, Nat.reduceBEq, reduceCtorEq])
    (refine ⟨_, _, call_pt [0, 0] 0 Try.func109 (rP) rfl rfl rfl rfl rfl rfl rfl rfl (by simp [lendAll, lendC, seek, fresh, nav, rcells, RT.cells, VV.cells, tabE_cons, tabS_cons, St.put, ev, lit, take_map_len]) rfl rfl (by simp [rcells, RT.cells, CT.fine, T.fine]) (by exact ⟨.inr ⟨0, _, _, rfl, .head _, .head _⟩, trivial, trivial, trivial⟩) rfl rfl, ?_⟩)
    simp only [runH, runX, w4, g1, g2, Int.le_refl, List.length_replicate, List.take_replicate, Nat.min_self, go_sem, setCells, setIn, Int.reduceToNat, Int.reduceEq, Int.reduceLT, Int.reduceLE, Int.reduceNeg, Int.reduceSub, Int.reduceAdd, ge_iff_le, gt_iff_lt, ↓reduceIte, Nat.reduceEqDiff, Nat.reduceAdd, Nat.reduceMul, Nat.reduceLT, Nat.reduceLeDiff, Nat.reduceBEq, reduceCtorEq]
    rw [e4]
    generalize List.replicate (300 + z).toNat (⟨0, ⟨#[]⟩⟩ : TellV) = m'
    have bt : List.take m'.length (m'.map tellRow) = m'.map tellRow := List.take_of_length_le (by simp)
    refine (n_block (n_then ?_))
    (refine vw_go rfl ?_; simp only [List.drop_length, bc, bt, go_sem, setCells, setIn, Int.reduceToNat, Int.reduceEq, Int.reduceLT, Int.reduceLE, Int.reduceNeg, Int.reduceSub, Int.reduceAdd, ge_iff_le, gt_iff_lt, ↓reduceIte, Nat.reduceEqDiff, Nat.reduceAdd, Nat.reduceMul, Nat.reduceLT, Nat.reduceLeDiff, Nat.reduceBEq, reduceCtorEq])
    exact vw_ret (e_ret (ret_b rfl rfl (by simp [RB]) rfl (by simp only [takeCs, takeC, List.drop_length, bc, bt, go_sem, setCells, setIn, Int.reduceToNat, Int.reduceEq, Int.reduceLT, Int.reduceLE, Int.reduceNeg, Int.reduceSub, Int.reduceAdd, ge_iff_le, gt_iff_lt, ↓reduceIte, Nat.reduceEqDiff, Nat.reduceAdd, Nat.reduceMul, Nat.reduceLT, Nat.reduceLeDiff, Nat.reduceBEq, reduceCtorEq]; rfl) (by exact ⟨⟨by simp, _, rfl, rfl, rfl, rfl⟩, trivial⟩)))
  rw [if_neg h3] at hC
  simp only [Prod.mk.injEq] at hC
  obtain ⟨rfl, rfl⟩ := hC
  (refine vw_go rfl ?_; simp only [h3, go_sem, setCells, setIn, Int.reduceToNat, Int.reduceEq, Int.reduceLT, Int.reduceLE, Int.reduceNeg, Int.reduceSub, Int.reduceAdd, ge_iff_le, gt_iff_lt, ↓reduceIte, Nat.reduceEqDiff, Nat.reduceAdd, Nat.reduceMul, Nat.reduceLT, Nat.reduceLeDiff, Nat.reduceBEq, reduceCtorEq])
  (refine vw_cond (t := false) rfl (fun h => nomatch h) (fun _ => ?_))
  refine vw_skip (n_block (n_then ?_))
  (refine vw_go rfl ?_; simp only [List.drop_length, bc, bt, go_sem, setCells, setIn, Int.reduceToNat, Int.reduceEq, Int.reduceLT, Int.reduceLE, Int.reduceNeg, Int.reduceSub, Int.reduceAdd, ge_iff_le, gt_iff_lt, ↓reduceIte, Nat.reduceEqDiff, Nat.reduceAdd, Nat.reduceMul, Nat.reduceLT, Nat.reduceLeDiff, Nat.reduceBEq, reduceCtorEq])
  exact vw_ret (e_ret (ret_b rfl rfl (by simp [RB]) rfl (by simp only [takeCs, takeC, List.drop_length, bc, bt, go_sem, setCells, setIn, Int.reduceToNat, Int.reduceEq, Int.reduceLT, Int.reduceLE, Int.reduceNeg, Int.reduceSub, Int.reduceAdd, ge_iff_le, gt_iff_lt, ↓reduceIte, Nat.reduceEqDiff, Nat.reduceAdd, Nat.reduceMul, Nat.reduceLT, Nat.reduceLeDiff, Nat.reduceBEq, reduceCtorEq]; rfl) (by exact ⟨⟨by simp, _, rfl, rfl, rfl, rfl⟩, trivial⟩)))
end Go.Proofs.Ytppbonbghmdhhaa
