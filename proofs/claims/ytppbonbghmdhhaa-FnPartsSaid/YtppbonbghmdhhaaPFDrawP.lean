/- Draws of ports. -/
import Derived.Test.YtppbonbghmdhhaaPFDraws
import Derived.Test.YtppbonbghmdhhaaPFPort
import Derived.Test.YtppbonbghmdhhaaPFDraw
namespace Go.VM
open Go
theorem vw_drawA_last {P : Program} {n K id : Nat} {l : List Oper} {Q : Exit → FS → Prop} {env : Nat → VV} {st : St} {nx : Nat} (hm : P.follows .mixedOrders = true) (hd : regOk n l = true) (he : edgesOk l.toArray = true)
    (h : ∀ A : Array Oper, A = l.toArray → runW P A nx 0 l env st [] (fun its env st => allOk l its ∧ Q .normal ⟨env, st, nx + 1024 * l.toArray.size⟩)) : VW P n K (.region id l.toArray true) Q ⟨env, st, nx⟩ :=
  vw_draw_last hm hd he (h _ rfl)
end Go.VM
namespace Go.Proofs.Ytppbonbghmdhhaa
open Go.VM Go
set_option maxRecDepth 100000
set_option linter.unusedSimpArgs false
set_option linter.unusedVariables false
attribute [-go_sem] runW_cons
attribute [local congr] vw_congr runV_congr runH_congr runW_congr runX_congr

theorem take_snoc {α β : Type} (f : α → β) (l : List α) (x : β) : List.take (l.length + 1) (l.map f ++ [x]) = l.map f ++ [x] := List.take_of_length_le (by simp)
theorem take_snoc2 {α β : Type} (f : α → β) (l : List α) (x y : β) : List.take (l.length + 2) (l.map f ++ [x, y]) = l.map f ++ [x, y] := List.take_of_length_le (by simp)
theorem big_le {n k m : Nat} (h : n ≤ 1000) (hk : k ≤ 2) (hm : m ≤ 100) : ¬ (n + k + 1) * (m + 1) > bigRow := by
  have h1 : (n + k + 1) * (m + 1) ≤ 1003 * 101 := Nat.mul_le_mul (by omega) (by omega)
  simp only [bigRow]; omega
def nilOp : OpV := ⟨0, ⟨#[]⟩, ⟨#[]⟩, ⟨#[]⟩⟩
def nilTell : TellV := ⟨0, ⟨#[]⟩⟩
def askG (L : List UInt8) : Nat → Nat → Cur → List OpV → List OpV × Cur
  | 0, _, c, l => (l, c)
  | n + 1, i, c, l => if (i : Int) < belV L c 4 then askG L n (i + 1) (drawOp L (byteC L c)).2 (l ++ [(drawOp L (byteC L c)).1]) else (l, byteC L c)
theorem askG_end {L : List UInt8} {n i : Nat} {c : Cur} {l : List OpV} (hn : 0 < n) (h : ¬ (i : Int) < belV L c 4) : askG L n i c l = (l, byteC L c) := by
  cases n with
  | zero => omega
  | succ n => rw [askG, if_neg h]
def drawTell (L : List UInt8) (c : Cur) : TellV × Cur := (⟨belV L c 8, (drawText L (byteC L c)).1⟩, (drawText L (byteC L c)).2)
def tellG (L : List UInt8) : Nat → Nat → Cur → List TellV → List TellV × Cur
  | 0, _, c, l => (l, c)
  | n + 1, i, c, l => if (i : Int) < belV L c 4 then tellG L n (i + 1) (drawTell L (byteC L c)).2 (l ++ [(drawTell L (byteC L c)).1]) else (l, byteC L c)
theorem tellG_end {L : List UInt8} {n i : Nat} {c : Cur} {l : List TellV} (hn : 0 < n) (h : ¬ (i : Int) < belV L c 4) : tellG L n i c l = (l, byteC L c) := by
  cases n with
  | zero => omega
  | succ n => rw [tellG, if_neg h]
def drawPort (L : List UInt8) (c : Cur) : PortV × Cur :=
  if belV L (tellG L 4 0 (askG L 4 0 c []).2 []).2 15 = 0 then (⟨(askG L 4 0 c []).1 ++ [nilOp, nilOp], (tellG L 4 0 (askG L 4 0 c []).2 []).1⟩, byteC L (tellG L 4 0 (askG L 4 0 c []).2 []).2)
  else if belV L (tellG L 4 0 (askG L 4 0 c []).2 []).2 15 = 1 then (⟨(askG L 4 0 c []).1, (tellG L 4 0 (askG L 4 0 c []).2 []).1 ++ [nilTell, nilTell]⟩, byteC L (tellG L 4 0 (askG L 4 0 c []).2 []).2)
  else (⟨(askG L 4 0 c []).1, (tellG L 4 0 (askG L 4 0 c []).2 []).1⟩, byteC L (tellG L 4 0 (askG L 4 0 c []).2 []).2)

set_option maxHeartbeats 1000000 in
theorem runs_105 (v : Value) (L : List UInt8) (hL : L.length < 2 ^ 60) (c : Cur) (p : PortV) (C : Cur) (hC : (p, C) = drawPort L c) :
    Runs Try.prog 105 [.one (.box [.held v 1 (L.map bRow), .int .i64 c.i, .int .i64 c.h])] [.agg [.v (.list true 4 (p.asks.map opRow)), .v (.list true 2 (p.tells.map tellRow))]] [(0, ⟨true, 3, [[.held v 1 (L.map bRow), .int .i64 C.i, .int .i64 C.h]], []⟩)] := by
  refine runs_tabB (tab := [(0, .ptr 0 [] 0 0 0)]) (rts := [(0, some ⟨true, 3, [[.held v 1 (L.map bRow), .int .i64 c.i, .int .i64 c.h]], []⟩)]) (n := 57) (k := 1) Try.func105 rfl rfl (by simp) rfl (fun t => ?_) rfl ?_
  · rcases t with _ | t <;> rfl
  unfold drawPort at hC
  (refine vw_go rfl ?_; simp only [go_sem, setCells, setIn, Int.reduceToNat, Int.reduceEq, Int.reduceLT, Int.reduceLE, Int.reduceNeg, Int.reduceSub, Int.reduceAdd, ge_iff_le, gt_iff_lt, ↓reduceIte, Nat.reduceEqDiff, Nat.reduceAdd, Nat.reduceMul, Nat.reduceLT, Nat.reduceLeDiff, Nat.reduceBEq, reduceCtorEq])
  (refine vw_go rfl ?_; simp only [go_sem, setCells, setIn, Int.reduceToNat, Int.reduceEq, Int.reduceLT, Int.reduceLE, Int.reduceNeg, Int.reduceSub, Int.reduceAdd, ge_iff_le, gt_iff_lt, ↓reduceIte, Nat.reduceEqDiff, Nat.reduceAdd, Nat.reduceMul, Nat.reduceLT, Nat.reduceLeDiff, Nat.reduceBEq, reduceCtorEq])
  refine vw_seq ?_
  (refine vw_go rfl ?_; simp only [go_sem, setCells, setIn, Int.reduceToNat, Int.reduceEq, Int.reduceLT, Int.reduceLE, Int.reduceNeg, Int.reduceSub, Int.reduceAdd, ge_iff_le, gt_iff_lt, ↓reduceIte, Nat.reduceEqDiff, Nat.reduceAdd, Nat.reduceMul, Nat.reduceLT, Nat.reduceLeDiff, Nat.reduceBEq, reduceCtorEq])
  refine vw_block ?_
  refine vw_loop_tab (α := Nat × Nat × Cur × List OpV × List Path × List Path) (fun x => x.1) (fun x => ⟨tabE [(0, .ptr 0 [] 0 0 0), (2, .ptr 1 [] 0 0 0), (3, .ptr 2 [] 0 0 0), (4, .c (.int .i64 x.2.1))], tabS [(0, some ⟨true, 3, [[.held v 1 (L.map bRow), .int .i64 x.2.2.1.i, .int .i64 x.2.2.1.h]], x.2.2.2.2.1⟩),
      (1, some ⟨true, 2, [[.list true 4 [], .list true 2 []]], []⟩), (2, some ⟨true, 2, [[.list true 4 (x.2.2.2.1.map opRow), .list true 2 []]], x.2.2.2.2.2⟩)], 3⟩)
    (fun x => askG L x.1 x.2.1 x.2.2.1 x.2.2.2.1 = askG L 4 0 c [] ∧ x.1 + x.2.1 = 4 ∧ 1 ≤ x.1 ∧ x.2.2.2.1.length ≤ x.2.1) (x := (4, 0, c, [], [], [[(0, 0)], [(0, 1)]])) ?round ?h0 ?hn
  case h0 => exact ⟨rfl, rfl, Nat.le_of_ble_eq_true rfl, Nat.le_refl _⟩
  case hn =>
    (refine norm_to [(0, 0), (1, 1), (66561, 2)] rfl ?_ ?_ <;> simp only [go_sem, Int.reduceToNat, Int.reduceEq, Int.reduceLT, Int.reduceLE, Int.reduceNeg, Int.reduceSub, Int.reduceAdd, ge_iff_le, gt_iff_lt, ↓reduceIte, Nat.reduceEqDiff, Nat.reduceAdd, Nat.reduceMul, Nat.reduceLT, Nat.reduceLeDiff, Nat.reduceBEq, reduceCtorEq])
  rintro ⟨n, i, d, l, lg, lg2⟩ ⟨hg, hs, hn1, hs1⟩
  simp only at hg hs hn1 hs1
  have rB := runs_109 v L hL d 4 (by decide) (by decide)
  have hb := belV_in L d (n := 4) (by decide)
  refine vw_seq ?_
  (refine vw_go rfl ?_; simp only [go_sem, setCells, setIn, Int.reduceToNat, Int.reduceEq, Int.reduceLT, Int.reduceLE, Int.reduceNeg, Int.reduceSub, Int.reduceAdd, ge_iff_le, gt_iff_lt, ↓reduceIte, Nat.reduceEqDiff, Nat.reduceAdd, Nat.reduceMul, Nat.reduceLT, Nat.reduceLeDiff, Nat.reduceBEq, reduceCtorEq])
  (refine ⟨_, _, call_pt [0, 0] 0 Try.func109 (rB) rfl rfl rfl rfl rfl rfl rfl rfl (by simp [lendAll, lendC, seek, fresh, nav, rcells, RT.cells, VV.cells, tabE_cons, tabS_cons, St.put, ev, lit, take_map_len]) rfl rfl (by simp [rcells, RT.cells, CT.fine, T.fine]) (by exact ⟨.inr ⟨0, _, _, rfl, .head _, .head _⟩, trivial, trivial, trivial⟩) rfl rfl, ?_⟩)
  simp only [runH, runX, go_sem, setCells, setIn, Int.reduceToNat, Int.reduceEq, Int.reduceLT, Int.reduceLE, Int.reduceNeg, Int.reduceSub, Int.reduceAdd, ge_iff_le, gt_iff_lt, ↓reduceIte, Nat.reduceEqDiff, Nat.reduceAdd, Nat.reduceMul, Nat.reduceLT, Nat.reduceLeDiff, Nat.reduceBEq, reduceCtorEq]
  by_cases hc : (i : Int) < belV L d 4
  · refine vw_cond (t := true) (by simp [ev, tabE_cons, hc]) (fun _ => ?_) (fun h => nomatch h)
    refine vw_skip (n_then ?_)
    obtain ⟨k, rfl⟩ : ∃ k, n = k + 1 := ⟨n - 1, by omega⟩
    rw [askG, if_pos hc] at hg
    have rO := runs_147 v L hL (byteC L d) (drawOp L (byteC L d)).1 (drawOp L (byteC L d)).2 rfl
    generalize drawOp L (byteC L d) = oc at rO hg
    obtain ⟨o, e⟩ := oc
    (try simp only at rO hg)
    have B1 : ¬ (l.length + 1 + 1) * (56 + 1) > bigRow := big_le (by omega) (by decide) (by decide)
    have bt : List.take l.length (l.map opRow) = l.map opRow := List.take_of_length_le (by simp)
    have w3 : IntKind.wrap .i64 ((i:Int) + 1) = ((i + 1 : Nat) : Int) := by rw [wrap_i64 (by omega) (by omega)]; rfl
    refine vw_seq ?_
    refine vw_block ?_
    refine vw_drawA_last mixed rfl rfl ?_
    intro A hAA
    have k3 : (A[3]?).bind (·.dst) = some 16 := by subst hAA; rfl
    simp (maxSteps := 1000000) only [k3, go_sem, setCells, setIn, Int.reduceToNat, Int.reduceEq, Int.reduceLT, Int.reduceLE, Int.reduceNeg, Int.reduceSub, Int.reduceAdd, ge_iff_le, gt_iff_lt, ↓reduceIte, Nat.reduceEqDiff, Nat.reduceAdd, Nat.reduceMul, Nat.reduceLT, Nat.reduceLeDiff, Nat.reduceBEq, reduceCtorEq, runW_step]
    (refine ⟨_, _, _, call_pt_at [0] 0 [] Try.func147 (rO) rfl rfl rfl rfl rfl rfl rfl rfl (fun st1 hst1 => by (try simp only [List.mem_cons, List.not_mem_nil, or_false, false_or, forall_eq_or_imp, forall_eq] at hst1); simp [lendAll, lendC, seek, fresh, nav, rcells, RT.cells, VV.cells, tabE_cons, tabS_cons, St.put, ev, lit, take_map_len, hst1]) rfl rfl (fun st1 hst1 => by simp [rcells, RT.cells, CT.fine, T.fine]) (fun st1 hst1 => by exact ⟨.inr ⟨0, _, _, (hst1 _ (.head _)).trans rfl, .head _, .head _⟩, trivial, trivial, trivial⟩) rfl rfl, ?_⟩)
    (unfold runX; simp (maxSteps := 1000000) only [B1, List.drop_length, List.length_append, range1, List.replicate_succ, List.replicate_zero, List.flatten_cons, List.flatten_nil, List.range_zero, gt_iff_lt, bt, take_snoc, take_snoc2, go_sem, setCells, setIn, Int.reduceToNat, Int.reduceEq, Int.reduceLT, Int.reduceLE, Int.reduceNeg, Int.reduceSub, Int.reduceAdd, ge_iff_le, gt_iff_lt, ↓reduceIte, Nat.reduceEqDiff, Nat.reduceAdd, Nat.reduceMul, Nat.reduceLT, Nat.reduceLeDiff, Nat.reduceBEq, reduceCtorEq, runW_step])
    refine ⟨by subst hAA; unfold allOk; kernel_rfl, ?_⟩
    refine (n_block (n_then ?_))
    (refine vw_last rfl ?_; simp only [w3, go_sem, setCells, setIn, Int.reduceToNat, Int.reduceEq, Int.reduceLT, Int.reduceLE, Int.reduceNeg, Int.reduceSub, Int.reduceAdd, ge_iff_le, gt_iff_lt, ↓reduceIte, Nat.reduceEqDiff, Nat.reduceAdd, Nat.reduceMul, Nat.reduceLT, Nat.reduceLeDiff, Nat.reduceBEq, reduceCtorEq])
    refine (n_then ?_)
    refine ⟨(k, i + 1, e, l ++ [o], (lg ++ [[]]) ++ [[]], lg2 ++ [[(0, 0)]]), by simp only; omega, ⟨hg, by simp only; omega, by simp only; omega, by simp only [List.length_append, List.length_cons, List.length_nil]; omega⟩, ?_⟩
    have e4 : l.map opRow ++ [[.int .i64 o.kind, .str o.path, .str o.to, .str o.data]] = (l ++ [o]).map opRow := by simp [opRow]
    rw [e4]
    generalize l ++ [o] = l'
    (refine norm_to [(0, 0), (1, 1), (2, 2)] rfl ?_ ?_ <;> simp only [go_sem, Int.reduceToNat, Int.reduceEq, Int.reduceLT, Int.reduceLE, Int.reduceNeg, Int.reduceSub, Int.reduceAdd, ge_iff_le, gt_iff_lt, ↓reduceIte, Nat.reduceEqDiff, Nat.reduceAdd, Nat.reduceMul, Nat.reduceLT, Nat.reduceLeDiff, Nat.reduceBEq, reduceCtorEq])
  refine vw_cond (t := false) (by simp [ev, tabE_cons, hc]) (fun h => nomatch h) (fun _ => ?_)
  refine vw_exit (x_then (x_then (x_block (n_then ?_))))
  rw [askG_end (by omega) hc] at hg
  rw [← hg] at hC
  simp only at hC
  have hl3 : l.length ≤ 3 := by omega
  clear hg hs hn1 rB hb hc
  refine vw_seq ?_
  (refine vw_go rfl ?_; simp only [go_sem, setCells, setIn, Int.reduceToNat, Int.reduceEq, Int.reduceLT, Int.reduceLE, Int.reduceNeg, Int.reduceSub, Int.reduceAdd, ge_iff_le, gt_iff_lt, ↓reduceIte, Nat.reduceEqDiff, Nat.reduceAdd, Nat.reduceMul, Nat.reduceLT, Nat.reduceLeDiff, Nat.reduceBEq, reduceCtorEq])
  refine vw_block ?_
  generalize byteC L d = c1 at hC ⊢
  refine vw_loop_tab (α := Nat × Nat × Cur × List TellV × List Path × List Path) (fun x => x.1) (fun x => ⟨tabE [(0, .ptr 0 [] 0 0 0), (2, .ptr 1 [] 0 0 0), (3, .ptr 2 [] 0 0 0), (5, .c (.int .i64 x.2.1))], tabS [(0, some ⟨true, 3, [[.held v 1 (L.map bRow), .int .i64 x.2.2.1.i, .int .i64 x.2.2.1.h]], x.2.2.2.2.1⟩),
      (1, some ⟨true, 2, [[.list true 4 [], .list true 2 []]], []⟩), (2, some ⟨true, 2, [[.list true 4 (l.map opRow), .list true 2 (x.2.2.2.1.map tellRow)]], x.2.2.2.2.2⟩)], 3⟩)
    (fun x => tellG L x.1 x.2.1 x.2.2.1 x.2.2.2.1 = tellG L 4 0 c1 [] ∧ x.1 + x.2.1 = 4 ∧ 1 ≤ x.1 ∧ x.2.2.2.1.length ≤ x.2.1) (x := (4, 0, c1, [], lg ++ [[]], lg2)) ?round2 ?h02 ?hn2
  case h02 => exact ⟨rfl, rfl, Nat.le_of_ble_eq_true rfl, Nat.le_refl _⟩
  case hn2 =>
    (refine norm_to [(0, 0), (1, 1), (2, 2)] rfl ?_ ?_ <;> simp only [go_sem, Int.reduceToNat, Int.reduceEq, Int.reduceLT, Int.reduceLE, Int.reduceNeg, Int.reduceSub, Int.reduceAdd, ge_iff_le, gt_iff_lt, ↓reduceIte, Nat.reduceEqDiff, Nat.reduceAdd, Nat.reduceMul, Nat.reduceLT, Nat.reduceLeDiff, Nat.reduceBEq, reduceCtorEq])
  rintro ⟨n, i, d, m, lg, lg2⟩ ⟨hg, hs, hn1, hs1⟩
  simp only at hg hs hn1 hs1
  have rB := runs_109 v L hL d 4 (by decide) (by decide)
  have hb := belV_in L d (n := 4) (by decide)
  refine vw_seq ?_
  (refine vw_go rfl ?_; simp only [go_sem, setCells, setIn, Int.reduceToNat, Int.reduceEq, Int.reduceLT, Int.reduceLE, Int.reduceNeg, Int.reduceSub, Int.reduceAdd, ge_iff_le, gt_iff_lt, ↓reduceIte, Nat.reduceEqDiff, Nat.reduceAdd, Nat.reduceMul, Nat.reduceLT, Nat.reduceLeDiff, Nat.reduceBEq, reduceCtorEq])
  (refine ⟨_, _, call_pt [0, 0] 0 Try.func109 (rB) rfl rfl rfl rfl rfl rfl rfl rfl (by simp [lendAll, lendC, seek, fresh, nav, rcells, RT.cells, VV.cells, tabE_cons, tabS_cons, St.put, ev, lit, take_map_len]) rfl rfl (by simp [rcells, RT.cells, CT.fine, T.fine]) (by exact ⟨.inr ⟨0, _, _, rfl, .head _, .head _⟩, trivial, trivial, trivial⟩) rfl rfl, ?_⟩)
  simp only [runH, runX, go_sem, setCells, setIn, Int.reduceToNat, Int.reduceEq, Int.reduceLT, Int.reduceLE, Int.reduceNeg, Int.reduceSub, Int.reduceAdd, ge_iff_le, gt_iff_lt, ↓reduceIte, Nat.reduceEqDiff, Nat.reduceAdd, Nat.reduceMul, Nat.reduceLT, Nat.reduceLeDiff, Nat.reduceBEq, reduceCtorEq]
  by_cases hc : (i : Int) < belV L d 4
  · refine vw_cond (t := true) (by simp [ev, tabE_cons, hc]) (fun _ => ?_) (fun h => nomatch h)
    refine vw_skip (n_then ?_)
    obtain ⟨k, rfl⟩ : ∃ k, n = k + 1 := ⟨n - 1, by omega⟩
    rw [tellG, if_pos hc] at hg
    unfold drawTell at hg
    have rK := runs_109 v L hL (byteC L d) 8 (by decide) (by decide)
    have rT := runs_110 v L hL (byteC L (byteC L d)) _ rfl
    generalize drawText L (byteC L (byteC L d)) = oc at rT hg
    obtain ⟨o, e⟩ := oc
    (try simp only at rT hg)
    generalize belV L (byteC L d) 8 = z at rK hg
    have B1 : ¬ (m.length + 1 + 1) * (24 + 1) > bigRow := big_le (Nat.le_trans hs1 (by omega)) (by decide) (by decide)
    have bt : List.take m.length (m.map tellRow) = m.map tellRow := List.take_of_length_le (by simp)
    have w3 : IntKind.wrap .i64 ((i:Int) + 1) = ((i + 1 : Nat) : Int) := by rw [wrap_i64 (by omega) (by omega)]; rfl
    refine vw_seq ?_
    refine vw_block ?_
    refine vw_drawA_last mixed rfl rfl ?_
    intro A hAA
    have k3 : (A[3]?).bind (·.dst) = some 29 := by subst hAA; rfl
    have k5 : (A[5]?).bind (·.dst) = some 31 := by subst hAA; rfl
    simp (maxSteps := 1000000) only [k3, k5, go_sem, setCells, setIn, Int.reduceToNat, Int.reduceEq, Int.reduceLT, Int.reduceLE, Int.reduceNeg, Int.reduceSub, Int.reduceAdd, ge_iff_le, gt_iff_lt, ↓reduceIte, Nat.reduceEqDiff, Nat.reduceAdd, Nat.reduceMul, Nat.reduceLT, Nat.reduceLeDiff, Nat.reduceBEq, reduceCtorEq, runW_step]
    (refine ⟨_, _, _, call_pt_at [0, 0] 0 [] Try.func109 (rK) rfl rfl rfl rfl rfl rfl rfl rfl (fun st1 hst1 => by (try simp only [List.mem_cons, List.not_mem_nil, or_false, false_or, forall_eq_or_imp, forall_eq] at hst1); simp [lendAll, lendC, seek, fresh, nav, rcells, RT.cells, VV.cells, tabE_cons, tabS_cons, St.put, ev, lit, take_map_len, hst1]) rfl rfl (fun st1 hst1 => by simp [rcells, RT.cells, CT.fine, T.fine]) (fun st1 hst1 => by exact ⟨.inr ⟨0, _, _, (hst1 _ (.head _)).trans rfl, .head _, .head _⟩, trivial, trivial, trivial⟩) rfl rfl, ?_⟩)
    (unfold runX; simp (maxSteps := 1000000) only [k3, k5, go_sem, setCells, setIn, Int.reduceToNat, Int.reduceEq, Int.reduceLT, Int.reduceLE, Int.reduceNeg, Int.reduceSub, Int.reduceAdd, ge_iff_le, gt_iff_lt, ↓reduceIte, Nat.reduceEqDiff, Nat.reduceAdd, Nat.reduceMul, Nat.reduceLT, Nat.reduceLeDiff, Nat.reduceBEq, reduceCtorEq, runW_step])
    (refine ⟨_, _, _, call_pt_at [0] 0 [] Try.func110 (rT) rfl rfl rfl rfl rfl rfl rfl rfl (fun st1 hst1 => by (try simp only [List.mem_cons, List.not_mem_nil, or_false, false_or, forall_eq_or_imp, forall_eq] at hst1); simp [lendAll, lendC, seek, fresh, nav, rcells, RT.cells, VV.cells, tabE_cons, tabS_cons, St.put, ev, lit, take_map_len, hst1]) rfl rfl (fun st1 hst1 => by simp [rcells, RT.cells, CT.fine, T.fine]) (fun st1 hst1 => by exact ⟨.inr ⟨0, _, _, (hst1 _ (.head _)).trans rfl, .head _, .head _⟩, trivial, trivial, trivial⟩) rfl rfl, ?_⟩)
    (unfold runX; simp (maxSteps := 1000000) only [k3, k5, B1, List.drop_length, List.length_append, range1, List.replicate_succ, List.replicate_zero, List.flatten_cons, List.flatten_nil, List.range_zero, gt_iff_lt, bt, take_snoc, take_snoc2, go_sem, setCells, setIn, Int.reduceToNat, Int.reduceEq, Int.reduceLT, Int.reduceLE, Int.reduceNeg, Int.reduceSub, Int.reduceAdd, ge_iff_le, gt_iff_lt, ↓reduceIte, Nat.reduceEqDiff, Nat.reduceAdd, Nat.reduceMul, Nat.reduceLT, Nat.reduceLeDiff, Nat.reduceBEq, reduceCtorEq, runW_step])
    refine ⟨by subst hAA; unfold allOk; kernel_rfl, ?_⟩
    refine (n_block (n_then ?_))
    (refine vw_last rfl ?_; simp only [w3, go_sem, setCells, setIn, Int.reduceToNat, Int.reduceEq, Int.reduceLT, Int.reduceLE, Int.reduceNeg, Int.reduceSub, Int.reduceAdd, ge_iff_le, gt_iff_lt, ↓reduceIte, Nat.reduceEqDiff, Nat.reduceAdd, Nat.reduceMul, Nat.reduceLT, Nat.reduceLeDiff, Nat.reduceBEq, reduceCtorEq])
    refine (n_then ?_)
    refine ⟨(k, i + 1, e, m ++ [(⟨z, o⟩ : TellV)], ((lg ++ [[]]) ++ [[]]) ++ [[]], lg2 ++ [[(0, 1)]]), by simp only; omega, ⟨hg, by simp only; omega, by simp only; omega, by simp only [List.length_append, List.length_cons, List.length_nil]; omega⟩, ?_⟩
    have e4 : m.map tellRow ++ [[.int .i64 z, .str o]] = (m ++ [(⟨z, o⟩ : TellV)]).map tellRow := by simp [tellRow]
    rw [e4]
    generalize m ++ [(⟨z, o⟩ : TellV)] = m'
    (refine norm_to [(0, 0), (1, 1), (2, 2)] rfl ?_ ?_ <;> simp only [go_sem, Int.reduceToNat, Int.reduceEq, Int.reduceLT, Int.reduceLE, Int.reduceNeg, Int.reduceSub, Int.reduceAdd, ge_iff_le, gt_iff_lt, ↓reduceIte, Nat.reduceEqDiff, Nat.reduceAdd, Nat.reduceMul, Nat.reduceLT, Nat.reduceLeDiff, Nat.reduceBEq, reduceCtorEq])
  refine vw_cond (t := false) (by simp [ev, tabE_cons, hc]) (fun h => nomatch h) (fun _ => ?_)
  refine vw_exit (x_then (x_then (x_block (n_then ?_))))
  rw [tellG_end (by omega) hc] at hg
  rw [← hg] at hC
  simp only at hC
  have hm3 : m.length ≤ 3 := by omega
  clear hg hs hn1 rB hb hc
  generalize byteC L d = c2 at hC ⊢
  have rZ := runs_109 v L hL c2 15 (by decide) (by decide)
  have B1 : ¬ (l.length + 2 + 1) * (56 + 1) > bigRow := big_le (Nat.le_trans hl3 (by decide)) (by decide) (by decide)
  have B2 : ¬ (m.length + 2 + 1) * (24 + 1) > bigRow := big_le (Nat.le_trans hm3 (by decide)) (by decide) (by decide)
  have bt : List.take l.length (l.map opRow) = l.map opRow := List.take_of_length_le (by simp)
  have bt2 : List.take m.length (m.map tellRow) = m.map tellRow := List.take_of_length_le (by simp)
  refine vw_seq ?_
  (refine vw_go rfl ?_; simp only [go_sem, setCells, setIn, Int.reduceToNat, Int.reduceEq, Int.reduceLT, Int.reduceLE, Int.reduceNeg, Int.reduceSub, Int.reduceAdd, ge_iff_le, gt_iff_lt, ↓reduceIte, Nat.reduceEqDiff, Nat.reduceAdd, Nat.reduceMul, Nat.reduceLT, Nat.reduceLeDiff, Nat.reduceBEq, reduceCtorEq])
  (refine ⟨_, _, call_pt [0, 0] 0 Try.func109 (rZ) rfl rfl rfl rfl rfl rfl rfl rfl (by simp [lendAll, lendC, seek, fresh, nav, rcells, RT.cells, VV.cells, tabE_cons, tabS_cons, St.put, ev, lit, take_map_len]) rfl rfl (by simp [rcells, RT.cells, CT.fine, T.fine]) (by exact ⟨.inr ⟨0, _, _, rfl, .head _, .head _⟩, trivial, trivial, trivial⟩) rfl rfl, ?_⟩)
  simp only [runH, runX, go_sem, setCells, setIn, Int.reduceToNat, Int.reduceEq, Int.reduceLT, Int.reduceLE, Int.reduceNeg, Int.reduceSub, Int.reduceAdd, ge_iff_le, gt_iff_lt, ↓reduceIte, Nat.reduceEqDiff, Nat.reduceAdd, Nat.reduceMul, Nat.reduceLT, Nat.reduceLeDiff, Nat.reduceBEq, reduceCtorEq]
  generalize belV L c2 15 = k at hC
  refine vw_block ?_
  by_cases h0 : k = 0
  · rw [if_pos h0] at hC
    simp only [Prod.mk.injEq] at hC
    obtain ⟨rfl, rfl⟩ := hC
    subst h0
    (refine vw_go rfl ?_; simp only [go_sem, setCells, setIn, Int.reduceToNat, Int.reduceEq, Int.reduceLT, Int.reduceLE, Int.reduceNeg, Int.reduceSub, Int.reduceAdd, ge_iff_le, gt_iff_lt, ↓reduceIte, Nat.reduceEqDiff, Nat.reduceAdd, Nat.reduceMul, Nat.reduceLT, Nat.reduceLeDiff, Nat.reduceBEq, reduceCtorEq])
    (refine vw_cond (t := true) rfl (fun _ => ?_) (fun h => nomatch h))
    (refine vw_last rfl ?_; simp only [B1, List.drop_length, List.length_append, range1, List.replicate_succ, List.replicate_zero, List.flatten_cons, List.flatten_nil, List.range_zero, gt_iff_lt, bt, take_snoc, take_snoc2, go_sem, setCells, setIn, Int.reduceToNat, Int.reduceEq, Int.reduceLT, Int.reduceLE, Int.reduceNeg, Int.reduceSub, Int.reduceAdd, ge_iff_le, gt_iff_lt, ↓reduceIte, Nat.reduceEqDiff, Nat.reduceAdd, Nat.reduceMul, Nat.reduceLT, Nat.reduceLeDiff, Nat.reduceBEq, reduceCtorEq])
    refine (n_block (n_then ?_))
    have e4 : l.map opRow ++ [[.int .i64 0, .str ⟨#[]⟩, .str ⟨#[]⟩, .str ⟨#[]⟩], [.int .i64 0, .str ⟨#[]⟩, .str ⟨#[]⟩, .str ⟨#[]⟩]] = (l ++ [nilOp, nilOp]).map opRow := by simp [opRow, nilOp]
    rw [e4]
    generalize l ++ [nilOp, nilOp] = l'
    have bt : List.take l'.length (l'.map opRow) = l'.map opRow := List.take_of_length_le (by simp)
    (refine vw_go rfl ?_; simp only [List.drop_length, bt, bt2, go_sem, setCells, setIn, Int.reduceToNat, Int.reduceEq, Int.reduceLT, Int.reduceLE, Int.reduceNeg, Int.reduceSub, Int.reduceAdd, ge_iff_le, gt_iff_lt, ↓reduceIte, Nat.reduceEqDiff, Nat.reduceAdd, Nat.reduceMul, Nat.reduceLT, Nat.reduceLeDiff, Nat.reduceBEq, reduceCtorEq])
    exact vw_ret (e_ret (ret_b rfl rfl (by simp [RB]) rfl (by simp only [takeCs, takeC, List.drop_length, bt, bt2, go_sem, setCells, setIn, Int.reduceToNat, Int.reduceEq, Int.reduceLT, Int.reduceLE, Int.reduceNeg, Int.reduceSub, Int.reduceAdd, ge_iff_le, gt_iff_lt, ↓reduceIte, Nat.reduceEqDiff, Nat.reduceAdd, Nat.reduceMul, Nat.reduceLT, Nat.reduceLeDiff, Nat.reduceBEq, reduceCtorEq]; rfl) (by exact ⟨⟨by simp, _, rfl, rfl, rfl, rfl⟩, trivial⟩)))
  rw [if_neg h0] at hC
  (refine vw_go rfl ?_; simp only [h0, go_sem, setCells, setIn, Int.reduceToNat, Int.reduceEq, Int.reduceLT, Int.reduceLE, Int.reduceNeg, Int.reduceSub, Int.reduceAdd, ge_iff_le, gt_iff_lt, ↓reduceIte, Nat.reduceEqDiff, Nat.reduceAdd, Nat.reduceMul, Nat.reduceLT, Nat.reduceLeDiff, Nat.reduceBEq, reduceCtorEq])
  (refine vw_cond (t := false) rfl (fun h => nomatch h) (fun _ => ?_))
  by_cases h1 : k = 1
  · rw [if_pos h1] at hC
    simp only [Prod.mk.injEq] at hC
    obtain ⟨rfl, rfl⟩ := hC
    subst h1
    (refine vw_go rfl ?_; simp only [go_sem, setCells, setIn, Int.reduceToNat, Int.reduceEq, Int.reduceLT, Int.reduceLE, Int.reduceNeg, Int.reduceSub, Int.reduceAdd, ge_iff_le, gt_iff_lt, ↓reduceIte, Nat.reduceEqDiff, Nat.reduceAdd, Nat.reduceMul, Nat.reduceLT, Nat.reduceLeDiff, Nat.reduceBEq, reduceCtorEq])
    (refine vw_cond (t := true) rfl (fun _ => ?_) (fun h => nomatch h))
    (refine vw_last rfl ?_; simp only [B2, List.drop_length, List.length_append, range1, List.replicate_succ, List.replicate_zero, List.flatten_cons, List.flatten_nil, List.range_zero, gt_iff_lt, bt2, take_snoc, take_snoc2, go_sem, setCells, setIn, Int.reduceToNat, Int.reduceEq, Int.reduceLT, Int.reduceLE, Int.reduceNeg, Int.reduceSub, Int.reduceAdd, ge_iff_le, gt_iff_lt, ↓reduceIte, Nat.reduceEqDiff, Nat.reduceAdd, Nat.reduceMul, Nat.reduceLT, Nat.reduceLeDiff, Nat.reduceBEq, reduceCtorEq])
    refine (n_block (n_then ?_))
    have e4 : m.map tellRow ++ [[.int .i64 0, .str ⟨#[]⟩], [.int .i64 0, .str ⟨#[]⟩]] = (m ++ [nilTell, nilTell]).map tellRow := by simp [tellRow, nilTell]
    rw [e4]
    generalize m ++ [nilTell, nilTell] = m'
    have bt2 : List.take m'.length (m'.map tellRow) = m'.map tellRow := List.take_of_length_le (by simp)
    (refine vw_go rfl ?_; simp only [List.drop_length, bt, bt2, go_sem, setCells, setIn, Int.reduceToNat, Int.reduceEq, Int.reduceLT, Int.reduceLE, Int.reduceNeg, Int.reduceSub, Int.reduceAdd, ge_iff_le, gt_iff_lt, ↓reduceIte, Nat.reduceEqDiff, Nat.reduceAdd, Nat.reduceMul, Nat.reduceLT, Nat.reduceLeDiff, Nat.reduceBEq, reduceCtorEq])
    exact vw_ret (e_ret (ret_b rfl rfl (by simp [RB]) rfl (by simp only [takeCs, takeC, List.drop_length, bt, bt2, go_sem, setCells, setIn, Int.reduceToNat, Int.reduceEq, Int.reduceLT, Int.reduceLE, Int.reduceNeg, Int.reduceSub, Int.reduceAdd, ge_iff_le, gt_iff_lt, ↓reduceIte, Nat.reduceEqDiff, Nat.reduceAdd, Nat.reduceMul, Nat.reduceLT, Nat.reduceLeDiff, Nat.reduceBEq, reduceCtorEq]; rfl) (by exact ⟨⟨by simp, _, rfl, rfl, rfl, rfl⟩, trivial⟩)))
  rw [if_neg h1] at hC
  simp only [Prod.mk.injEq] at hC
  obtain ⟨rfl, rfl⟩ := hC
  (refine vw_go rfl ?_; simp only [h1, go_sem, setCells, setIn, Int.reduceToNat, Int.reduceEq, Int.reduceLT, Int.reduceLE, Int.reduceNeg, Int.reduceSub, Int.reduceAdd, ge_iff_le, gt_iff_lt, ↓reduceIte, Nat.reduceEqDiff, Nat.reduceAdd, Nat.reduceMul, Nat.reduceLT, Nat.reduceLeDiff, Nat.reduceBEq, reduceCtorEq])
  (refine vw_cond (t := false) rfl (fun h => nomatch h) (fun _ => ?_))
  refine vw_skip (n_block (n_then ?_))
  (refine vw_go rfl ?_; simp only [List.drop_length, bt, bt2, go_sem, setCells, setIn, Int.reduceToNat, Int.reduceEq, Int.reduceLT, Int.reduceLE, Int.reduceNeg, Int.reduceSub, Int.reduceAdd, ge_iff_le, gt_iff_lt, ↓reduceIte, Nat.reduceEqDiff, Nat.reduceAdd, Nat.reduceMul, Nat.reduceLT, Nat.reduceLeDiff, Nat.reduceBEq, reduceCtorEq])
  exact vw_ret (e_ret (ret_b rfl rfl (by simp [RB]) rfl (by simp only [takeCs, takeC, List.drop_length, bt, bt2, go_sem, setCells, setIn, Int.reduceToNat, Int.reduceEq, Int.reduceLT, Int.reduceLE, Int.reduceNeg, Int.reduceSub, Int.reduceAdd, ge_iff_le, gt_iff_lt, ↓reduceIte, Nat.reduceEqDiff, Nat.reduceAdd, Nat.reduceMul, Nat.reduceLT, Nat.reduceLeDiff, Nat.reduceBEq, reduceCtorEq]; rfl) (by exact ⟨⟨by simp, _, rfl, rfl, rfl, rfl⟩, trivial⟩)))
end Go.Proofs.Ytppbonbghmdhhaa
