/- DrawPartStep, DrawCodeOk, DrawPartOk; what is drawn is small; a step's law. -/
import Derived.Test.YtppbonbghmdhhaaPFDrawU
import Derived.Test.YtppbonbghmdhhaaPFStep
import Derived.Test.YtppbonbghmdhhaaPLPorts
namespace Go.Proofs.Ytppbonbghmdhhaa
open Go.VM Go
set_option maxRecDepth 100000
set_option linter.unusedSimpArgs false
set_option linter.unusedVariables false
attribute [-go_sem] runW_cons
attribute [local congr] vw_congr runV_congr runH_congr runW_congr runX_congr

theorem insRow_fine (H : Value → Nat → List (List T) → Prop) (l : List InsV) : fineRs H (l.map insRow) = True := eq_true (fineRs_of (insRow_clean l))

theorem runs_55 (L : List UInt8) (hL : L.length < 2 ^ 60) (x : PartV) (hx : x = (drawPart L (newC L)).1) :
    Runs Try.prog 55 [.one (.v (.list false 1 (L.map bRow)))] [.agg [.v (.list true 6 (x.code.map insRow)), .v (.int .i64 x.at_), .v (.list true 2 (x.seen.map tellRow)), .v (.bool x.over)]] [] := by
  refine runs_hold (fun v => ?_)
  refine runs_tab (tab := [(0, .c (.held v 1 (L.map bRow)))]) (rts := []) (n := 6) (k := 1) Try.func55 rfl rfl (by simp) rfl (fun t => ?_) rfl ?_
  · rcases t with _ | t <;> rfl
  have rN := runs_104 v L hL _ rfl
  generalize newC L = c at rN hx
  have rP := runs_111 v L hL c x (drawPart L c).2 (by rw [hx])
  have bt : List.take x.code.length (x.code.map insRow) = x.code.map insRow := List.take_of_length_le (by simp)
  have bt2 : List.take x.seen.length (x.seen.map tellRow) = x.seen.map tellRow := List.take_of_length_le (by simp)
  (refine vw_go rfl ?_; simp only [go_sem, setCells, setIn, Int.reduceToNat, Int.reduceEq, Int.reduceLT, Int.reduceLE, Int.reduceNeg, Int.reduceSub, Int.reduceAdd, ge_iff_le, gt_iff_lt, ↓reduceIte, Nat.reduceEqDiff, Nat.reduceAdd, Nat.reduceMul, Nat.reduceLT, Nat.reduceLeDiff, Nat.reduceBEq, reduceCtorEq])
  (refine vw_go rfl ?_; simp only [go_sem, setCells, setIn, Int.reduceToNat, Int.reduceEq, Int.reduceLT, Int.reduceLE, Int.reduceNeg, Int.reduceSub, Int.reduceAdd, ge_iff_le, gt_iff_lt, ↓reduceIte, Nat.reduceEqDiff, Nat.reduceAdd, Nat.reduceMul, Nat.reduceLT, Nat.reduceLeDiff, Nat.reduceBEq, reduceCtorEq])
  (refine ⟨_, _, call_fine [0] Try.func104 (rN) rfl rfl rfl rfl rfl rfl rfl (by simp [lendAll, lendC, seek, fresh, nav, rcells, RT.cells, VV.cells, tabE_cons, tabS_cons, ev, take_map_len]) rfl (by simp [rcells, RT.cells, CT.fine, fineR, T.fine, Known, VV.cells, ev, tabE_cons]) rfl rfl, ?_⟩)
  simp only [runH, runX, go_sem, setCells, setIn, Int.reduceToNat, Int.reduceEq, Int.reduceLT, Int.reduceLE, Int.reduceNeg, Int.reduceSub, Int.reduceAdd, ge_iff_le, gt_iff_lt, ↓reduceIte, Nat.reduceEqDiff, Nat.reduceAdd, Nat.reduceMul, Nat.reduceLT, Nat.reduceLeDiff, Nat.reduceBEq, reduceCtorEq]
  (refine ⟨_, _, call_pt [0] 66561 Try.func111 (rP) rfl rfl rfl rfl rfl rfl rfl rfl (by simp [lendAll, lendC, seek, fresh, nav, rcells, RT.cells, VV.cells, tabE_cons, tabS_cons, St.put, ev, lit, take_map_len, insRow_fine, tellRow_fine]) rfl rfl (by simp [rcells, RT.cells, CT.fine, T.fine, insRow_fine, tellRow_fine]) (by exact ⟨.inr ⟨66561, _, _, rfl, .head _, .head _⟩, trivial, trivial, trivial⟩) rfl rfl, ?_⟩)
  simp only [runH, runX, go_sem, setCells, setIn, Int.reduceToNat, Int.reduceEq, Int.reduceLT, Int.reduceLE, Int.reduceNeg, Int.reduceSub, Int.reduceAdd, ge_iff_le, gt_iff_lt, ↓reduceIte, Nat.reduceEqDiff, Nat.reduceAdd, Nat.reduceMul, Nat.reduceLT, Nat.reduceLeDiff, Nat.reduceBEq, reduceCtorEq]
  exact vw_ret (e_ret (ret_by rfl rfl (by simp [RB]) rfl (by simp only [takeCs, takeC, go_sem, setCells, setIn, Int.reduceToNat, Int.reduceEq, Int.reduceLT, Int.reduceLE, Int.reduceNeg, Int.reduceSub, Int.reduceAdd, ge_iff_le, gt_iff_lt, ↓reduceIte, Nat.reduceEqDiff, Nat.reduceAdd, Nat.reduceMul, Nat.reduceLT, Nat.reduceLeDiff, Nat.reduceBEq, reduceCtorEq])))

theorem runs_54 (L : List UInt8) (hL : L.length < 2 ^ 60) (l : List InsV) (hl : l = (spoil L (drawCode L (newC L)).2 (drawCode L (newC L)).1).1) :
    Runs Try.prog 54 [.one (.v (.list false 1 (L.map bRow)))] [.one (.v (.list true 6 (l.map insRow)))] [] := by
  refine runs_hold (fun v => ?_)
  refine runs_tab (tab := [(0, .c (.held v 1 (L.map bRow)))]) (rts := []) (n := 10) (k := 1) Try.func54 rfl rfl (by simp) rfl (fun t => ?_) rfl ?_
  · rcases t with _ | t <;> rfl
  have rN := runs_104 v L hL _ rfl
  generalize newC L = c at rN hl
  have rC := runs_117 v L hL c _ rfl
  have hlen := drawCode_len L c
  generalize drawCode L c = g at rC hlen hl
  obtain ⟨code, d⟩ := g
  simp only at rC hlen hl
  have rS := runs_116 v L hL d code hlen.1 (Nat.le_trans hlen.2 (by decide)) (l, (spoil L d code).2) (by rw [hl])
  have bc : List.take code.length (code.map insRow) = code.map insRow := List.take_of_length_le (by simp)
  (refine vw_go rfl ?_; simp only [go_sem, setCells, setIn, Int.reduceToNat, Int.reduceEq, Int.reduceLT, Int.reduceLE, Int.reduceNeg, Int.reduceSub, Int.reduceAdd, ge_iff_le, gt_iff_lt, ↓reduceIte, Nat.reduceEqDiff, Nat.reduceAdd, Nat.reduceMul, Nat.reduceLT, Nat.reduceLeDiff, Nat.reduceBEq, reduceCtorEq])
  (refine vw_go rfl ?_; simp only [go_sem, setCells, setIn, Int.reduceToNat, Int.reduceEq, Int.reduceLT, Int.reduceLE, Int.reduceNeg, Int.reduceSub, Int.reduceAdd, ge_iff_le, gt_iff_lt, ↓reduceIte, Nat.reduceEqDiff, Nat.reduceAdd, Nat.reduceMul, Nat.reduceLT, Nat.reduceLeDiff, Nat.reduceBEq, reduceCtorEq])
  (refine ⟨_, _, call_fine [0] Try.func104 (rN) rfl rfl rfl rfl rfl rfl rfl (by simp [lendAll, lendC, seek, fresh, nav, rcells, RT.cells, VV.cells, tabE_cons, tabS_cons, ev, take_map_len]) rfl (by simp [rcells, RT.cells, CT.fine, fineR, T.fine, Known, VV.cells, ev, tabE_cons]) rfl rfl, ?_⟩)
  simp only [runH, runX, go_sem, setCells, setIn, Int.reduceToNat, Int.reduceEq, Int.reduceLT, Int.reduceLE, Int.reduceNeg, Int.reduceSub, Int.reduceAdd, ge_iff_le, gt_iff_lt, ↓reduceIte, Nat.reduceEqDiff, Nat.reduceAdd, Nat.reduceMul, Nat.reduceLT, Nat.reduceLeDiff, Nat.reduceBEq, reduceCtorEq]
  (refine vw_go rfl ?_; simp only [go_sem, setCells, setIn, Int.reduceToNat, Int.reduceEq, Int.reduceLT, Int.reduceLE, Int.reduceNeg, Int.reduceSub, Int.reduceAdd, ge_iff_le, gt_iff_lt, ↓reduceIte, Nat.reduceEqDiff, Nat.reduceAdd, Nat.reduceMul, Nat.reduceLT, Nat.reduceLeDiff, Nat.reduceBEq, reduceCtorEq])
  (refine ⟨_, _, call_pt [0] 66561 Try.func117 (rC) rfl rfl rfl rfl rfl rfl rfl rfl (by simp [lendAll, lendC, seek, fresh, nav, rcells, RT.cells, VV.cells, tabE_cons, tabS_cons, St.put, ev, lit, take_map_len, insRow_fine]) rfl rfl (by simp [rcells, RT.cells, CT.fine, T.fine, insRow_fine]) (by exact ⟨.inr ⟨66561, _, _, rfl, .head _, .head _⟩, trivial, trivial, trivial⟩) rfl rfl, ?_⟩)
  simp only [runH, runX, go_sem, setCells, setIn, Int.reduceToNat, Int.reduceEq, Int.reduceLT, Int.reduceLE, Int.reduceNeg, Int.reduceSub, Int.reduceAdd, ge_iff_le, gt_iff_lt, ↓reduceIte, Nat.reduceEqDiff, Nat.reduceAdd, Nat.reduceMul, Nat.reduceLT, Nat.reduceLeDiff, Nat.reduceBEq, reduceCtorEq]
  (refine ⟨_, _, call_po [0, 0] 66561 [(133121, none)] Try.func116 (rS) rfl rfl rfl rfl rfl rfl rfl rfl (by simp [takeCs, takeC, takeV, seek, fresh, nav, takenUp, rcells, RT.cells, VV.cells, tabE_cons, tabS_cons, modAt, setIn, ups_tab, ups_nil, St.put, ev, lit, take_map_len, insRow_fine, bc, List.drop_length]) rfl rfl (by simp [rcells, RT.cells, CT.fine, T.fine, insRow_fine, bc, List.drop_length]) (by exact ⟨.inr ⟨66561, _, _, rfl, .head _, .head _⟩, trivial, trivial, trivial⟩) rfl rfl, ?_⟩)
  simp only [runH, runX, go_sem, setCells, setIn, Int.reduceToNat, Int.reduceEq, Int.reduceLT, Int.reduceLE, Int.reduceNeg, Int.reduceSub, Int.reduceAdd, ge_iff_le, gt_iff_lt, ↓reduceIte, Nat.reduceEqDiff, Nat.reduceAdd, Nat.reduceMul, Nat.reduceLT, Nat.reduceLeDiff, Nat.reduceBEq, reduceCtorEq]
  exact vw_ret (e_ret (ret_by rfl rfl (by simp [RB]) rfl (by simp only [takeCs, takeC, go_sem, setCells, setIn, Int.reduceToNat, Int.reduceEq, Int.reduceLT, Int.reduceLE, Int.reduceNeg, Int.reduceSub, Int.reduceAdd, ge_iff_le, gt_iff_lt, ↓reduceIte, Nat.reduceEqDiff, Nat.reduceAdd, Nat.reduceMul, Nat.reduceLT, Nat.reduceLeDiff, Nat.reduceBEq, reduceCtorEq])))

theorem runs_50 (L : List UInt8) (hL : L.length < 2 ^ 60) (x : PartV) (hx : x = (drawPart L (newC L)).1) (p : PortV) (hp : p = (drawPort L (drawPart L (newC L)).2).1) :
    Runs Try.prog 50 [.one (.v (.list false 1 (L.map bRow)))] [.agg [.v (.list true 6 (x.code.map insRow)), .v (.int .i64 x.at_), .v (.list true 2 (x.seen.map tellRow)), .v (.bool x.over)], .agg [.v (.list true 4 (p.asks.map opRow)), .v (.list true 2 (p.tells.map tellRow))]] [] := by
  refine runs_hold (fun v => ?_)
  refine runs_tab (tab := [(0, .c (.held v 1 (L.map bRow)))]) (rts := []) (n := 13) (k := 1) Try.func50 rfl rfl (by simp) rfl (fun t => ?_) rfl ?_
  · rcases t with _ | t <;> rfl
  have rN := runs_104 v L hL _ rfl
  generalize newC L = c at rN hx hp
  have rP := runs_111 v L hL c x (drawPart L c).2 (by rw [hx])
  generalize (drawPart L c).2 = d at rP hp
  have rO := runs_105 v L hL d p (drawPort L d).2 (by rw [hp])
  have bt : List.take x.code.length (x.code.map insRow) = x.code.map insRow := List.take_of_length_le (by simp)
  have bt2 : List.take x.seen.length (x.seen.map tellRow) = x.seen.map tellRow := List.take_of_length_le (by simp)
  have bq : List.take p.asks.length (p.asks.map opRow) = p.asks.map opRow := List.take_of_length_le (by simp)
  have bq2 : List.take p.tells.length (p.tells.map tellRow) = p.tells.map tellRow := List.take_of_length_le (by simp)
  (refine vw_go rfl ?_; simp only [go_sem, setCells, setIn, Int.reduceToNat, Int.reduceEq, Int.reduceLT, Int.reduceLE, Int.reduceNeg, Int.reduceSub, Int.reduceAdd, ge_iff_le, gt_iff_lt, ↓reduceIte, Nat.reduceEqDiff, Nat.reduceAdd, Nat.reduceMul, Nat.reduceLT, Nat.reduceLeDiff, Nat.reduceBEq, reduceCtorEq])
  (refine vw_go rfl ?_; simp only [go_sem, setCells, setIn, Int.reduceToNat, Int.reduceEq, Int.reduceLT, Int.reduceLE, Int.reduceNeg, Int.reduceSub, Int.reduceAdd, ge_iff_le, gt_iff_lt, ↓reduceIte, Nat.reduceEqDiff, Nat.reduceAdd, Nat.reduceMul, Nat.reduceLT, Nat.reduceLeDiff, Nat.reduceBEq, reduceCtorEq])
  (refine ⟨_, _, call_fine [0] Try.func104 (rN) rfl rfl rfl rfl rfl rfl rfl (by simp [lendAll, lendC, seek, fresh, nav, rcells, RT.cells, VV.cells, tabE_cons, tabS_cons, ev, take_map_len]) rfl (by simp [rcells, RT.cells, CT.fine, fineR, T.fine, Known, VV.cells, ev, tabE_cons]) rfl rfl, ?_⟩)
  simp only [runH, runX, go_sem, setCells, setIn, Int.reduceToNat, Int.reduceEq, Int.reduceLT, Int.reduceLE, Int.reduceNeg, Int.reduceSub, Int.reduceAdd, ge_iff_le, gt_iff_lt, ↓reduceIte, Nat.reduceEqDiff, Nat.reduceAdd, Nat.reduceMul, Nat.reduceLT, Nat.reduceLeDiff, Nat.reduceBEq, reduceCtorEq]
  (refine vw_go rfl ?_; simp only [go_sem, setCells, setIn, Int.reduceToNat, Int.reduceEq, Int.reduceLT, Int.reduceLE, Int.reduceNeg, Int.reduceSub, Int.reduceAdd, ge_iff_le, gt_iff_lt, ↓reduceIte, Nat.reduceEqDiff, Nat.reduceAdd, Nat.reduceMul, Nat.reduceLT, Nat.reduceLeDiff, Nat.reduceBEq, reduceCtorEq])
  (refine ⟨_, _, call_pt [0] 66561 Try.func111 (rP) rfl rfl rfl rfl rfl rfl rfl rfl (by simp [lendAll, lendC, seek, fresh, nav, rcells, RT.cells, VV.cells, tabE_cons, tabS_cons, St.put, ev, lit, take_map_len, insRow_fine, tellRow_fine]) rfl rfl (by simp [rcells, RT.cells, CT.fine, T.fine, insRow_fine, tellRow_fine]) (by exact ⟨.inr ⟨66561, _, _, rfl, .head _, .head _⟩, trivial, trivial, trivial⟩) rfl rfl, ?_⟩)
  simp only [runH, runX, go_sem, setCells, setIn, Int.reduceToNat, Int.reduceEq, Int.reduceLT, Int.reduceLE, Int.reduceNeg, Int.reduceSub, Int.reduceAdd, ge_iff_le, gt_iff_lt, ↓reduceIte, Nat.reduceEqDiff, Nat.reduceAdd, Nat.reduceMul, Nat.reduceLT, Nat.reduceLeDiff, Nat.reduceBEq, reduceCtorEq]
  refine vw_drawA mixed rfl rfl ?_
  intro A hAA
  have k2 : (A[2]?).bind (·.dst) = some 12 := by subst hAA; rfl
  simp (maxSteps := 1000000) only [k2, bt, bt2, go_sem, setCells, setIn, Int.reduceToNat, Int.reduceEq, Int.reduceLT, Int.reduceLE, Int.reduceNeg, Int.reduceSub, Int.reduceAdd, ge_iff_le, gt_iff_lt, ↓reduceIte, Nat.reduceEqDiff, Nat.reduceAdd, Nat.reduceMul, Nat.reduceLT, Nat.reduceLeDiff, Nat.reduceBEq, reduceCtorEq, runW_step]
  (refine ⟨_, _, _, call_pt_at [0] 66561 [] Try.func105 (rO) rfl rfl rfl rfl rfl rfl rfl rfl (fun st1 hst1 => by (try simp only [List.mem_cons, List.not_mem_nil, or_false, false_or, forall_eq_or_imp, forall_eq] at hst1); simp [lendAll, lendC, seek, fresh, nav, rcells, RT.cells, VV.cells, tabE_cons, tabS_cons, St.put, ev, lit, take_map_len, hst1, opRow_fine, tellRow_fine]) rfl rfl (fun st1 hst1 => by simp [rcells, RT.cells, CT.fine, T.fine, opRow_fine, tellRow_fine]) (fun st1 hst1 => by exact ⟨.inr ⟨66561, _, _, (hst1 _ (.head _)).trans rfl, .head _, .head _⟩, trivial, trivial, trivial⟩) rfl rfl, ?_⟩)
  (unfold runX; simp (maxSteps := 1000000) only [k2, bt, bt2, bq, bq2, go_sem, setCells, setIn, Int.reduceToNat, Int.reduceEq, Int.reduceLT, Int.reduceLE, Int.reduceNeg, Int.reduceSub, Int.reduceAdd, ge_iff_le, gt_iff_lt, ↓reduceIte, Nat.reduceEqDiff, Nat.reduceAdd, Nat.reduceMul, Nat.reduceLT, Nat.reduceLeDiff, Nat.reduceBEq, reduceCtorEq, runW_step])
  refine ⟨by subst hAA; unfold allOk; kernel_rfl, ?_⟩
  exact vw_ret (e_ret (ret_by rfl rfl (by simp [RB]) rfl (by simp only [takeCs, takeC, go_sem, setCells, setIn, Int.reduceToNat, Int.reduceEq, Int.reduceLT, Int.reduceLE, Int.reduceNeg, Int.reduceSub, Int.reduceAdd, ge_iff_le, gt_iff_lt, ↓reduceIte, Nat.reduceEqDiff, Nat.reduceAdd, Nat.reduceMul, Nat.reduceLT, Nat.reduceLeDiff, Nat.reduceBEq, reduceCtorEq])))

theorem pathL_small : ∀ x ∈ pathL, x.size ≤ 1000 := by decide
theorem dataL_small : ∀ x ∈ dataL, x.size ≤ 1000 := by decide
theorem textL_small : ∀ x ∈ textL, x.size ≤ 1000 := by decide
theorem drawOp_ok (L : List UInt8) (c : Cur) : (drawOp L c).1.ok := by
  have h1 : ∀ d, (drawPath L d).size < 2 ^ 63 := fun d => Nat.lt_of_le_of_lt (pathL_small _ (pickV_mem L d _ (by decide))) (by decide)
  have h2 : ∀ d, (pickV L d dataL ⟨#[]⟩).size < 2 ^ 63 := fun d => Nat.lt_of_le_of_lt (dataL_small _ (pickV_mem L d _ (by decide))) (by decide)
  have h0 : (⟨#[]⟩ : ByteArray).size < 2 ^ 63 := by decide
  unfold drawOp
  split
  · exact ⟨h1 _, h0, h2 _⟩
  · split
    · exact ⟨h1 _, h1 _, h0⟩
    · exact ⟨h1 _, h0, h0⟩
theorem nilOp_ok : nilOp.ok := ⟨by decide, by decide, by decide⟩
theorem codeG_ok (L : List UInt8) (n : Nat) : ∀ (k : Nat) (c : Cur) (l : List InsV), (∀ y ∈ l, y.ok) → ∀ y ∈ (codeG L n k c l).1, y.ok
  | 0, c, l, h => h
  | k + 1, c, l, h => by
    rw [codeG]
    refine codeG_ok L n k _ _ (fun y hy => ?_)
    rcases List.mem_append.1 hy with h' | h'
    · exact h y h'
    · rw [List.mem_singleton] at h'
      subst h'
      unfold drawIns
      split
      · exact drawOp_ok L _
      · split
        · exact nilOp_ok
        · exact nilOp_ok
theorem drawCode_ok (L : List UInt8) (c : Cur) : ∀ y ∈ (drawCode L c).1, y.ok := by
  have h := codeG_ok L (codeN L c) (codeN L c) (byteC L c) [] (fun y hy => nomatch hy)
  unfold drawCode
  generalize codeG L (codeN L c) (codeN L c) (byteC L c) [] = g at h
  obtain ⟨l, d⟩ := g
  intro y hy
  rcases List.mem_append.1 hy with h' | h'
  · exact h y h'
  · rw [List.mem_singleton] at h'
    subst h'
    exact nilOp_ok
theorem mem_set' {α : Type} {l : List α} {k : Nat} {x y : α} (h : y ∈ l.set k x) : y ∈ l ∨ y = x := by
  exact List.mem_or_eq_of_mem_set h
theorem spoil_ok (L : List UInt8) (c : Cur) (l : List InsV) (h : ∀ y ∈ l, y.ok) : ∀ y ∈ (spoil L c l).1, y.ok := by
  have hx : ∀ k, (l.getD k ⟨0, nilOp, 0⟩).ok := by
    intro k
    rcases get_or l k with ⟨x, hx, _⟩ | ⟨hn, _⟩
    · rw [getD_of hx]; exact h x (List.mem_of_getElem? hx)
    · rw [List.getD_eq_getElem?_getD, hn]; exact nilOp_ok
  unfold spoil
  simp only
  split
  · intro y hy
    rcases mem_set' hy with h' | rfl
    · exact h y h'
    · exact hx _
  · split
    · intro y hy
      rcases mem_set' hy with h' | rfl
      · exact h y h'
      · exact hx _
    · split
      · exact fun y hy => h y (List.mem_of_mem_take hy)
      · split
        · intro y hy
          rcases mem_set' hy with h' | rfl
          · exact h y h'
          · exact ⟨(by decide : (⟨#[113]⟩ : ByteArray).size < 2 ^ 63), (hx _).2⟩
        · exact h
theorem seenG_ok (L : List UInt8) : ∀ (n i : Nat) (c : Cur) (l : List TellV), (∀ y ∈ l, y.ok) → (∀ y ∈ (seenG L n i c l).1, y.ok) ∧ (seenG L n i c l).1.length ≤ l.length + n
  | 0, i, c, l, h => ⟨h, Nat.le_refl _⟩
  | n + 1, i, c, l, h => by
    rw [seenG]
    split
    · have := seenG_ok L n (i + 1) (byteC L (byteC L c)) (l ++ [⟨belV L (byteC L c) 3, ⟨#[]⟩⟩]) (fun y hy => by
        rcases List.mem_append.1 hy with h' | h'
        · exact h y h'
        · rw [List.mem_singleton] at h'
          subst h'
          exact (by decide : (⟨#[]⟩ : ByteArray).size < 2 ^ 63))
      simp only [List.length_append, List.length_cons, List.length_nil] at this
      exact ⟨this.1, by omega⟩
    · exact ⟨h, by simp only; omega⟩
theorem drawPart_ok (L : List UInt8) (c : Cur) : (drawPart L c).1.ok ∧ (drawPart L c).1.code.length ≤ 1000 ∧ (drawPart L c).1.seen.length ≤ 1000 := by
  have h1 := drawCode_ok L c
  have h2 := (drawCode_len L c).2
  have h3 := seenG_ok L 4 0 (byteC L (drawCode L c).2) [] (fun y hy => nomatch hy)
  unfold drawPart
  generalize drawCode L c = g at h1 h2 h3
  obtain ⟨code, d⟩ := g
  simp only at h1 h2 h3 ⊢
  generalize seenG L 4 0 (byteC L d) [] = e at h3
  obtain ⟨m, c3⟩ := e
  simp only [List.length_nil] at h3 ⊢
  obtain ⟨h3, h4⟩ := h3
  have hc : code.length < 2 ^ 63 := by omega
  have hm : m.length < 2 ^ 63 := by omega
  unfold partE
  split
  · exact ⟨⟨⟨hc, h1⟩, ⟨hm, h3⟩⟩, by simp only; omega, by simp only; omega⟩
  · split
    · exact ⟨⟨⟨hc, h1⟩, ⟨hm, h3⟩⟩, by simp only; omega, by simp only; omega⟩
    · split
      · have h5 := spoil_len L (byteC L c3) code
        exact ⟨⟨⟨by simp only; omega, spoil_ok L _ _ h1⟩, ⟨hm, h3⟩⟩, by simp only; omega, by simp only; omega⟩
      · split
        · have hb := belV_in L (byteC L c3) (n := 2) (by decide)
          refine ⟨⟨⟨hc, h1⟩, ⟨by simp only [List.length_replicate]; omega, fun y hy => ?_⟩⟩, by simp only; omega, by simp only [List.length_replicate]; omega⟩
          rw [(List.mem_replicate.1 hy).2]
          exact (by decide : (⟨#[]⟩ : ByteArray).size < 2 ^ 63)
        · exact ⟨⟨⟨hc, h1⟩, ⟨hm, h3⟩⟩, by simp only; omega, by simp only; omega⟩
end Go.Proofs.Ytppbonbghmdhhaa
