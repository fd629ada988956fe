/- The law FnParts. -/
import Derived.Test.YtppbonbghmdhhaaPFDrawV
import Derived.Test.YtppbonbghmdhhaaPFStepW
namespace Go.Proofs.Ytppbonbghmdhhaa
open Go.VM Go
set_option maxRecDepth 100000
set_option linter.unusedSimpArgs false
set_option linter.unusedVariables false
attribute [-go_sem] runW_cons
attribute [local congr] vw_congr runV_congr runH_congr runW_congr runX_congr

theorem goF_partOk {x : PartV} {n : Int} (h : partOk x = true) (hn : 0 ≤ n) : partOk (goF x n) = true := by
  unfold goF
  split
  · exact h
  · rename_i g
    simp only [partOk, inB, Bool.and_eq_true, decide_eq_true_eq] at h ⊢
    exact ⟨h.1, ⟨hn, by omega⟩, h.2.2⟩
theorem goF_seen (x : PartV) (n : Int) : (goF x n).seen = x.seen := by unfold goF; split <;> rfl
theorem insOk_of {x : PartV} {y : InsV} {k : Nat} (h : partOk x = true) (hy : x.code[k]? = some y) : insOk y x.code.length = true := by
  simp only [partOk, codeOk, Bool.and_eq_true, Bool.not_eq_true', List.any_eq_false, Bool.not_eq_true] at h
  have := h.1.2 y (List.mem_of_getElem? hy)
  simpa using this
/-- What a step comes to. -/
theorem step_law (x : PartV) (q : PortV) :
    ((stepF x q).2.2 = false → (stepF x q).1 = x ∧ (stepF x q).2.1 = q) ∧
    ((stepF x q).2.2 = true → partOk (stepF x q).1 = true ∧ portOk (stepF x q).2.1 = true ∧ (stepF x q).1.seen.length ≤ x.seen.length + 1 ∧ (stepF x q).2.1.asks.length ≤ q.asks.length + 1 ∧ q.asks.length ≤ (stepF x q).2.1.asks.length) := by
  by_cases hc : partOk x = true ∧ portOk q = true ∧ x.over = false
  case neg =>
    have e : stepF x q = (x, q, false) := by unfold stepF; rw [if_neg hc]
    rw [e]; exact ⟨fun _ => ⟨rfl, rfl⟩, fun h => nomatch h⟩
  obtain ⟨hp, hq, ho⟩ := hc
  have hat := partOk_at hp
  cases hy : x.code[x.at_.toNat]? with
  | none =>
    have e : stepF x q = (x, q, false) := by unfold stepF; rw [if_pos ⟨hp, hq, ho⟩, hy]
    rw [e]; exact ⟨fun _ => ⟨rfl, rfl⟩, fun h => nomatch h⟩
  | some y =>
    rw [stepF_yes hp hq ho hy]
    have hin := insOk_of hp hy
    have hq' := hq
    simp only [portOk, Bool.and_eq_true, decide_eq_true_eq] at hq'
    unfold stepG
    split
    · split
      · rename_i k1 hs
        refine ⟨fun h => (nomatch h), fun _ => ?_⟩
        unfold sendF at hs ⊢
        split at hs
        · rename_i hg
          rw [if_pos hg]
          refine ⟨goF_partOk hp (by omega), ?_, by rw [goF_seen]; omega, by simp, by simp⟩
          simp only [portOk, Bool.and_eq_true, decide_eq_true_eq, List.length_append, List.length_cons, List.length_nil]
          omega
        · cases hs
      · exact ⟨fun _ => ⟨rfl, rfl⟩, fun h => nomatch h⟩
    · rename_i k1
      split
      · split
        · rename_i k2 hs
          obtain ⟨hs, h300⟩ := hs
          refine ⟨fun h => (nomatch h), fun _ => ?_⟩
          have hasks : (hearF q).1.asks = q.asks ∧ (hearF q).1.tells.length ≤ q.tells.length := by
            cases hz : q.tells with
            | nil => rw [hearF_nil hz]; exact ⟨rfl, by rw [hz]; exact Nat.le_refl _⟩
            | cons z zs => rw [hearF_yes hq hz]; exact ⟨rfl, by simp⟩
          refine ⟨goF_partOk ?_ (by omega), ?_, ?_, ?_, ?_⟩
          · simp only [partOk, Bool.and_eq_true, decide_eq_true_eq] at hp ⊢
            refine ⟨hp.1, hp.2.1, ?_⟩
            simp only [List.length_append, List.length_cons, List.length_nil]; omega
          · simp only [portOk, Bool.and_eq_true, decide_eq_true_eq]
            rw [hasks.1]; omega
          · rw [goF_seen]; simp
          · simp only; rw [hasks.1]; omega
          · simp only; rw [hasks.1]; omega
        · exact ⟨fun _ => ⟨rfl, rfl⟩, fun h => nomatch h⟩
      · split
        · rename_i k2 k3
          refine ⟨fun h => (nomatch h), fun _ => ?_⟩
          have : 0 ≤ y.n := by
            simp only [insOk, k1, if_false] at hin
            rw [if_pos (.inl k3)] at hin
            simp only [Bool.and_eq_true, decide_eq_true_eq] at hin
            omega
          exact ⟨goF_partOk hp this, hq, by rw [goF_seen]; omega, by simp only; omega, Nat.le_refl _⟩
        · rename_i k2 k3
          split
          · rename_i k4
            have hn : 0 ≤ y.n := by
              simp only [insOk, k1, if_false] at hin
              rw [if_pos (.inr k4)] at hin
              simp only [Bool.and_eq_true, decide_eq_true_eq] at hin
              omega
            split
            · exact ⟨fun h => (nomatch h), fun _ => ⟨goF_partOk hp hn, hq, by rw [goF_seen]; omega, by simp only; omega, Nat.le_refl _⟩⟩
            · exact ⟨fun h => (nomatch h), fun _ => ⟨goF_partOk hp (by omega), hq, by rw [goF_seen]; omega, by simp only; omega, Nat.le_refl _⟩⟩
          · exact ⟨fun h => (nomatch h), fun _ => ⟨hp, hq, by simp only; omega, by simp only; omega, Nat.le_refl _⟩⟩

theorem runs_53 (l m : List TellV) (hl : l.length < 2 ^ 60) (hm : m.length < 2 ^ 60) :
    Runs Try.prog 53 [.one (.v (.list false 2 (l.map tellRow))), .one (.v (.list false 2 (m.map tellRow)))] [.one (.v (.bool (decide (l = m))))] [] := by
  refine runs_tab (tab := [(0, .c (.list false 2 (l.map tellRow))), (1, .c (.list false 2 (m.map tellRow)))]) (rts := []) (n := 26) (k := 2) Try.func53 rfl rfl (by simp) rfl (fun t => ?_) rfl ?_
  · rcases t with _ | _ | t <;> rfl
  (refine vw_go rfl ?_; simp only [go_sem, setCells, setIn, Int.reduceToNat, Int.reduceEq, Int.reduceLT, Int.reduceLE, Int.reduceNeg, Int.reduceSub, Int.reduceAdd, ge_iff_le, gt_iff_lt, ↓reduceIte, Nat.reduceEqDiff, Nat.reduceAdd, Nat.reduceMul, Nat.reduceLT, Nat.reduceLeDiff, Nat.reduceBEq, reduceCtorEq])
  refine vw_seq ?_
  by_cases hlm : (l.length : Int) = m.length
  case neg =>
    have e : decide (l = m) = false := decide_eq_false (fun e => hlm (by rw [e]))
    rw [e]
    (refine vw_go rfl ?_; simp only [hlm, go_sem, setCells, setIn, Int.reduceToNat, Int.reduceEq, Int.reduceLT, Int.reduceLE, Int.reduceNeg, Int.reduceSub, Int.reduceAdd, ge_iff_le, gt_iff_lt, ↓reduceIte, Nat.reduceEqDiff, Nat.reduceAdd, Nat.reduceMul, Nat.reduceLT, Nat.reduceLeDiff, Nat.reduceBEq, reduceCtorEq])
    (refine vw_cond (t := true) rfl (fun _ => ?_) (fun h => nomatch h))
    (refine vw_go rfl ?_; simp only [go_sem, setCells, setIn, Int.reduceToNat, Int.reduceEq, Int.reduceLT, Int.reduceLE, Int.reduceNeg, Int.reduceSub, Int.reduceAdd, ge_iff_le, gt_iff_lt, ↓reduceIte, Nat.reduceEqDiff, Nat.reduceAdd, Nat.reduceMul, Nat.reduceLT, Nat.reduceLeDiff, Nat.reduceBEq, reduceCtorEq])
    exact vw_ret (r_then (e_ret (ret_of rfl rfl (by simp [RB]) rfl rfl)))
  (refine vw_go rfl ?_; simp only [hlm, go_sem, setCells, setIn, Int.reduceToNat, Int.reduceEq, Int.reduceLT, Int.reduceLE, Int.reduceNeg, Int.reduceSub, Int.reduceAdd, ge_iff_le, gt_iff_lt, ↓reduceIte, Nat.reduceEqDiff, Nat.reduceAdd, Nat.reduceMul, Nat.reduceLT, Nat.reduceLeDiff, Nat.reduceBEq, reduceCtorEq])
  (refine vw_cond (t := false) rfl (fun h => nomatch h) (fun _ => ?_))
  refine vw_skip (n_then ?_)
  have hlm' : l.length = m.length := by omega
  refine vw_seq ?_
  (refine vw_go rfl ?_; simp only [go_sem, setCells, setIn, Int.reduceToNat, Int.reduceEq, Int.reduceLT, Int.reduceLE, Int.reduceNeg, Int.reduceSub, Int.reduceAdd, ge_iff_le, gt_iff_lt, ↓reduceIte, Nat.reduceEqDiff, Nat.reduceAdd, Nat.reduceMul, Nat.reduceLT, Nat.reduceLeDiff, Nat.reduceBEq, reduceCtorEq])
  refine vw_block ?_
  refine vw_loop_tab (α := Nat) (fun x => l.length - x) (fun x => ⟨tabE [(0, .c (.list false 2 (l.map tellRow))), (1, .c (.list false 2 (m.map tellRow))), (5, .c (.int .i64 x))], tabS [], 2⟩)
    (fun x => x ≤ l.length ∧ l.take x = m.take x) (x := 0) ?round ?h0 ?hn
  case h0 => exact ⟨Nat.zero_le _, rfl⟩
  case hn => (refine norm_to [] rfl ?_ ?_ <;> simp only [go_sem, Int.reduceToNat, Int.reduceEq, Int.reduceLT, Int.reduceLE, Int.reduceNeg, Int.reduceSub, Int.reduceAdd, ge_iff_le, gt_iff_lt, ↓reduceIte, Nat.reduceEqDiff, Nat.reduceAdd, Nat.reduceMul, Nat.reduceLT, Nat.reduceLeDiff, Nat.reduceBEq, reduceCtorEq])
  rintro i ⟨hi, ht⟩
  refine vw_seq ?_
  by_cases hc : (i : Int) < l.length
  case neg =>
    have e : decide (l = m) = true := by
      refine decide_eq_true ?_
      rw [List.take_of_length_le (by omega), List.take_of_length_le (by omega)] at ht
      exact ht
    rw [e]
    (refine vw_go rfl ?_; simp only [hc, go_sem, setCells, setIn, Int.reduceToNat, Int.reduceEq, Int.reduceLT, Int.reduceLE, Int.reduceNeg, Int.reduceSub, Int.reduceAdd, ge_iff_le, gt_iff_lt, ↓reduceIte, Nat.reduceEqDiff, Nat.reduceAdd, Nat.reduceMul, Nat.reduceLT, Nat.reduceLeDiff, Nat.reduceBEq, reduceCtorEq])
    (refine vw_cond (t := false) rfl (fun h => nomatch h) (fun _ => ?_))
    refine vw_exit (x_then (x_then (x_block (n_then ?_))))
    (refine vw_go rfl ?_; simp only [go_sem, setCells, setIn, Int.reduceToNat, Int.reduceEq, Int.reduceLT, Int.reduceLE, Int.reduceNeg, Int.reduceSub, Int.reduceAdd, ge_iff_le, gt_iff_lt, ↓reduceIte, Nat.reduceEqDiff, Nat.reduceAdd, Nat.reduceMul, Nat.reduceLT, Nat.reduceLeDiff, Nat.reduceBEq, reduceCtorEq])
    exact vw_ret (e_ret (ret_of rfl rfl (by simp [RB]) rfl rfl))
  have c0 : (0:Int) ≤ (i : Int) := by omega
  have c1 : (i : Int) < m.length := by omega
  obtain ⟨y, hy⟩ : ∃ y, l[i]? = some y := ⟨_, List.getElem?_eq_getElem (by omega)⟩
  obtain ⟨z, hz⟩ : ∃ z, m[i]? = some z := ⟨_, List.getElem?_eq_getElem (by omega)⟩
  have w3 : IntKind.wrap .i64 ((i:Int) + 1) = ((i + 1 : Nat) : Int) := by rw [wrap_i64 (by omega) (by omega)]; rfl
  (refine vw_go rfl ?_; simp only [hc, go_sem, setCells, setIn, Int.reduceToNat, Int.reduceEq, Int.reduceLT, Int.reduceLE, Int.reduceNeg, Int.reduceSub, Int.reduceAdd, ge_iff_le, gt_iff_lt, ↓reduceIte, Nat.reduceEqDiff, Nat.reduceAdd, Nat.reduceMul, Nat.reduceLT, Nat.reduceLeDiff, Nat.reduceBEq, reduceCtorEq])
  (refine vw_cond (t := true) rfl (fun _ => ?_) (fun h => nomatch h))
  refine vw_skip (n_then ?_)
  refine vw_seq ?_
  refine vw_block ?_
  (refine vw_drawA mixed rfl rfl ?_; intro A hAA)
  simp (maxSteps := 1000000) only [c0, c1, hc, Int.toNat_natCast, getD_map_of hy, getD_map_of hz, tellRow, go_sem, setCells, setIn, Int.reduceToNat, Int.reduceEq, Int.reduceLT, Int.reduceLE, Int.reduceNeg, Int.reduceSub, Int.reduceAdd, ge_iff_le, gt_iff_lt, ↓reduceIte, Nat.reduceEqDiff, Nat.reduceAdd, Nat.reduceMul, Nat.reduceLT, Nat.reduceLeDiff, Nat.reduceBEq, reduceCtorEq, runW_step]
  refine ⟨by subst hAA; unfold allOk; kernel_rfl, ?_⟩
  by_cases hyz : y = z
  · subst hyz
    refine vw_cond (t := false) (by simp [ev, tabE_cons]) (fun h => nomatch h) (fun _ => ?_)
    refine vw_skip (n_block (n_then ?_))
    (refine vw_last rfl ?_; simp only [w3, go_sem, setCells, setIn, Int.reduceToNat, Int.reduceEq, Int.reduceLT, Int.reduceLE, Int.reduceNeg, Int.reduceSub, Int.reduceAdd, ge_iff_le, gt_iff_lt, ↓reduceIte, Nat.reduceEqDiff, Nat.reduceAdd, Nat.reduceMul, Nat.reduceLT, Nat.reduceLeDiff, Nat.reduceBEq, reduceCtorEq])
    refine (n_then ?_)
    refine ⟨i + 1, by omega, ⟨by omega, ?_⟩, ?_⟩
    · rw [List.take_add_one, List.take_add_one, ht, hy, hz]
    (refine norm_to [] rfl ?_ ?_ <;> simp only [go_sem, Int.reduceToNat, Int.reduceEq, Int.reduceLT, Int.reduceLE, Int.reduceNeg, Int.reduceSub, Int.reduceAdd, ge_iff_le, gt_iff_lt, ↓reduceIte, Nat.reduceEqDiff, Nat.reduceAdd, Nat.reduceMul, Nat.reduceLT, Nat.reduceLeDiff, Nat.reduceBEq, reduceCtorEq])
  have e : decide (l = m) = false := by
    refine decide_eq_false (fun e => hyz ?_)
    rw [e, hz] at hy
    exact (Option.some.inj hy).symm
  have hne : (decide (y.code = z.code) && decide (y.text = z.text)) = false := by
    by_cases h1 : y.code = z.code
    · have h2 : ¬ y.text = z.text := fun h2 => hyz (by cases y; cases z; simp_all)
      rw [decide_eq_false h2, Bool.and_false]
    · rw [decide_eq_false h1, Bool.false_and]
  rw [e]
  refine vw_cond (t := true) (by simp only [ev, tabE_cons, hne]; rfl) (fun _ => ?_) (fun h => nomatch h)
  (refine vw_go rfl ?_; simp only [go_sem, setCells, setIn, Int.reduceToNat, Int.reduceEq, Int.reduceLT, Int.reduceLE, Int.reduceNeg, Int.reduceSub, Int.reduceAdd, ge_iff_le, gt_iff_lt, ↓reduceIte, Nat.reduceEqDiff, Nat.reduceAdd, Nat.reduceMul, Nat.reduceLT, Nat.reduceLeDiff, Nat.reduceBEq, reduceCtorEq])
  exact vw_ret (r_block (r_then (r_then (r_block (r_then (e_ret (ret_of rfl rfl (by simp [RB]) rfl rfl)))))))

theorem drawText_size (L : List UInt8) (c : Cur) : (drawText L c).1.size ≤ 1000 := by
  unfold drawText
  split
  · exact Nat.le_trans (growT_size (m := 400) 402 (byteC L c) ⟨#[]⟩ (by decide)) (by decide)
  · exact textL_small _ (pickV_mem L _ _ (by decide))
theorem askG_ok (L : List UInt8) : ∀ (n i : Nat) (c : Cur) (l : List OpV), (∀ y ∈ l, y.ok) → ∀ y ∈ (askG L n i c l).1, y.ok
  | 0, i, c, l, h => h
  | n + 1, i, c, l, h => by
    rw [askG]
    split
    · refine askG_ok L n _ _ _ (fun y hy => ?_)
      rcases List.mem_append.1 hy with h' | h'
      · exact h y h'
      · rw [List.mem_singleton] at h'
        subst h'
        exact drawOp_ok L _
    · exact h
theorem tellG_ok (L : List UInt8) : ∀ (n i : Nat) (c : Cur) (l : List TellV), (∀ y ∈ l, y.ok) → ∀ y ∈ (tellG L n i c l).1, y.ok
  | 0, i, c, l, h => h
  | n + 1, i, c, l, h => by
    rw [tellG]
    split
    · refine tellG_ok L n _ _ _ (fun y hy => ?_)
      rcases List.mem_append.1 hy with h' | h'
      · exact h y h'
      · rw [List.mem_singleton] at h'
        subst h'
        exact Nat.lt_of_le_of_lt (drawText_size L _) (by decide)
    · exact h
theorem drawPort_ok (L : List UInt8) (c : Cur) : (drawPort L c).1.ok := by
  have h1 := askG_ok L 4 0 c [] (fun y hy => nomatch hy)
  have h2 := tellG_ok L 4 0 (askG L 4 0 c []).2 [] (fun y hy => nomatch hy)
  have hl := drawPort_len L c
  have hl1 : (drawPort L c).1.asks.length < 2 ^ 63 := by omega
  have hl2 : (drawPort L c).1.tells.length < 2 ^ 63 := by omega
  refine ⟨⟨hl1, ?_⟩, ⟨hl2, ?_⟩⟩
  · clear hl hl1 hl2
    unfold drawPort
    split
    · intro y hy
      rcases List.mem_append.1 hy with h' | h'
      · exact h1 y h'
      · have : y = nilOp := by simpa using h'
        rw [this]; exact nilOp_ok
    · split
      · exact h1
      · exact h1
  · clear hl hl1 hl2
    unfold drawPort
    split
    · exact h2
    · split
      · intro y hy
        rcases List.mem_append.1 hy with h' | h'
        · exact h2 y h'
        · have : y = nilTell := by simpa using h'
          rw [this]; exact (by decide : (⟨#[]⟩ : ByteArray).size < 2 ^ 63)
      · exact h2

set_option maxHeartbeats 1000000 in
theorem runs_8 (L : List UInt8) (hL63 : L.length < 2 ^ 63) : Runs Try.prog 8 [.one (.v (.list false 1 (L.map bRow)))] [.one (.v (.bool true))] [] := by
  refine runs_tab (tab := [(0, .c (.list false 1 (L.map bRow)))]) (rts := []) (n := 160) (k := 1) Try.func8 rfl rfl (by simp) rfl (fun t => ?_) rfl ?_
  · rcases t with _ | t <;> rfl
  have rB := runs_35 L hL63
  by_cases hbig : 1048576 < (L.length : Int)
  · rw [decide_eq_true hbig] at rB
    (refine vw_go rfl ?_; simp only [go_sem, setCells, setIn, Int.reduceToNat, Int.reduceEq, Int.reduceLT, Int.reduceLE, Int.reduceNeg, Int.reduceSub, Int.reduceAdd, ge_iff_le, gt_iff_lt, ↓reduceIte, Nat.reduceEqDiff, Nat.reduceAdd, Nat.reduceMul, Nat.reduceLT, Nat.reduceLeDiff, Nat.reduceBEq, reduceCtorEq])
    refine vw_seq ?_
    (refine vw_go rfl ?_; simp only [go_sem, setCells, setIn, Int.reduceToNat, Int.reduceEq, Int.reduceLT, Int.reduceLE, Int.reduceNeg, Int.reduceSub, Int.reduceAdd, ge_iff_le, gt_iff_lt, ↓reduceIte, Nat.reduceEqDiff, Nat.reduceAdd, Nat.reduceMul, Nat.reduceLT, Nat.reduceLeDiff, Nat.reduceBEq, reduceCtorEq])
    (refine ⟨_, _, call_rx [0] Try.func35 (rB) rfl rfl rfl rfl rfl rfl rfl (by simp [lendAll, lendC, seek, fresh, nav, rcells, RT.cells, VV.cells, tabE_cons, tabS_cons, ev, take_map_len, insRow_r1, insRow_clean, opRow_r1, opRow_clean, tellRow_r1, tellRow_clean, bRow_r1, bRow_clean]) rfl (by simp [rcells, RT.cells, CT.clean, T.clean, insRow_r1, insRow_clean, opRow_r1, opRow_clean, tellRow_r1, tellRow_clean, bRow_r1, bRow_clean]) rfl rfl, ?_⟩)
    simp only [runH, runX, go_sem, setCells, setIn, Int.reduceToNat, Int.reduceEq, Int.reduceLT, Int.reduceLE, Int.reduceNeg, Int.reduceSub, Int.reduceAdd, ge_iff_le, gt_iff_lt, ↓reduceIte, Nat.reduceEqDiff, Nat.reduceAdd, Nat.reduceMul, Nat.reduceLT, Nat.reduceLeDiff, Nat.reduceBEq, reduceCtorEq]
    (refine vw_cond (t := true) rfl (fun _ => ?_) (fun h => nomatch h))
    (refine vw_go rfl ?_; simp only [go_sem, setCells, setIn, Int.reduceToNat, Int.reduceEq, Int.reduceLT, Int.reduceLE, Int.reduceNeg, Int.reduceSub, Int.reduceAdd, ge_iff_le, gt_iff_lt, ↓reduceIte, Nat.reduceEqDiff, Nat.reduceAdd, Nat.reduceMul, Nat.reduceLT, Nat.reduceLeDiff, Nat.reduceBEq, reduceCtorEq])
    exact vw_ret (r_then (e_ret (ret_of rfl rfl (by simp [RB]) rfl rfl)))
  have hL : L.length < 2 ^ 60 := by omega
  rw [decide_eq_false hbig] at rB
  obtain ⟨hxok, hxc, hxs⟩ := drawPart_ok L (newC L)
  have hpl := drawPort_len L (drawPart L (newC L)).2
  have hpok := drawPort_ok L (drawPart L (newC L)).2
  have rD := runs_50 L hL _ rfl _ rfl
  have rC := runs_54 L hL _ rfl
  have hlc : (spoil L (drawCode L (newC L)).2 (drawCode L (newC L)).1).1.length < 2 ^ 60 := Nat.lt_of_le_of_lt (spoil_len L _ _) (Nat.lt_of_le_of_lt (drawCode_len L _).2 (by decide))
  generalize (spoil L (drawCode L (newC L)).2 (drawCode L (newC L)).1).1 = cl at rC hlc
  have rP := runs_55 L hL _ rfl
  generalize (drawPort L (drawPart L (newC L)).2).1 = q at rD hpl hpok
  generalize (drawPart L (newC L)).1 = x at rD rP hxok hxc hxs
  have ca : x.code.length ≤ 2 ^ 20 := Nat.le_trans hxc (by decide)
  have cs : x.seen.length ≤ 2 ^ 20 := Nat.le_trans hxs (by decide)
  have ha : q.asks.length ≤ 2 ^ 20 := Nat.le_trans hpl.1 (by decide)
  have ht : q.tells.length ≤ 2 ^ 20 := Nat.le_trans hpl.2 (by decide)
  have rI := runs_51 x q hxok ca cs ha ht
  have rS := runs_52 x q hxok ca cs ha ht
  have law := step_law x q
  have hrl := stepF_len x q ca cs ha ht
  have hrok := stepF_ok cs hxok hpok
  generalize stepF x q = r at rI rS law hrl hrok
  obtain ⟨y, n, ok⟩ := r
  simp only at rI rS law hrl hrok
  have bx : List.take x.code.length (x.code.map insRow) = x.code.map insRow := List.take_of_length_le (by simp)
  have bx2 : List.take x.seen.length (x.seen.map tellRow) = x.seen.map tellRow := List.take_of_length_le (by simp)
  have bq : List.take q.asks.length (q.asks.map opRow) = q.asks.map opRow := List.take_of_length_le (by simp)
  have bq2 : List.take q.tells.length (q.tells.map tellRow) = q.tells.map tellRow := List.take_of_length_le (by simp)
  have by1 : List.take y.code.length (y.code.map insRow) = y.code.map insRow := List.take_of_length_le (by simp)
  have by2 : List.take y.seen.length (y.seen.map tellRow) = y.seen.map tellRow := List.take_of_length_le (by simp)
  have bn : List.take n.asks.length (n.asks.map opRow) = n.asks.map opRow := List.take_of_length_le (by simp)
  have bn2 : List.take n.tells.length (n.tells.map tellRow) = n.tells.map tellRow := List.take_of_length_le (by simp)
  have bc : List.take cl.length (cl.map insRow) = cl.map insRow := List.take_of_length_le (by simp)
  (refine vw_go rfl ?_; simp only [go_sem, setCells, setIn, Int.reduceToNat, Int.reduceEq, Int.reduceLT, Int.reduceLE, Int.reduceNeg, Int.reduceSub, Int.reduceAdd, ge_iff_le, gt_iff_lt, ↓reduceIte, Nat.reduceEqDiff, Nat.reduceAdd, Nat.reduceMul, Nat.reduceLT, Nat.reduceLeDiff, Nat.reduceBEq, reduceCtorEq])
  refine vw_seq ?_
  (refine vw_go rfl ?_; simp only [go_sem, setCells, setIn, Int.reduceToNat, Int.reduceEq, Int.reduceLT, Int.reduceLE, Int.reduceNeg, Int.reduceSub, Int.reduceAdd, ge_iff_le, gt_iff_lt, ↓reduceIte, Nat.reduceEqDiff, Nat.reduceAdd, Nat.reduceMul, Nat.reduceLT, Nat.reduceLeDiff, Nat.reduceBEq, reduceCtorEq])
  (refine ⟨_, _, call_rx [0] Try.func35 (rB) rfl rfl rfl rfl rfl rfl rfl (by simp [lendAll, lendC, seek, fresh, nav, rcells, RT.cells, VV.cells, tabE_cons, tabS_cons, ev, take_map_len, insRow_r1, insRow_clean, opRow_r1, opRow_clean, tellRow_r1, tellRow_clean, bRow_r1, bRow_clean]) rfl (by simp [rcells, RT.cells, CT.clean, T.clean, insRow_r1, insRow_clean, opRow_r1, opRow_clean, tellRow_r1, tellRow_clean, bRow_r1, bRow_clean]) rfl rfl, ?_⟩)
  simp only [runH, runX, go_sem, setCells, setIn, Int.reduceToNat, Int.reduceEq, Int.reduceLT, Int.reduceLE, Int.reduceNeg, Int.reduceSub, Int.reduceAdd, ge_iff_le, gt_iff_lt, ↓reduceIte, Nat.reduceEqDiff, Nat.reduceAdd, Nat.reduceMul, Nat.reduceLT, Nat.reduceLeDiff, Nat.reduceBEq, reduceCtorEq]
  (refine vw_cond (t := false) rfl (fun h => nomatch h) (fun _ => ?_))
  refine vw_skip (n_then ?_)
  (refine vw_go rfl ?_; simp only [go_sem, setCells, setIn, Int.reduceToNat, Int.reduceEq, Int.reduceLT, Int.reduceLE, Int.reduceNeg, Int.reduceSub, Int.reduceAdd, ge_iff_le, gt_iff_lt, ↓reduceIte, Nat.reduceEqDiff, Nat.reduceAdd, Nat.reduceMul, Nat.reduceLT, Nat.reduceLeDiff, Nat.reduceBEq, reduceCtorEq])
  (refine ⟨_, _, call_rx [0] Try.func50 (rD) rfl rfl rfl rfl rfl rfl rfl (by simp [lendAll, lendC, seek, fresh, nav, rcells, RT.cells, VV.cells, tabE_cons, tabS_cons, ev, take_map_len, insRow_r1, insRow_clean, opRow_r1, opRow_clean, tellRow_r1, tellRow_clean, bRow_r1, bRow_clean]) rfl (by simp [rcells, RT.cells, CT.clean, T.clean, insRow_r1, insRow_clean, opRow_r1, opRow_clean, tellRow_r1, tellRow_clean, bRow_r1, bRow_clean]) rfl rfl, ?_⟩)
  simp only [runH, runX, bx, bx2, bq, bq2, go_sem, setCells, setIn, Int.reduceToNat, Int.reduceEq, Int.reduceLT, Int.reduceLE, Int.reduceNeg, Int.reduceSub, Int.reduceAdd, ge_iff_le, gt_iff_lt, ↓reduceIte, Nat.reduceEqDiff, Nat.reduceAdd, Nat.reduceMul, Nat.reduceLT, Nat.reduceLeDiff, Nat.reduceBEq, reduceCtorEq]
  (refine vw_go rfl ?_; simp only [bx, bx2, bq, bq2, go_sem, setCells, setIn, Int.reduceToNat, Int.reduceEq, Int.reduceLT, Int.reduceLE, Int.reduceNeg, Int.reduceSub, Int.reduceAdd, ge_iff_le, gt_iff_lt, ↓reduceIte, Nat.reduceEqDiff, Nat.reduceAdd, Nat.reduceMul, Nat.reduceLT, Nat.reduceLeDiff, Nat.reduceBEq, reduceCtorEq])
  (refine ⟨_, _, call_rx [0, 0] Try.func51 (rI) rfl rfl rfl rfl rfl rfl rfl (by simp [lendAll, lendC, seek, fresh, nav, rcells, RT.cells, VV.cells, tabE_cons, tabS_cons, ev, take_map_len, insRow_r1, insRow_clean, opRow_r1, opRow_clean, tellRow_r1, tellRow_clean, bRow_r1, bRow_clean, bx, bx2, bq, bq2]) rfl (by simp [rcells, RT.cells, CT.clean, T.clean, insRow_r1, insRow_clean, opRow_r1, opRow_clean, tellRow_r1, tellRow_clean, bRow_r1, bRow_clean, bx, bx2, bq, bq2]) rfl rfl, ?_⟩)
  simp only [runH, runX, by1, by2, bn, bn2, go_sem, setCells, setIn, Int.reduceToNat, Int.reduceEq, Int.reduceLT, Int.reduceLE, Int.reduceNeg, Int.reduceSub, Int.reduceAdd, ge_iff_le, gt_iff_lt, ↓reduceIte, Nat.reduceEqDiff, Nat.reduceAdd, Nat.reduceMul, Nat.reduceLT, Nat.reduceLeDiff, Nat.reduceBEq, reduceCtorEq]
  (refine vw_go rfl ?_; simp only [bx, bx2, bq, bq2, go_sem, setCells, setIn, Int.reduceToNat, Int.reduceEq, Int.reduceLT, Int.reduceLE, Int.reduceNeg, Int.reduceSub, Int.reduceAdd, ge_iff_le, gt_iff_lt, ↓reduceIte, Nat.reduceEqDiff, Nat.reduceAdd, Nat.reduceMul, Nat.reduceLT, Nat.reduceLeDiff, Nat.reduceBEq, reduceCtorEq])
  (refine ⟨_, _, call_rx [0, 0] Try.func52 (rS) rfl rfl rfl rfl rfl rfl rfl (by simp [lendAll, lendC, seek, fresh, nav, rcells, RT.cells, VV.cells, tabE_cons, tabS_cons, ev, take_map_len, insRow_r1, insRow_clean, opRow_r1, opRow_clean, tellRow_r1, tellRow_clean, bRow_r1, bRow_clean, bx, bx2, bq, bq2]) rfl (by simp [rcells, RT.cells, CT.clean, T.clean, insRow_r1, insRow_clean, opRow_r1, opRow_clean, tellRow_r1, tellRow_clean, bRow_r1, bRow_clean, bx, bx2, bq, bq2]) rfl rfl, ?_⟩)
  simp only [runH, runX, by1, by2, bn, bn2, go_sem, setCells, setIn, Int.reduceToNat, Int.reduceEq, Int.reduceLT, Int.reduceLE, Int.reduceNeg, Int.reduceSub, Int.reduceAdd, ge_iff_le, gt_iff_lt, ↓reduceIte, Nat.reduceEqDiff, Nat.reduceAdd, Nat.reduceMul, Nat.reduceLT, Nat.reduceLeDiff, Nat.reduceBEq, reduceCtorEq]
  have ryy := runs_53 y.seen y.seen (by omega) (by omega)
  rw [decide_eq_true (rfl : y.seen = y.seen)] at ryy
  refine vw_seq ?_
  (refine vw_go rfl ?_; simp only [by1, by2, bn, bn2, BEq.rfl, go_sem, setCells, setIn, Int.reduceToNat, Int.reduceEq, Int.reduceLT, Int.reduceLE, Int.reduceNeg, Int.reduceSub, Int.reduceAdd, ge_iff_le, gt_iff_lt, ↓reduceIte, Nat.reduceEqDiff, Nat.reduceAdd, Nat.reduceMul, Nat.reduceLT, Nat.reduceLeDiff, Nat.reduceBEq, reduceCtorEq])
  (refine ⟨_, _, call_rx [0, 0] Try.func53 (ryy) rfl rfl rfl rfl rfl rfl rfl (by simp [lendAll, lendC, seek, fresh, nav, rcells, RT.cells, VV.cells, tabE_cons, tabS_cons, ev, take_map_len, insRow_r1, insRow_clean, opRow_r1, opRow_clean, tellRow_r1, tellRow_clean, bRow_r1, bRow_clean, by2]) rfl (by simp [rcells, RT.cells, CT.clean, T.clean, insRow_r1, insRow_clean, opRow_r1, opRow_clean, tellRow_r1, tellRow_clean, bRow_r1, bRow_clean, by2]) rfl rfl, ?_⟩)
  simp only [runH, runX, by1, by2, bn, bn2, BEq.rfl, go_sem, setCells, setIn, Int.reduceToNat, Int.reduceEq, Int.reduceLT, Int.reduceLE, Int.reduceNeg, Int.reduceSub, Int.reduceAdd, ge_iff_le, gt_iff_lt, ↓reduceIte, Nat.reduceEqDiff, Nat.reduceAdd, Nat.reduceMul, Nat.reduceLT, Nat.reduceLeDiff, Nat.reduceBEq, reduceCtorEq]
  (refine vw_cond (t := false) rfl (fun h => nomatch h) (fun _ => ?_))
  refine vw_skip (n_then ?_)
  have rCi := runs_56 cl (by omega)
  have rCs := runs_57' cl (by omega)
  generalize (inB cl.length 1 20 && !cl.any (fun x => !insOk x cl.length)) = cb at rCi rCs
  have rPi := runs_58 x hxok
  have rPs := runs_59 x hxok
  generalize partOk x = pb at rPi rPs
  (refine vw_go rfl ?_; simp only [go_sem, setCells, setIn, Int.reduceToNat, Int.reduceEq, Int.reduceLT, Int.reduceLE, Int.reduceNeg, Int.reduceSub, Int.reduceAdd, ge_iff_le, gt_iff_lt, ↓reduceIte, Nat.reduceEqDiff, Nat.reduceAdd, Nat.reduceMul, Nat.reduceLT, Nat.reduceLeDiff, Nat.reduceBEq, reduceCtorEq])
  (refine ⟨_, _, call_rx [0] Try.func54 (rC) rfl rfl rfl rfl rfl rfl rfl (by simp [lendAll, lendC, seek, fresh, nav, rcells, RT.cells, VV.cells, tabE_cons, tabS_cons, ev, take_map_len, insRow_r1, insRow_clean, opRow_r1, opRow_clean, tellRow_r1, tellRow_clean, bRow_r1, bRow_clean]) rfl (by simp [rcells, RT.cells, CT.clean, T.clean, insRow_r1, insRow_clean, opRow_r1, opRow_clean, tellRow_r1, tellRow_clean, bRow_r1, bRow_clean]) rfl rfl, ?_⟩)
  simp only [runH, runX, go_sem, setCells, setIn, Int.reduceToNat, Int.reduceEq, Int.reduceLT, Int.reduceLE, Int.reduceNeg, Int.reduceSub, Int.reduceAdd, ge_iff_le, gt_iff_lt, ↓reduceIte, Nat.reduceEqDiff, Nat.reduceAdd, Nat.reduceMul, Nat.reduceLT, Nat.reduceLeDiff, Nat.reduceBEq, reduceCtorEq]
  (refine vw_go rfl ?_; simp only [go_sem, setCells, setIn, Int.reduceToNat, Int.reduceEq, Int.reduceLT, Int.reduceLE, Int.reduceNeg, Int.reduceSub, Int.reduceAdd, ge_iff_le, gt_iff_lt, ↓reduceIte, Nat.reduceEqDiff, Nat.reduceAdd, Nat.reduceMul, Nat.reduceLT, Nat.reduceLeDiff, Nat.reduceBEq, reduceCtorEq])
  (refine ⟨_, _, call_rx [0] Try.func55 (rP) rfl rfl rfl rfl rfl rfl rfl (by simp [lendAll, lendC, seek, fresh, nav, rcells, RT.cells, VV.cells, tabE_cons, tabS_cons, ev, take_map_len, insRow_r1, insRow_clean, opRow_r1, opRow_clean, tellRow_r1, tellRow_clean, bRow_r1, bRow_clean]) rfl (by simp [rcells, RT.cells, CT.clean, T.clean, insRow_r1, insRow_clean, opRow_r1, opRow_clean, tellRow_r1, tellRow_clean, bRow_r1, bRow_clean]) rfl rfl, ?_⟩)
  simp only [runH, runX, bx, bx2, go_sem, setCells, setIn, Int.reduceToNat, Int.reduceEq, Int.reduceLT, Int.reduceLE, Int.reduceNeg, Int.reduceSub, Int.reduceAdd, ge_iff_le, gt_iff_lt, ↓reduceIte, Nat.reduceEqDiff, Nat.reduceAdd, Nat.reduceMul, Nat.reduceLT, Nat.reduceLeDiff, Nat.reduceBEq, reduceCtorEq]
  refine vw_seq ?_
  (refine vw_drawA mixed rfl rfl ?_; intro A hAA)
  have k1 : (A[1]?).bind (·.dst) = some 82 := by subst hAA; rfl
  have k3 : (A[3]?).bind (·.dst) = some 84 := by subst hAA; rfl
  have k5 : (A[5]?).bind (·.dst) = some 86 := by subst hAA; rfl
  have k7 : (A[7]?).bind (·.dst) = some 88 := by subst hAA; rfl
  have k9 : (A[9]?).bind (·.dst) = some 90 := by subst hAA; rfl
  simp (maxSteps := 1000000) only [k1, k3, k5, k7, k9, go_sem, setCells, setIn, Int.reduceToNat, Int.reduceEq, Int.reduceLT, Int.reduceLE, Int.reduceNeg, Int.reduceSub, Int.reduceAdd, ge_iff_le, gt_iff_lt, ↓reduceIte, Nat.reduceEqDiff, Nat.reduceAdd, Nat.reduceMul, Nat.reduceLT, Nat.reduceLeDiff, Nat.reduceBEq, reduceCtorEq, runW_step]
  (refine ⟨_, _, _, call_rx_at [0] [394241] Try.func56 (rCi) rfl rfl rfl rfl rfl rfl rfl (fun st1 hst1 => by (try simp only [List.mem_cons, List.not_mem_nil, or_false, false_or, forall_eq_or_imp, forall_eq] at hst1); simp [lendAll, lendC, seek, fresh, nav, rcells, RT.cells, VV.cells, tabE_cons, tabS_cons, ev, take_map_len, hst1, insRow_r1, insRow_clean, opRow_r1, opRow_clean, tellRow_r1, tellRow_clean, bRow_r1, bRow_clean, bc]) rfl (by simp [rcells, RT.cells, CT.clean, T.clean, insRow_r1, insRow_clean, opRow_r1, opRow_clean, tellRow_r1, tellRow_clean, bRow_r1, bRow_clean, bc]) rfl rfl, ?_⟩)
  (unfold runX; simp (maxSteps := 1000000) only [k1, k3, k5, k7, k9, bc, go_sem, setCells, setIn, Int.reduceToNat, Int.reduceEq, Int.reduceLT, Int.reduceLE, Int.reduceNeg, Int.reduceSub, Int.reduceAdd, ge_iff_le, gt_iff_lt, ↓reduceIte, Nat.reduceEqDiff, Nat.reduceAdd, Nat.reduceMul, Nat.reduceLT, Nat.reduceLeDiff, Nat.reduceBEq, reduceCtorEq, runW_step])
  (refine ⟨_, _, _, call_rx_at [0] [394241] Try.func57 (rCs) rfl rfl rfl rfl rfl rfl rfl (fun st1 hst1 => by (try simp only [List.mem_cons, List.not_mem_nil, or_false, false_or, forall_eq_or_imp, forall_eq] at hst1); simp [lendAll, lendC, seek, fresh, nav, rcells, RT.cells, VV.cells, tabE_cons, tabS_cons, ev, take_map_len, hst1, insRow_r1, insRow_clean, opRow_r1, opRow_clean, tellRow_r1, tellRow_clean, bRow_r1, bRow_clean, bc]) rfl (by simp [rcells, RT.cells, CT.clean, T.clean, insRow_r1, insRow_clean, opRow_r1, opRow_clean, tellRow_r1, tellRow_clean, bRow_r1, bRow_clean, bc]) rfl rfl, ?_⟩)
  (unfold runX; simp (maxSteps := 1000000) only [k1, k3, k5, k7, k9, bc, BEq.rfl, bx, bx2, go_sem, setCells, setIn, Int.reduceToNat, Int.reduceEq, Int.reduceLT, Int.reduceLE, Int.reduceNeg, Int.reduceSub, Int.reduceAdd, ge_iff_le, gt_iff_lt, ↓reduceIte, Nat.reduceEqDiff, Nat.reduceAdd, Nat.reduceMul, Nat.reduceLT, Nat.reduceLeDiff, Nat.reduceBEq, reduceCtorEq, runW_step])
  (refine ⟨_, _, _, call_rx_at [0] [460801] Try.func58 (rPi) rfl rfl rfl rfl rfl rfl rfl (fun st1 hst1 => by (try simp only [List.mem_cons, List.not_mem_nil, or_false, false_or, forall_eq_or_imp, forall_eq] at hst1); simp [lendAll, lendC, seek, fresh, nav, rcells, RT.cells, VV.cells, tabE_cons, tabS_cons, ev, take_map_len, hst1, insRow_r1, insRow_clean, opRow_r1, opRow_clean, tellRow_r1, tellRow_clean, bRow_r1, bRow_clean, bx, bx2]) rfl (by simp [rcells, RT.cells, CT.clean, T.clean, insRow_r1, insRow_clean, opRow_r1, opRow_clean, tellRow_r1, tellRow_clean, bRow_r1, bRow_clean, bx, bx2]) rfl rfl, ?_⟩)
  (unfold runX; simp (maxSteps := 1000000) only [k1, k3, k5, k7, k9, bc, BEq.rfl, bx, bx2, go_sem, setCells, setIn, Int.reduceToNat, Int.reduceEq, Int.reduceLT, Int.reduceLE, Int.reduceNeg, Int.reduceSub, Int.reduceAdd, ge_iff_le, gt_iff_lt, ↓reduceIte, Nat.reduceEqDiff, Nat.reduceAdd, Nat.reduceMul, Nat.reduceLT, Nat.reduceLeDiff, Nat.reduceBEq, reduceCtorEq, runW_step])
  (refine ⟨_, _, _, call_rx_at [0] [460801] Try.func59 (rPs) rfl rfl rfl rfl rfl rfl rfl (fun st1 hst1 => by (try simp only [List.mem_cons, List.not_mem_nil, or_false, false_or, forall_eq_or_imp, forall_eq] at hst1); simp [lendAll, lendC, seek, fresh, nav, rcells, RT.cells, VV.cells, tabE_cons, tabS_cons, ev, take_map_len, hst1, insRow_r1, insRow_clean, opRow_r1, opRow_clean, tellRow_r1, tellRow_clean, bRow_r1, bRow_clean, bx, bx2]) rfl (by simp [rcells, RT.cells, CT.clean, T.clean, insRow_r1, insRow_clean, opRow_r1, opRow_clean, tellRow_r1, tellRow_clean, bRow_r1, bRow_clean, bx, bx2]) rfl rfl, ?_⟩)
  (unfold runX; simp (maxSteps := 1000000) only [k1, k3, k5, k7, k9, bc, BEq.rfl, bx, bx2, go_sem, setCells, setIn, Int.reduceToNat, Int.reduceEq, Int.reduceLT, Int.reduceLE, Int.reduceNeg, Int.reduceSub, Int.reduceAdd, ge_iff_le, gt_iff_lt, ↓reduceIte, Nat.reduceEqDiff, Nat.reduceAdd, Nat.reduceMul, Nat.reduceLT, Nat.reduceLeDiff, Nat.reduceBEq, reduceCtorEq, runW_step])
  (refine ⟨by subst hAA; exact allOk_pre [[], [0], [], [0, 1, 2], [0, 1, 2, 3], [0, 1, 2, 3, 4], [0, 1, 2, 3, 4, 5], [0, 1, 2, 3, 4, 5, 6], [0, 1, 2, 3, 4, 5], [0, 1, 2, 3, 4, 5, 6, 7, 8], [0, 1, 2, 3, 4, 5, 6, 7, 8, 9], [0, 1, 2, 3, 4, 5, 6, 7, 8, 9, 10]] (by kernel_rfl) (Nat.le_of_ble_eq_true (by kernel_rfl)) (by kernel_rfl), ?_⟩)
  (refine vw_cond (t := false) rfl (fun h => nomatch h) (fun _ => ?_))
  refine vw_skip (n_then ?_)
  refine vw_seq ?_
  cases ok
  case false =>
    obtain ⟨rfl, rfl⟩ := law.1 rfl
    (refine vw_go rfl ?_; simp only [go_sem, setCells, setIn, Int.reduceToNat, Int.reduceEq, Int.reduceLT, Int.reduceLE, Int.reduceNeg, Int.reduceSub, Int.reduceAdd, ge_iff_le, gt_iff_lt, ↓reduceIte, Nat.reduceEqDiff, Nat.reduceAdd, Nat.reduceMul, Nat.reduceLT, Nat.reduceLeDiff, Nat.reduceBEq, reduceCtorEq])
    (refine vw_cond (t := true) rfl (fun _ => ?_) (fun h => nomatch h))
    (refine vw_go rfl ?_; simp only [by1, by2, bn, bn2, BEq.rfl, decide_true, go_sem, setCells, setIn, Int.reduceToNat, Int.reduceEq, Int.reduceLT, Int.reduceLE, Int.reduceNeg, Int.reduceSub, Int.reduceAdd, ge_iff_le, gt_iff_lt, ↓reduceIte, Nat.reduceEqDiff, Nat.reduceAdd, Nat.reduceMul, Nat.reduceLT, Nat.reduceLeDiff, Nat.reduceBEq, reduceCtorEq])
    (refine ⟨_, _, call_rx [0, 0] Try.func53 (ryy) rfl rfl rfl rfl rfl rfl rfl (by simp [lendAll, lendC, seek, fresh, nav, rcells, RT.cells, VV.cells, tabE_cons, tabS_cons, ev, take_map_len, insRow_r1, insRow_clean, opRow_r1, opRow_clean, tellRow_r1, tellRow_clean, bRow_r1, bRow_clean, by2]) rfl (by simp [rcells, RT.cells, CT.clean, T.clean, insRow_r1, insRow_clean, opRow_r1, opRow_clean, tellRow_r1, tellRow_clean, bRow_r1, bRow_clean, by2]) rfl rfl, ?_⟩)
    simp only [runH, runX, by1, by2, bn, bn2, BEq.rfl, decide_true, go_sem, setCells, setIn, Int.reduceToNat, Int.reduceEq, Int.reduceLT, Int.reduceLE, Int.reduceNeg, Int.reduceSub, Int.reduceAdd, ge_iff_le, gt_iff_lt, ↓reduceIte, Nat.reduceEqDiff, Nat.reduceAdd, Nat.reduceMul, Nat.reduceLT, Nat.reduceLeDiff, Nat.reduceBEq, reduceCtorEq]
    exact vw_ret (r_then (e_ret (ret_of rfl rfl (by simp [RB]) rfl rfl)))
  obtain ⟨l1, l2, l3, l4, l5⟩ := law.2 rfl
  have rYp := runs_58 y hrok
  rw [l1] at rYp
  have rNp := runs_42 n
  rw [l2] at rNp
  have w1 : IntKind.wrap .i64 ((x.seen.length : Int) + 1) = ((x.seen.length + 1 : Nat) : Int) := by rw [wrap_i64 (by omega) (by omega)]; rfl
  have w2 : IntKind.wrap .i64 ((q.asks.length : Int) + 1) = ((q.asks.length + 1 : Nat) : Int) := by rw [wrap_i64 (by omega) (by omega)]; rfl
  have d1 : (y.seen.length : Int) ≤ ((x.seen.length + 1 : Nat) : Int) := by omega
  have d2 : (n.asks.length : Int) ≤ ((q.asks.length + 1 : Nat) : Int) := by omega
  have d3 : (q.asks.length : Int) ≤ (n.asks.length : Int) := by omega
  (refine vw_go rfl ?_; simp only [go_sem, setCells, setIn, Int.reduceToNat, Int.reduceEq, Int.reduceLT, Int.reduceLE, Int.reduceNeg, Int.reduceSub, Int.reduceAdd, ge_iff_le, gt_iff_lt, ↓reduceIte, Nat.reduceEqDiff, Nat.reduceAdd, Nat.reduceMul, Nat.reduceLT, Nat.reduceLeDiff, Nat.reduceBEq, reduceCtorEq])
  (refine vw_cond (t := false) rfl (fun h => nomatch h) (fun _ => ?_))
  refine vw_skip (n_then ?_)
  refine vw_norm (s' := ⟨tabE [(3, .ptr 1 [] 0 0 0), (4, .ptr 2 [] 0 0 0), (5, .ptr 3 [] 0 0 0), (6, .ptr 4 [] 0 0 0)], tabS [(1, some ⟨true, 4, [[.list true 6 (x.code.map insRow), .int .i64 x.at_, .list true 2 (x.seen.map tellRow), .bool x.over]], [[(0, 0)], [(0, 2)]]⟩),
      (2, some ⟨true, 2, [[.list true 4 (q.asks.map opRow), .list true 2 (q.tells.map tellRow)]], [[(0, 0)], [(0, 1)]]⟩), (3, some ⟨true, 4, [[.list true 6 (y.code.map insRow), .int .i64 y.at_, .list true 2 (y.seen.map tellRow), .bool y.over]], [[(0, 0)], [(0, 2)]]⟩),
      (4, some ⟨true, 2, [[.list true 4 (n.asks.map opRow), .list true 2 (n.tells.map tellRow)]], [[(0, 0)], [(0, 1)]]⟩)], 5⟩) ?_ ?_
  · (refine norm_to [(136193, 1), (137217, 2), (203777, 3), (204801, 4)] rfl ?_ ?_ <;> simp only [go_sem, Int.reduceToNat, Int.reduceEq, Int.reduceLT, Int.reduceLE, Int.reduceNeg, Int.reduceSub, Int.reduceAdd, ge_iff_le, gt_iff_lt, ↓reduceIte, Nat.reduceEqDiff, Nat.reduceAdd, Nat.reduceMul, Nat.reduceLT, Nat.reduceLeDiff, Nat.reduceBEq, reduceCtorEq])
  (refine vw_go rfl ?_; simp only [by1, by2, bn, bn2, go_sem, setCells, setIn, Int.reduceToNat, Int.reduceEq, Int.reduceLT, Int.reduceLE, Int.reduceNeg, Int.reduceSub, Int.reduceAdd, ge_iff_le, gt_iff_lt, ↓reduceIte, Nat.reduceEqDiff, Nat.reduceAdd, Nat.reduceMul, Nat.reduceLT, Nat.reduceLeDiff, Nat.reduceBEq, reduceCtorEq])
  (refine ⟨_, _, call_rx [0] Try.func58 (rYp) rfl rfl rfl rfl rfl rfl rfl (by simp [lendAll, lendC, seek, fresh, nav, rcells, RT.cells, VV.cells, tabE_cons, tabS_cons, ev, take_map_len, insRow_r1, insRow_clean, opRow_r1, opRow_clean, tellRow_r1, tellRow_clean, bRow_r1, bRow_clean, by1, by2]) rfl (by simp [rcells, RT.cells, CT.clean, T.clean, insRow_r1, insRow_clean, opRow_r1, opRow_clean, tellRow_r1, tellRow_clean, bRow_r1, bRow_clean, by1, by2]) rfl rfl, ?_⟩)
  (unfold runH; simp (maxSteps := 1000000) only [by1, by2, bn, bn2, go_sem, setCells, setIn, Int.reduceToNat, Int.reduceEq, Int.reduceLT, Int.reduceLE, Int.reduceNeg, Int.reduceSub, Int.reduceAdd, ge_iff_le, gt_iff_lt, ↓reduceIte, Nat.reduceEqDiff, Nat.reduceAdd, Nat.reduceMul, Nat.reduceLT, Nat.reduceLeDiff, Nat.reduceBEq, reduceCtorEq])
  (refine ⟨_, _, call_rx [0] Try.func42 (rNp) rfl rfl rfl rfl rfl rfl rfl (by simp [lendAll, lendC, seek, fresh, nav, rcells, RT.cells, VV.cells, tabE_cons, tabS_cons, ev, take_map_len, insRow_r1, insRow_clean, opRow_r1, opRow_clean, tellRow_r1, tellRow_clean, bRow_r1, bRow_clean, bn, bn2]) rfl (by simp [rcells, RT.cells, CT.clean, T.clean, insRow_r1, insRow_clean, opRow_r1, opRow_clean, tellRow_r1, tellRow_clean, bRow_r1, bRow_clean, bn, bn2]) rfl rfl, ?_⟩)
  (unfold runH; simp (maxSteps := 1000000) only [by1, by2, bn, bn2, bx2, bq, w1, w2, d1, d2, d3, go_sem, setCells, setIn, Int.reduceToNat, Int.reduceEq, Int.reduceLT, Int.reduceLE, Int.reduceNeg, Int.reduceSub, Int.reduceAdd, ge_iff_le, gt_iff_lt, ↓reduceIte, Nat.reduceEqDiff, Nat.reduceAdd, Nat.reduceMul, Nat.reduceLT, Nat.reduceLeDiff, Nat.reduceBEq, reduceCtorEq])
  exact vw_ret (e_ret (ret_of rfl rfl (by simp [RB]) rfl rfl))
end Go.Proofs.Ytppbonbghmdhhaa
