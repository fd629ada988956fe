/- The law FnPorts. -/
import Derived.Test.YtppbonbghmdhhaaPFDrawQ
import Derived.Test.YtppbonbghmdhhaaPFSend
import Derived.Test.YtppbonbghmdhhaaPFTold
import Derived.Test.YtppbonbghmdhhaaPFHear
import Derived.Test.YtppbonbghmdhhaaPFTake
namespace Go.Proofs.Ytppbonbghmdhhaa
open Go.VM Go
set_option maxRecDepth 100000
set_option linter.unusedSimpArgs false
set_option linter.unusedVariables false
attribute [-go_sem] runW_cons
attribute [local congr] vw_congr runV_congr runH_congr runW_congr runX_congr

theorem askG_len (L : List UInt8) : ∀ (n i : Nat) (c : Cur) (l : List OpV), (askG L n i c l).1.length ≤ l.length + n
  | 0, i, c, l => Nat.le_refl _
  | n + 1, i, c, l => by
    rw [askG]
    split
    · have := askG_len L n (i + 1) (drawOp L (byteC L c)).2 (l ++ [(drawOp L (byteC L c)).1])
      simp only [List.length_append, List.length_cons, List.length_nil] at this
      omega
    · simp only; omega
theorem tellG_len (L : List UInt8) : ∀ (n i : Nat) (c : Cur) (l : List TellV), (tellG L n i c l).1.length ≤ l.length + n
  | 0, i, c, l => Nat.le_refl _
  | n + 1, i, c, l => by
    rw [tellG]
    split
    · have := tellG_len L n (i + 1) (drawTell L (byteC L c)).2 (l ++ [(drawTell L (byteC L c)).1])
      simp only [List.length_append, List.length_cons, List.length_nil] at this
      omega
    · simp only; omega
theorem drawPort_len (L : List UInt8) (c : Cur) : (drawPort L c).1.asks.length ≤ 10 ∧ (drawPort L c).1.tells.length ≤ 10 := by
  have h1 := askG_len L 4 0 c []
  have h2 := tellG_len L 4 0 (askG L 4 0 c []).2 []
  simp only [List.length_nil] at h1 h2
  unfold drawPort
  split
  · simp only [List.length_append, List.length_cons, List.length_nil]; omega
  · split
    · simp only [List.length_append, List.length_cons, List.length_nil]; omega
    · simp only; omega

theorem typed_62 {k : Nat} {ts : List T} (h : typed Try.prog (k + 4) 62 ts) : ∃ l : List UInt8, ts = [.list false 1 (l.map bRow)] ∧ l.length < 2 ^ 63 := by
  simp only [typed, Try.underlying62, Try.underlying5, cellsOf_5] at h
  obtain ⟨rows, rfl, hlen, hrows⟩ := h
  obtain ⟨l, rfl, hl⟩ := map_of (f := bRow) (Q := fun _ => True) (rows := rows) (fun r hr => by
    obtain ⟨i, rfl, hs⟩ := hrows r hr
    simp only [Lit.wf, Bool.and_eq_true, decide_eq_true_eq] at hs
    have h0 : IntKind.min .u8 = 0 := by decide
    have h1 : IntKind.max .u8 = 255 := by decide
    rw [h0, h1] at hs
    refine ⟨UInt8.ofNat i.toNat, ?_, trivial⟩
    have e : ((UInt8.ofNat i.toNat).toNat : Int) = i := by
      rw [UInt8.toNat_ofNat']; omega
    simp only [bRow, e])
  exact ⟨l, rfl, by simpa using hlen⟩

theorem runs_35 (L : List UInt8) (hL : L.length < 2 ^ 63) : Runs Try.prog 35 [.one (.v (.list false 1 (L.map bRow)))] [.one (.v (.bool (decide (1048576 < (L.length : Int)))))] [] := by
  refine runs_tab (tab := [(0, .c (.list false 1 (L.map bRow)))]) (rts := []) (n := 6) (k := 1) Try.func35 rfl rfl (by simp) rfl (fun t => ?_) rfl ?_
  · rcases t with _ | t <;> rfl
  (refine vw_go rfl ?_; simp only [go_sem, setCells, setIn, Int.reduceToNat, Int.reduceEq, Int.reduceLT, Int.reduceLE, Int.reduceNeg, Int.reduceSub, Int.reduceAdd, ge_iff_le, gt_iff_lt, ↓reduceIte, Nat.reduceEqDiff, Nat.reduceAdd, Nat.reduceMul, Nat.reduceLT, Nat.reduceLeDiff, Nat.reduceBEq, reduceCtorEq])
  (refine vw_go rfl ?_; simp only [go_sem, setCells, setIn, Int.reduceToNat, Int.reduceEq, Int.reduceLT, Int.reduceLE, Int.reduceNeg, Int.reduceSub, Int.reduceAdd, ge_iff_le, gt_iff_lt, ↓reduceIte, Nat.reduceEqDiff, Nat.reduceAdd, Nat.reduceMul, Nat.reduceLT, Nat.reduceLeDiff, Nat.reduceBEq, reduceCtorEq])
  exact vw_ret (e_ret (ret_of rfl rfl (by simp [RB]) rfl rfl))

end Go.Proofs.Ytppbonbghmdhhaa
