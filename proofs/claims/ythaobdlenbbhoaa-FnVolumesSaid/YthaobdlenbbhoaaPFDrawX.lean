/- Volumes: how many nodes are used, a free one, a new volume; of both. Draws of volumes. Draws of volumes: what the laws call. -/
import Derived.Test.YthaobdlenbbhoaaPFAskS
import Derived.Test.YthaobdlenbbhoaaPFNodeR
import Derived.Test.YthaobdlenbbhoaaPFDraw
import Derived.Test.YthaobdlenbbhoaaPFAskS5
namespace Go.Proofs.Ythaobdlenbbhoaa
open Go.VM Go
set_option maxRecDepth 100000
set_option linter.unusedSimpArgs false
set_option linter.unusedVariables false
attribute [local congr] vw_congr runV_congr runH_congr runW_congr runX_congr

def usedF : List ByteArray → Nat
  | [] => 0
  | s :: l => (if s = ⟨#[]⟩ then 0 else 1) + usedF l
theorem usedF_le : ∀ l : List ByteArray, usedF l ≤ l.length
  | [] => Nat.le_refl _
  | s :: l => by
    have := usedF_le l
    simp only [usedF, List.length_cons]
    split <;> omega
theorem runs_11 (l : List ByteArray) (hl : l.length < 2 ^ 60) : Runs Try.prog 11 [.one (.v (.list false 1 (l.map sRow)))] [.one (.v (.int .i64 (usedF l)))] [] := by
  refine runs_tab (tab := [(0, .c (.list false 1 (l.map sRow)))]) (rts := []) (n := 18) (k := 1) Try.func11 rfl rfl (by simp) rfl (fun t => ?_) rfl ?_
  · cases t <;> rfl
  have hu := usedF_le l
  (refine vw_go rfl ?_; simp only [go_sem, setCells, setIn])
  (refine vw_go rfl ?_; simp only [go_sem, setCells, setIn])
  refine vw_seq ?_
  (refine vw_go rfl ?_; simp only [go_sem, setCells, setIn])
  refine vw_block ?_
  refine vw_loop_tab (α := Nat × Nat) (fun x => l.length - x.1) (fun x => ⟨tabE [(3, .c (.int .i64 x.2)), (6, .c (.list false 1 (l.map sRow))), (7, .c (.int .i64 l.length)), (8, .c (.int .i64 x.1))], tabS [], 1⟩)
    (fun x => x.1 ≤ l.length ∧ x.2 + usedF (l.drop x.1) = usedF l) (x := (0, 0)) ?round ?h0 ?hn
  case h0 => exact ⟨Nat.zero_le _, Nat.zero_add _⟩
  case hn =>
    (refine norm_to [] rfl ?_ ?_ <;> simp only [go_sem])
  rintro ⟨i, n⟩ ⟨h2, hg⟩
  simp only at h2 hg
  by_cases hc : (i : Int) < l.length
  case neg =>
    rw [List.drop_eq_nil_of_le (by omega), usedF] at hg
    rw [← hg]
    (refine vw_go rfl ?_; simp only [hc, go_sem, setCells, setIn])
    refine vw_seq ?_
    (refine vw_cond (t := false) rfl (fun h => nomatch h) (fun _ => ?_))
    refine vw_exit (x_then (x_then (x_block (n_then ?_))))
    (refine vw_go rfl ?_; simp only [go_sem, setCells, setIn])
    exact vw_ret (e_ret (ret_of rfl rfl (by simp [RB]) rfl rfl))
  have hin : i < l.length := by omega
  obtain ⟨s, hs⟩ : ∃ s, l[i]? = some s := ⟨_, List.getElem?_eq_getElem hin⟩
  rw [drop_of hs, usedF] at hg
  have d0 : (0:Int) ≤ (i : Int) := by omega
  have w3 : IntKind.wrap .i64 ((i:Int) + 1) = ((i + 1 : Nat) : Int) := by rw [wrap_i64 (by omega) (by omega)]; rfl
  have w4 : IntKind.wrap .i64 ((n:Int) + 1) = ((n + 1 : Nat) : Int) := by rw [wrap_i64 (by omega) (by split at hg <;> omega)]; rfl
  (refine vw_go rfl ?_; simp only [hc, go_sem, setCells, setIn])
  refine vw_seq ?_
  (refine vw_cond (t := true) rfl (fun _ => ?_) (fun h => nomatch h))
  refine vw_skip (n_then ?_)
  refine vw_seq ?_
  refine vw_block ?_
  (refine vw_go rfl ?_; simp only [d0, hc, hin, Int.toNat_natCast, getD_map_of hs, sRow, go_sem, setCells, setIn])
  by_cases hz : s = ⟨#[]⟩
  · rw [if_pos hz] at hg
    (refine vw_go rfl ?_; simp only [hz, go_sem, setCells, setIn])
    (refine vw_cond (t := false) rfl (fun h => nomatch h) (fun _ => ?_))
    refine vw_skip (n_block (n_then ?_))
    (refine vw_last rfl ?_; simp only [w3, go_sem, setCells, setIn])
    refine (n_then ?_)
    refine ⟨(i + 1, n), by simp only; omega, ⟨by simp only; omega, by simp only; omega⟩, ?_⟩
    (refine norm_to [] rfl ?_ ?_ <;> simp only [go_sem])
  · rw [if_neg hz] at hg
    (refine vw_go rfl ?_; simp only [hz, go_sem, setCells, setIn])
    (refine vw_cond (t := true) rfl (fun _ => ?_) (fun h => nomatch h))
    (refine vw_last rfl ?_; simp only [w4, go_sem, setCells, setIn])
    refine (n_block (n_then ?_))
    (refine vw_last rfl ?_; simp only [w3, go_sem, setCells, setIn])
    refine (n_then ?_)
    refine ⟨(i + 1, n + 1), by simp only; omega, ⟨by simp only; omega, by simp only; omega⟩, ?_⟩
    (refine norm_to [] rfl ?_ ?_ <;> simp only [go_sem])

theorem runs_12 (l : List ByteArray) (hl : l.length < 2 ^ 60) : Runs Try.prog 12 [.one (.v (.list false 1 (l.map sRow)))] [.one (.v (.int .i64 (usedF l)))] [] := by
  refine runs_tab (tab := [(0, .c (.list false 1 (l.map sRow)))]) (rts := []) (n := 19) (k := 1) Try.func12 rfl rfl (by simp) rfl (fun t => ?_) rfl ?_
  · cases t <;> rfl
  have hu := usedF_le l
  (refine vw_go rfl ?_; simp only [go_sem, setCells, setIn])
  (refine vw_go rfl ?_; simp only [go_sem, setCells, setIn])
  refine vw_seq ?_
  (refine vw_go rfl ?_; simp only [go_sem, setCells, setIn])
  refine vw_block ?_
  refine vw_loop_tab (α := Nat × Nat) (fun x => l.length - x.1) (fun x => ⟨tabE [(0, .c (.list false 1 (l.map sRow))), (3, .c (.int .i64 x.2)), (4, .c (.int .i64 x.1))], tabS [], 1⟩)
    (fun x => x.1 ≤ l.length ∧ x.2 + usedF (l.drop x.1) = usedF l) (x := (0, 0)) ?round ?h0 ?hn
  case h0 => exact ⟨Nat.zero_le _, Nat.zero_add _⟩
  case hn =>
    (refine norm_to [] rfl ?_ ?_ <;> simp only [go_sem])
  rintro ⟨i, n⟩ ⟨h2, hg⟩
  simp only at h2 hg
  refine vw_seq ?_
  by_cases hc : (i : Int) < l.length
  case neg =>
    rw [List.drop_eq_nil_of_le (by omega), usedF] at hg
    rw [← hg]
    (refine vw_go rfl ?_; simp only [hc, go_sem, setCells, setIn])
    (refine vw_cond (t := false) rfl (fun h => nomatch h) (fun _ => ?_))
    refine vw_exit (x_then (x_then (x_block (n_then ?_))))
    (refine vw_go rfl ?_; simp only [go_sem, setCells, setIn])
    exact vw_ret (e_ret (ret_of rfl rfl (by simp [RB]) rfl rfl))
  have hin : i < l.length := by omega
  obtain ⟨s, hs⟩ : ∃ s, l[i]? = some s := ⟨_, List.getElem?_eq_getElem hin⟩
  rw [drop_of hs, usedF] at hg
  have d0 : (0:Int) ≤ (i : Int) := by omega
  have w3 : IntKind.wrap .i64 ((i:Int) + 1) = ((i + 1 : Nat) : Int) := by rw [wrap_i64 (by omega) (by omega)]; rfl
  have w4 : IntKind.wrap .i64 ((n:Int) + 1) = ((n + 1 : Nat) : Int) := by rw [wrap_i64 (by omega) (by split at hg <;> omega)]; rfl
  (refine vw_go rfl ?_; simp only [hc, go_sem, setCells, setIn])
  (refine vw_cond (t := true) rfl (fun _ => ?_) (fun h => nomatch h))
  refine vw_skip (n_then ?_)
  refine vw_seq ?_
  refine vw_block ?_
  by_cases hz : s = ⟨#[]⟩
  · rw [if_pos hz] at hg
    (refine vw_go rfl ?_; simp only [d0, hc, hin, Int.toNat_natCast, getD_map_of hs, sRow, hz, go_sem, setCells, setIn])
    (refine vw_cond (t := false) rfl (fun h => nomatch h) (fun _ => ?_))
    refine vw_skip (n_block (n_then ?_))
    (refine vw_last rfl ?_; simp only [w3, go_sem, setCells, setIn])
    refine (n_then ?_)
    refine ⟨(i + 1, n), by simp only; omega, ⟨by simp only; omega, by simp only; omega⟩, ?_⟩
    (refine norm_to [] rfl ?_ ?_ <;> simp only [go_sem])
  · rw [if_neg hz] at hg
    (refine vw_go rfl ?_; simp only [d0, hc, hin, Int.toNat_natCast, getD_map_of hs, sRow, hz, go_sem, setCells, setIn])
    (refine vw_cond (t := true) rfl (fun _ => ?_) (fun h => nomatch h))
    (refine vw_last rfl ?_; simp only [w4, go_sem, setCells, setIn])
    refine (n_block (n_then ?_))
    (refine vw_last rfl ?_; simp only [w3, go_sem, setCells, setIn])
    refine (n_then ?_)
    refine ⟨(i + 1, n + 1), by simp only; omega, ⟨by simp only; omega, by simp only; omega⟩, ?_⟩
    (refine norm_to [] rfl ?_ ?_ <;> simp only [go_sem])

/-! ### a free node -/
def freeV (l : List ByteArray) : Int := if l.length = 12 then freeF l else -1
theorem runs_FreeNodeS (l : List ByteArray) (hl : l.length < 2 ^ 60) : Runs Try.prog 13 [.one (.v (.list false 1 (l.map sRow)))] [.one (.v (.int .i64 (freeV l)))] [] := by
  unfold freeV
  by_cases h12 : l.length = 12
  · rw [if_pos h12]; exact runs_13 l h12
  rw [if_neg h12]
  refine runs_tab (tab := [(0, .c (.list false 1 (l.map sRow)))]) (rts := []) (n := 21) (k := 1) Try.func13 rfl rfl (by simp) rfl (fun t => ?_) rfl ?_
  · cases t <;> rfl
  have hi : ¬ (l.length : Int) = 12 := by omega
  (refine vw_go rfl ?_; simp only [go_sem, setCells, setIn])
  refine vw_seq ?_
  (refine vw_go rfl ?_; simp only [go_sem, setCells, setIn])
  refine vw_block ?_
  refine vw_loop_tab (α := Unit) (fun x => 0) (fun x => ⟨tabE [(0, .c (.list false 1 (l.map sRow))), (3, .c (.int .i64 1))], tabS [], 1⟩)
    (fun x => True) (x := ()) ?round ?h0 ?hn
  case h0 => trivial
  case hn =>
    (refine norm_to [] rfl ?_ ?_ <;> simp only [go_sem])
  rintro i _
  refine vw_seq ?_
  by_cases hc : (1 : Int) < l.length
  · (refine vw_go rfl ?_; simp only [hc, hi, go_sem, setCells, setIn])
    (refine vw_cond (t := false) rfl (fun h => nomatch h) (fun _ => ?_))
    refine vw_exit (x_then (x_then (x_block (n_then ?_))))
    (refine vw_go rfl ?_; simp only [go_sem, setCells, setIn])
    exact vw_ret (e_ret (ret_of rfl rfl (by simp [RB]) rfl rfl))
  · (refine vw_go rfl ?_; simp only [hc, go_sem, setCells, setIn])
    (refine vw_cond (t := false) rfl (fun h => nomatch h) (fun _ => ?_))
    refine vw_exit (x_then (x_then (x_block (n_then ?_))))
    (refine vw_go rfl ?_; simp only [go_sem, setCells, setIn])
    exact vw_ret (e_ret (ret_of rfl rfl (by simp [RB]) rfl rfl))

theorem runs_9 (l : List ByteArray) (hl63 : l.length < 2 ^ 60) : Runs Try.prog 9 [.one (.v (.list false 1 (l.map sRow)))] [.one (.v (.int .i64 (freeV l)))] [] := by
  refine runs_tab (tab := [(0, .c (.list false 1 (l.map sRow)))]) (rts := []) (n := 17) (k := 1) Try.func9 rfl rfl (by simp) rfl (fun t => ?_) rfl ?_
  · cases t <;> rfl
  unfold freeV
  (refine vw_go rfl ?_; simp only [go_sem, setCells, setIn])
  refine vw_seq ?_
  by_cases hl : l.length = 12
  case neg =>
    rw [if_neg hl]
    have hi : ¬ (l.length : Int) = 12 := by omega
    (refine vw_go rfl ?_; simp only [hi, go_sem, setCells, setIn])
    (refine vw_cond (t := true) rfl (fun _ => ?_) (fun h => nomatch h))
    (refine vw_go rfl ?_; simp only [go_sem, setCells, setIn])
    exact vw_ret (r_then (e_ret (ret_of rfl rfl (by simp [RB]) rfl rfl)))
  rw [if_pos hl]
  unfold freeF
  have hi : (l.length : Int) = 12 := by omega
  (refine vw_go rfl ?_; simp only [hi, go_sem, setCells, setIn])
  (refine vw_cond (t := false) rfl (fun h => nomatch h) (fun _ => ?_))
  refine vw_skip (n_then ?_)
  refine vw_seq ?_
  (refine vw_go rfl ?_; simp only [go_sem, setCells, setIn])
  refine vw_block ?_
  refine vw_loop_tab (α := Nat) (fun x => 12 - x) (fun x => ⟨tabE [(0, .c (.list false 1 (l.map sRow))), (3, .c (.int .i64 x))], tabS [], 1⟩)
    (fun x => 1 ≤ x ∧ x ≤ 12 ∧ idxOf (fun s => decide (s = ⟨#[]⟩)) (l.drop x) x = idxOf (fun s => decide (s = ⟨#[]⟩)) (l.drop 1) 1) (x := 1) ?round ?h0 ?hn
  case h0 => exact ⟨Nat.le_refl _, by decide, rfl⟩
  case hn =>
    (refine norm_to [] rfl ?_ ?_ <;> simp only [go_sem])
    · rfl
  rintro i ⟨h1, h2, hg⟩
  refine vw_seq ?_
  by_cases hc : (i : Int) < 12
  case neg =>
    rw [List.drop_eq_nil_of_le (by omega), idxOf] at hg
    rw [← hg]
    (refine vw_go rfl ?_; simp only [hc, go_sem, setCells, setIn])
    (refine vw_cond (t := false) rfl (fun h => nomatch h) (fun _ => ?_))
    refine vw_exit (x_then (x_then (x_block (n_then ?_))))
    (refine vw_go rfl ?_; simp only [go_sem, setCells, setIn])
    exact vw_ret (e_ret (ret_of rfl rfl (by simp [RB]) rfl rfl))
  have hin : i < l.length := by omega
  have hci : (i : Int) < l.length := by omega
  obtain ⟨s, hs⟩ : ∃ s, l[i]? = some s := ⟨_, List.getElem?_eq_getElem hin⟩
  rw [drop_of hs, idxOf] at hg
  have d0 : (0:Int) ≤ (i : Int) := by omega
  have w3 : IntKind.wrap .i64 ((i:Int) + 1) = ((i + 1 : Nat) : Int) := by rw [wrap_i64 (by omega) (by omega)]; rfl
  (refine vw_go rfl ?_; simp only [hc, go_sem, setCells, setIn])
  (refine vw_cond (t := true) rfl (fun _ => ?_) (fun h => nomatch h))
  refine vw_skip (n_then ?_)
  refine vw_seq ?_
  refine vw_block ?_
  (refine vw_go rfl ?_; simp only [d0, hci, hin, Int.toNat_natCast, getD_map_of hs, sRow, go_sem, setCells, setIn])
  by_cases hz : s = ⟨#[]⟩
  · rw [if_pos (by simp [hz])] at hg
    rw [← hg]
    refine vw_cond (t := true) (by simp [ev, tabE_cons, hz]) (fun _ => ?_) (fun h => nomatch h)
    (refine vw_go rfl ?_; simp only [go_sem, setCells, setIn])
    exact vw_ret (r_block (r_then (r_then (r_block (r_then (e_ret (ret_of rfl rfl (by simp [RB]) rfl rfl)))))))
  rw [if_neg (by simp [hz])] at hg
  refine vw_cond (t := false) (by simp [ev, tabE_cons, hz]) (fun h => nomatch h) (fun _ => ?_)
  refine vw_skip (n_block (n_then ?_))
  (refine vw_last rfl ?_; simp only [w3, go_sem, setCells, setIn])
  refine (n_then ?_)
  refine ⟨i + 1, by omega, ⟨by omega, by omega, hg⟩, ?_⟩
  (refine norm_to [] rfl ?_ ?_ <;> simp only [go_sem])

/-! ### a new volume -/
def volNew : List ByteArray := [⟨#[100]⟩, ⟨#[]⟩, ⟨#[]⟩, ⟨#[]⟩, ⟨#[]⟩, ⟨#[]⟩, ⟨#[]⟩, ⟨#[]⟩, ⟨#[]⟩, ⟨#[]⟩, ⟨#[]⟩, ⟨#[]⟩]
theorem set_new : ((List.replicate 12 (⟨#[]⟩ : ByteArray)).map sRow).set 0 ((((List.replicate 12 (⟨#[]⟩ : ByteArray)).map sRow).getD 0 []).set 0 (.str ⟨#[100]⟩)) = volNew.map sRow := rfl
theorem take_new : List.take 12 (volNew.map sRow) = volNew.map sRow := rfl
theorem rep_new : List.replicate 12 [T.str ⟨#[]⟩] = (List.replicate 12 (⟨#[]⟩ : ByteArray)).map sRow := rfl
theorem runs_38 : Runs Try.prog 38 [] [.one (.v (.list true 1 (volNew.map sRow)))] [] := by
  refine runs_tab (tab := ([] : List (Nat × VV))) (rts := []) (n := 6) (k := 0) Try.func38 rfl rfl (by simp) rfl (fun t => ?_) rfl ?_
  · rfl
  have g2 : (12 : Int) * (((16 : Nat) : Int) + 1) ≤ (bigRow : Int) := by simp only [bigRow]; omega
  (refine vw_go rfl ?_; simp only [go_sem, setCells, setIn])
  (refine vw_go rfl ?_; simp only [g2, rep_new, go_sem, setCells, setIn])
  (refine vw_go rfl ?_; simp only [go_sem, setCells, setIn])
  (refine vw_go rfl ?_; simp only [set_new, take_new, go_sem, setCells, setIn])
  exact vw_ret (e_ret (ret_of rfl rfl (by simp [RB]) rfl (take_whole (R := ⟨false, 1, volNew.map sRow, []⟩) rfl rfl rfl rfl)))
theorem runs_18 : Runs Try.prog 18 [] [.one (.v (.list true 1 (volNew.map sRow)))] [] := by
  refine runs_tab (tab := ([] : List (Nat × VV))) (rts := []) (n := 8) (k := 0) Try.func18 rfl rfl (by simp) rfl (fun t => ?_) rfl ?_
  · rfl
  have g2 : (12 : Int) * (((16 : Nat) : Int) + 1) ≤ (bigRow : Int) := by simp only [bigRow]; omega
  have rT := runs_17 ⟨true, [], [], ⟨#[]⟩⟩ ⟨by decide, by decide, fun s hs => nomatch hs⟩ (Nat.zero_le _) (by decide)
  have hT : nodeText ⟨true, [], [], ⟨#[]⟩⟩ = ⟨#[100]⟩ := by rfl
  simp only [List.map_nil, hT] at rT
  (refine vw_go rfl ?_; simp only [go_sem, setCells, setIn])
  (refine vw_go rfl ?_; simp only [g2, rep_new, go_sem, setCells, setIn])
  (refine vw_go rfl ?_; simp only [go_sem, setCells, setIn])
  (refine ⟨_, _, call_rx [0] Try.func17 (rT) rfl rfl rfl rfl rfl rfl rfl (by simp [lendAll, lendC, seek, fresh, nav, rcells, RT.cells, VV.cells, tabE_cons, tabS_cons, ev, take_map_len, lit, cleanRs]) rfl (by simp [rcells, RT.cells, CT.clean, T.clean, lit, cleanRs]) rfl rfl, ?_⟩)
  simp only [runH, runX, go_sem, setCells, setIn]
  (refine vw_go rfl ?_; simp only [set_new, take_new, go_sem, setCells, setIn])
  exact vw_ret (e_ret (ret_of rfl rfl (by simp [RB]) rfl (take_whole (R := ⟨false, 1, volNew.map sRow, []⟩) rfl rfl rfl rfl)))
end Go.Proofs.Ythaobdlenbbhoaa
namespace Go.Proofs.Ythaobdlenbbhoaa
open Go.VM Go
set_option maxRecDepth 100000
set_option linter.unusedSimpArgs false
set_option linter.unusedVariables false
attribute [-go_sem] runW_cons
attribute [local congr] vw_congr runV_congr runH_congr runW_congr runX_congr

theorem drawOp_small (L : List UInt8) (c : Cur) : (drawOp L c).1.path.size ≤ 11 ∧ (drawOp L c).1.to.size ≤ 11 := by
  have hp : ∀ c, (drawPath L c).size ≤ 11 := by
    intro c
    have h : ∀ s ∈ pathL, s.size ≤ 11 := by decide
    exact h _ (pickV_mem (l := pathL) L c ⟨#[]⟩ (by decide))
  unfold drawOp
  split
  · exact ⟨hp _, Nat.zero_le _⟩
  · split
    · exact ⟨hp _, hp _⟩
    · exact ⟨hp _, Nat.zero_le _⟩
def stepV (L : List UInt8) (c : Cur) (l : List ByteArray) : List ByteArray := doneL l (askF l (drawOp L c).1).2.2
def changeG (L : List UInt8) : Nat → Cur → List ByteArray → List ByteArray × Cur
  | 0, c, l => (l, c)
  | n + 1, c, l => changeG L n (drawOp L c).2 (stepV L c l)
def drawRight (L : List UInt8) (c : Cur) : List ByteArray × Cur := changeG L (belV L c 22).toNat (byteC L c) volNew
def volFit (l : List ByteArray) : Prop := l.length = 12 ∧ ∀ s ∈ l, s.size ≤ 100
theorem volNew_fit : volFit volNew := ⟨rfl, by decide⟩
theorem stepV_fit {L : List UInt8} {c : Cur} {l : List ByteArray} (h : volFit l) : volFit (stepV L c l) :=
  ⟨by unfold stepV; rw [doneL_len]; exact h.1, doneL_size _ l 100 h.2 (askF_few l _).2⟩
theorem changeG_fit (L : List UInt8) : ∀ (n : Nat) (c : Cur) (l : List ByteArray), volFit l → volFit (changeG L n c l).1
  | 0, c, l, h => h
  | n + 1, c, l, h => changeG_fit L n _ _ (stepV_fit h)
theorem drawRight_fit (L : List UInt8) (c : Cur) : volFit (drawRight L c).1 := changeG_fit L _ _ _ volNew_fit

set_option maxHeartbeats 1000000 in
theorem runs_31 (v : Value) (L : List UInt8) (hL : L.length < 2 ^ 60) (c : Cur) (l : List ByteArray) (C : Cur) (hC : (l, C) = drawRight L c) :
    Runs Try.prog 31 [.one (.box [.held v 1 (L.map bRow), .int .i64 c.i, .int .i64 c.h])] [.one (.v (.list true 1 (l.map sRow)))] [(0, ⟨true, 3, [[.held v 1 (L.map bRow), .int .i64 C.i, .int .i64 C.h]], []⟩)] := by
  refine runs_tabB (tab := [(0, .ptr 0 [] 0 0 0)]) (rts := [(0, some ⟨true, 3, [[.held v 1 (L.map bRow), .int .i64 c.i, .int .i64 c.h]], []⟩)]) (n := 23) (k := 1) Try.func31 rfl rfl (by simp) rfl (fun t => ?_) rfl ?_
  · rcases t with _ | t <;> rfl
  unfold drawRight at hC
  have rV := runs_38
  have hv0 := volNew_fit
  generalize volNew = v0 at rV hC hv0
  have rB := runs_25 v L hL c 22 (by decide) (by decide)
  have hb := belV_in L c (n := 22) (by decide)
  generalize belV L c 22 = b at rB hC hb
  generalize byteC L c = c1 at rB hC
  obtain ⟨N, rfl⟩ : ∃ N : Nat, b = N := ⟨b.toNat, by omega⟩
  rw [Int.toNat_natCast] at hC
  (refine vw_go rfl ?_; simp only [go_sem, setCells, setIn])
  (refine vw_go rfl ?_; simp only [go_sem, setCells, setIn])
  (refine ⟨_, _, call_rx [] Try.func38 (rV) rfl rfl rfl rfl rfl rfl rfl (by simp [lendAll, lendC, seek, fresh, nav, rcells, RT.cells, VV.cells, tabE_cons, tabS_cons, ev, take_map_len, sRow_r1, sRow_comp, sRow_clean]) rfl (by simp [rcells, RT.cells, CT.clean, T.clean, sRow_r1, sRow_comp, sRow_clean]) rfl rfl, ?_⟩)
  simp only [runH, runX, go_sem, setCells, setIn]
  (refine vw_go rfl ?_; simp only [go_sem, setCells, setIn])
  (refine ⟨_, _, call_pt [0, 0] 0 Try.func25 (rB) rfl rfl rfl rfl rfl rfl rfl rfl (by simp [lendAll, lendC, seek, fresh, nav, rcells, RT.cells, VV.cells, tabE_cons, tabS_cons, St.put, ev, lit, take_map_len]) rfl rfl (by simp [rcells, RT.cells, CT.fine, T.fine]) (by exact ⟨.inr ⟨0, _, _, rfl, .head _, .head _⟩, trivial, trivial, trivial⟩) rfl rfl, ?_⟩)
  simp only [runH, runX, go_sem, setCells, setIn]
  refine vw_seq ?_
  (refine vw_go rfl ?_; simp only [go_sem, setCells, setIn])
  refine vw_block ?_
  refine vw_loop_tab (α := Nat × Nat × Cur × List ByteArray × List Path) (fun x => x.1) (fun x => ⟨tabE [(0, .ptr 0 [] 0 0 0), (3, .al 1 [] 0 1 0 x.2.2.2.1.length), (4, .c (.int .i64 N)), (5, .c (.int .i64 x.2.1))],
      tabS [(0, some ⟨true, 3, [[.held v 1 (L.map bRow), .int .i64 x.2.2.1.i, .int .i64 x.2.2.1.h]], x.2.2.2.2⟩), (1, some ⟨false, 1, x.2.2.2.1.map sRow, []⟩)], 2⟩)
    (fun x => x.1 + x.2.1 = N ∧ changeG L x.1 x.2.2.1 x.2.2.2.1 = (l, C) ∧ volFit x.2.2.2.1) (x := (N, 0, c1, v0, [[]])) ?round ?h0 ?hn
  case h0 => exact ⟨rfl, hC.symm, hv0⟩
  case hn =>
    (refine norm_to [(0, 0), (65537, 1)] rfl ?_ ?_ <;> simp only [go_sem])
  rintro ⟨n, i, d, w, lg⟩ ⟨hn, hg, hf⟩
  simp only at hn hg hf
  refine vw_seq ?_
  by_cases hc : (i : Int) < N
  case neg =>
    obtain rfl : n = 0 := by omega
    rw [changeG] at hg
    obtain ⟨rfl, rfl⟩ := hg
    (refine vw_go rfl ?_; simp only [hc, go_sem, setCells, setIn])
    (refine vw_cond (t := false) rfl (fun h => nomatch h) (fun _ => ?_))
    refine vw_exit (x_then (x_then (x_block (n_then ?_))))
    (refine vw_go rfl ?_; simp only [go_sem, setCells, setIn])
    have bl : List.take l.length (l.map sRow) = l.map sRow := List.take_of_length_le (by simp)
    exact vw_ret (e_ret (ret_b rfl rfl (by simp [RB]) rfl (by simp only [takeCs, takeC, bl, List.drop_length, go_sem, setCells, setIn]; rfl) (by exact ⟨⟨by simp, _, rfl, rfl, rfl, rfl⟩, trivial⟩)))
  obtain ⟨m, rfl⟩ : ∃ m, n = m + 1 := ⟨n - 1, by omega⟩
  rw [changeG] at hg
  have hf2 := stepV_fit (L := L) (c := d) hf
  have rO := runs_40 v L hL d (drawOp L d).1 (drawOp L d).2 rfl
  have hos := drawOp_small L d
  have rC := runs_39 w (by rw [hf.1]; decide) (fun s hs => Nat.le_trans (hf.2 s hs) (by decide)) (drawOp L d).1 (by omega) (by omega) _ rfl
  unfold stepV at hg hf2
  generalize drawOp L d = oc at rO hg rC hf2
  obtain ⟨o, e⟩ := oc
  simp only at rO hg rC hf2
  generalize askF w o = A at rC hg hf2
  generalize doneL w A.2.2 = u at rC hg hf2
  have bw : List.take w.length (w.map sRow) = w.map sRow := List.take_of_length_le (by simp)
  have w3 : IntKind.wrap .i64 ((i:Int) + 1) = ((i + 1 : Nat) : Int) := by rw [wrap_i64 (by omega) (by omega)]; rfl
  (refine vw_go rfl ?_; simp only [hc, go_sem, setCells, setIn])
  (refine vw_cond (t := true) rfl (fun _ => ?_) (fun h => nomatch h))
  refine vw_skip (n_then ?_)
  refine vw_seq ?_
  refine vw_block ?_
  (refine vw_last rfl ?_; simp only [go_sem, setCells, setIn])
  (refine ⟨_, _, call_pt [0] 0 Try.func40 (rO) rfl rfl rfl rfl rfl rfl rfl rfl (by simp [lendAll, lendC, seek, fresh, nav, rcells, RT.cells, VV.cells, tabE_cons, tabS_cons, St.put, ev, lit, take_map_len]) rfl rfl (by simp [rcells, RT.cells, CT.fine, T.fine]) (by exact ⟨.inr ⟨0, _, _, rfl, .head _, .head _⟩, trivial, trivial, trivial⟩) rfl rfl, ?_⟩)
  simp only [runH, runX, bw, go_sem, setCells, setIn]
  (refine ⟨_, _, call_rx [0, 0] Try.func39 (rC) rfl rfl rfl rfl rfl rfl rfl (by simp [lendAll, lendC, seek, fresh, nav, rcells, RT.cells, VV.cells, tabE_cons, tabS_cons, ev, take_map_len, sRow_r1, sRow_comp, sRow_clean, bw]) rfl (by simp [rcells, RT.cells, CT.clean, T.clean, sRow_r1, sRow_comp, sRow_clean, bw]) rfl rfl, ?_⟩)
  simp only [runH, runX, go_sem, setCells, setIn]
  refine (n_block (n_then ?_))
  (refine vw_last rfl ?_; simp only [w3, go_sem, setCells, setIn])
  refine (n_then ?_)
  refine ⟨(m, i + 1, e, u, lg ++ [[]]), by simp only; omega, ⟨by simp only; omega, hg, hf2⟩, ?_⟩
  (refine norm_to [(0, 0), (68610, 1)] rfl ?_ ?_ <;> simp only [go_sem])

def pickL : List ByteArray := [⟨#[]⟩, ⟨#[120]⟩, ⟨#[100, 97, 61, 49]⟩, ⟨#[102]⟩, ⟨#[100, 97, 61, 48]⟩]
def drawV (L : List UInt8) (c : Cur) : List ByteArray × Cur :=
  if belV L (drawRight L c).2 12 = 0 then ((drawRight L c).1.set (belV L (byteC L (drawRight L c).2) 12).toNat (pickV L (byteC L (byteC L (drawRight L c).2)) pickL ⟨#[]⟩), byteC L (byteC L (byteC L (drawRight L c).2)))
  else if belV L (drawRight L c).2 12 = 1 then ((drawRight L c).1.drop 1, byteC L (drawRight L c).2)
  else if belV L (drawRight L c).2 12 = 2 then ((drawRight L c).1 ++ [⟨#[]⟩], byteC L (drawRight L c).2)
  else ((drawRight L c).1, byteC L (drawRight L c).2)
theorem drawV_fit (L : List UInt8) (c : Cur) : (drawV L c).1.length ≤ 13 ∧ ∀ s ∈ (drawV L c).1, s.size ≤ 100 := by
  obtain ⟨h1, h2⟩ := drawRight_fit L c
  unfold drawV
  split
  · refine ⟨by simp only [List.length_set]; omega, fun s hs => ?_⟩
    rcases List.mem_or_eq_of_mem_set hs with h | h
    · exact h2 s h
    · have h3 : ∀ s ∈ pickL, s.size ≤ 100 := by decide
      rw [h]; exact h3 _ (pickV_mem (l := pickL) L _ ⟨#[]⟩ (by decide))
  · split
    · exact ⟨by simp only [List.length_drop]; omega, fun s hs => h2 s (List.mem_of_mem_drop hs)⟩
    · split
      · refine ⟨by simp only [List.length_append, List.length_cons, List.length_nil]; omega, fun s hs => ?_⟩
        rcases List.mem_append.1 hs with h | h
        · exact h2 s h
        · rw [List.mem_singleton] at h; rw [h]; exact Nat.zero_le _
      · exact ⟨by show (drawRight L c).1.length ≤ 13; omega, h2⟩

set_option maxHeartbeats 1000000 in
theorem runs_20 (v : Value) (L : List UInt8) (hL : L.length < 2 ^ 60) (c : Cur) (l : List ByteArray) (C : Cur) (hC : (l, C) = drawV L c) :
    Runs Try.prog 20 [.one (.box [.held v 1 (L.map bRow), .int .i64 c.i, .int .i64 c.h])] [.one (.v (.list true 1 (l.map sRow)))] [(0, ⟨true, 3, [[.held v 1 (L.map bRow), .int .i64 C.i, .int .i64 C.h]], []⟩)] := by
  refine runs_tabB (tab := [(0, .ptr 0 [] 0 0 0)]) (rts := [(0, some ⟨true, 3, [[.held v 1 (L.map bRow), .int .i64 c.i, .int .i64 c.h]], []⟩)]) (n := 27) (k := 1) Try.func20 rfl rfl (by simp) rfl (fun t => ?_) rfl ?_
  · rcases t with _ | t <;> rfl
  unfold drawV at hC
  have rR := runs_31 v L hL c (drawRight L c).1 (drawRight L c).2 rfl
  have hf := drawRight_fit L c
  generalize drawRight L c = r at rR hf hC
  obtain ⟨w, d⟩ := r
  simp only at rR hf hC
  have rB := runs_25 v L hL d 12 (by decide) (by decide)
  have hb := belV_in L d (n := 12) (by decide)
  generalize belV L d 12 = b at rB hC hb
  generalize byteC L d = e at rB hC
  have bw : List.take w.length (w.map sRow) = w.map sRow := List.take_of_length_le (by simp)
  (refine vw_go rfl ?_; simp only [go_sem, setCells, setIn])
  (refine vw_go rfl ?_; simp only [go_sem, setCells, setIn])
  (refine ⟨_, _, call_pt [0] 0 Try.func31 (rR) rfl rfl rfl rfl rfl rfl rfl rfl (by simp [lendAll, lendC, seek, fresh, nav, rcells, RT.cells, VV.cells, tabE_cons, tabS_cons, St.put, ev, lit, take_map_len, sRow_r1, sRow_comp, sRow_clean, sRow_fine]) rfl rfl (by simp [rcells, RT.cells, CT.fine, T.fine, sRow_r1, sRow_comp, sRow_clean, sRow_fine]) (by exact ⟨.inr ⟨0, _, _, rfl, .head _, .head _⟩, trivial, trivial, trivial⟩) rfl rfl, ?_⟩)
  simp only [runH, runX, bw, go_sem, setCells, setIn]
  refine vw_seq ?_
  (refine vw_go rfl ?_; simp only [go_sem, setCells, setIn])
  (refine ⟨_, _, call_pt [0, 0] 0 Try.func25 (rB) rfl rfl rfl rfl rfl rfl rfl rfl (by simp [lendAll, lendC, seek, fresh, nav, rcells, RT.cells, VV.cells, tabE_cons, tabS_cons, St.put, ev, lit, take_map_len]) rfl rfl (by simp [rcells, RT.cells, CT.fine, T.fine]) (by exact ⟨.inr ⟨0, _, _, rfl, .head _, .head _⟩, trivial, trivial, trivial⟩) rfl rfl, ?_⟩)
  simp only [runH, runX, bw, go_sem, setCells, setIn]
  refine vw_block ?_
  by_cases h0 : b = 0
  · rw [if_pos h0] at hC
    have rB2 := runs_25 v L hL e 12 (by decide) (by decide)
    have hb2 := belV_in L e (n := 12) (by decide)
    generalize belV L e 12 = b2 at rB2 hC hb2
    generalize byteC L e = e2 at rB2 hC
    have rP := runs_32 v L hL e2 pickL (by decide) (by decide)
    generalize pickV L e2 pickL ⟨#[]⟩ = x at rP hC
    generalize byteC L e2 = e3 at rP hC
    obtain ⟨K, rfl⟩ : ∃ K : Nat, b2 = K := ⟨b2.toNat, by omega⟩
    rw [Int.toNat_natCast] at hC
    obtain ⟨rfl, rfl⟩ := hC
    have k0 : (0:Int) ≤ (K : Int) := by omega
    have k1 : (K : Int) < w.length := by rw [hf.1]; omega
    have k2 : K < w.length := by omega
    have q2 : (w.map sRow).getD K [] = [.str (w[K])] := by
      rw [List.getD_eq_getElem?_getD, List.getElem?_map, List.getElem?_eq_getElem k2]; rfl
    have q3 : (w.map sRow).set K [.str x] = (w.set K x).map sRow := by
      rw [List.map_set]; rfl
    have bs : List.take w.length ((w.set K x).map sRow) = (w.set K x).map sRow := List.take_of_length_le (by simp)
    have ls : w.length ≤ (w.set K x).length := by simp
    subst h0
    (refine vw_go rfl ?_; simp only [go_sem, setCells, setIn])
    (refine vw_cond (t := true) rfl (fun _ => ?_) (fun h => nomatch h))
    (refine vw_last rfl ?_; simp only [range1, List.replicate_succ, List.replicate_zero, List.flatten_cons, List.flatten_nil, List.range_zero, gt_iff_lt, go_sem, setCells, setIn])
    (refine ⟨_, _, call_pt [0, 0] 0 Try.func25 (rB2) rfl rfl rfl rfl rfl rfl rfl rfl (by simp [lendAll, lendC, seek, fresh, nav, rcells, RT.cells, VV.cells, tabE_cons, tabS_cons, St.put, ev, lit, take_map_len]) rfl rfl (by simp [rcells, RT.cells, CT.fine, T.fine]) (by exact ⟨.inr ⟨0, _, _, rfl, .head _, .head _⟩, trivial, trivial, trivial⟩) rfl rfl, ?_⟩)
    simp only [runH, runX, bw, range1, List.replicate_succ, List.replicate_zero, List.flatten_cons, List.flatten_nil, List.range_zero, gt_iff_lt, go_sem, setCells, setIn]
    (refine ⟨_, _, call_pt [0, 0] 0 Try.func32 (rP) rfl rfl rfl rfl rfl rfl rfl rfl (by simp [lendAll, lendC, seek, fresh, nav, rcells, RT.cells, VV.cells, tabE_cons, tabS_cons, St.put, ev, lit, take_map_len, sRow, pickL]) rfl rfl (by simp [rcells, RT.cells, CT.fine, T.fine, sRow, pickL]) (by exact ⟨.inr ⟨0, _, _, rfl, .head _, .head _⟩, trivial, trivial, trivial⟩) rfl rfl, ?_⟩)
    simp only [runH, runX, bw, k0, k1, k2, q2, q3, Int.toNat_natCast, go_sem, setCells, setIn]
    refine (n_block (n_then ?_))
    (refine vw_go rfl ?_; simp only [go_sem, setCells, setIn])
    exact vw_ret (e_ret (ret_b rfl rfl (by simp [RB]) rfl (by simp only [takeCs, takeC, bs, ls, List.drop_length, go_sem, setCells, setIn]; rfl) (by exact ⟨⟨by simp, _, rfl, rfl, rfl, rfl⟩, trivial⟩)))
  rw [if_neg h0] at hC
  (refine vw_go rfl ?_; simp only [h0, go_sem, setCells, setIn])
  (refine vw_cond (t := false) rfl (fun h => nomatch h) (fun _ => ?_))
  by_cases h1 : b = 1
  · rw [if_pos h1] at hC
    obtain ⟨rfl, rfl⟩ := hC
    subst h1
    (refine vw_go rfl ?_; simp only [go_sem, setCells, setIn])
    (refine vw_cond (t := true) rfl (fun _ => ?_) (fun h => nomatch h))
    have l1 : 1 ≤ w.length := by rw [hf.1]; decide
    (refine vw_last rfl ?_; simp only [l1, go_sem, setCells, setIn])
    refine (n_block (n_then ?_))
    (refine vw_go rfl ?_; simp only [go_sem, setCells, setIn])
    have l2 : 1 + (w.length - 1) ≤ w.length := by omega
    have bd : List.take (w.length - 1) (List.drop 1 (w.map sRow)) = (w.drop 1).map sRow := by rw [← List.map_drop]; exact List.take_of_length_le (by simp)
    exact vw_ret (e_ret (ret_b rfl rfl (by simp [RB]) rfl (by simp only [takeCs, takeC, bd, l2, List.drop_length, go_sem, setCells, setIn]; rfl) (by exact ⟨⟨by simp, _, rfl, rfl, rfl, rfl⟩, trivial⟩)))
  rw [if_neg h1] at hC
  (refine vw_go rfl ?_; simp only [h1, go_sem, setCells, setIn])
  (refine vw_cond (t := false) rfl (fun h => nomatch h) (fun _ => ?_))
  by_cases h2 : b = 2
  · rw [if_pos h2] at hC
    obtain ⟨rfl, rfl⟩ := hC
    subst h2
    (refine vw_go rfl ?_; simp only [go_sem, setCells, setIn])
    (refine vw_cond (t := true) rfl (fun _ => ?_) (fun h => nomatch h))
    have B1 : ¬ (w.length + 1 + 1) * (16 + 1) > bigRow := by rw [hf.1]; decide
    (refine vw_last rfl ?_; simp only [B1, range1, List.replicate_succ, List.replicate_zero, List.flatten_cons, List.flatten_nil, List.range_zero, gt_iff_lt, List.drop_length, bw, go_sem, setCells, setIn])
    refine (n_block (n_then ?_))
    (refine vw_go rfl ?_; simp only [go_sem, setCells, setIn])
    have l2 : w.length + 1 ≤ (w.map sRow ++ [[T.str (⟨#[]⟩ : ByteArray)]]).length := by simp
    have bd : List.take (w.length + 1) (w.map sRow ++ [[T.str (⟨#[]⟩ : ByteArray)]]) = (w ++ [(⟨#[]⟩ : ByteArray)]).map sRow := by rw [List.map_append]; exact List.take_of_length_le (by simp)
    exact vw_ret (e_ret (ret_b rfl rfl (by simp [RB]) rfl (by simp only [takeCs, takeC, bd, l2, List.drop_length, go_sem, setCells, setIn]; rfl) (by exact ⟨⟨by simp, _, rfl, rfl, rfl, rfl⟩, trivial⟩)))
  rw [if_neg h2] at hC
  obtain ⟨rfl, rfl⟩ := hC
  (refine vw_go rfl ?_; simp only [h2, go_sem, setCells, setIn])
  (refine vw_cond (t := false) rfl (fun h => nomatch h) (fun _ => ?_))
  refine vw_skip (n_block (n_then ?_))
  (refine vw_go rfl ?_; simp only [go_sem, setCells, setIn])
  exact vw_ret (e_ret (ret_b rfl rfl (by simp [RB]) rfl (by simp only [takeCs, takeC, bw, List.drop_length, go_sem, setCells, setIn]; rfl) (by exact ⟨⟨by simp, _, rfl, rfl, rfl, rfl⟩, trivial⟩)))
end Go.Proofs.Ythaobdlenbbhoaa
namespace Go.Proofs.Ythaobdlenbbhoaa
open Go.VM Go
set_option maxRecDepth 100000
set_option linter.unusedSimpArgs false
set_option linter.unusedVariables false
attribute [local congr] vw_congr runV_congr runH_congr runW_congr runX_congr
theorem runs_5 (L : List UInt8) (hL : L.length < 2 ^ 60) (l : List ByteArray) (hl : l = (drawV L (newC L)).1) :
    Runs Try.prog 5 [.one (.v (.list false 1 (L.map bRow)))] [.one (.v (.list true 1 (l.map sRow)))] [] := by
  refine runs_hold (fun v => ?_)
  refine runs_tab (tab := [(0, .c (.held v 1 (L.map bRow)))]) (rts := []) (n := 6) (k := 1) Try.func5 rfl rfl (by simp) rfl (fun t => ?_) rfl ?_
  · rcases t with _ | t <;> rfl
  have rN := runs_21 v L hL _ rfl
  generalize newC L = c at rN hl
  have rP := runs_20 v L hL c l (drawV L c).2 (by rw [hl])
  have bl : List.take l.length (l.map sRow) = l.map sRow := List.take_of_length_le (by simp)
  (refine vw_go rfl ?_; simp only [go_sem, setCells, setIn])
  (refine vw_go rfl ?_; simp only [go_sem, setCells, setIn])
  (refine ⟨_, _, call_fine [0] Try.func21 (rN) rfl rfl rfl rfl rfl rfl rfl (by simp [lendAll, lendC, seek, fresh, nav, rcells, RT.cells, VV.cells, tabE_cons, tabS_cons, ev, take_map_len]) rfl (by simp [rcells, RT.cells, CT.fine, fineR, T.fine, Known, VV.cells, ev, tabE_cons]) rfl rfl, ?_⟩)
  simp only [runH, runX, go_sem, setCells, setIn]
  (refine ⟨_, _, call_pt [0] 66561 Try.func20 (rP) rfl rfl rfl rfl rfl rfl rfl rfl (by simp [lendAll, lendC, seek, fresh, nav, rcells, RT.cells, VV.cells, tabE_cons, tabS_cons, St.put, ev, lit, take_map_len, sRow_r1, sRow_comp, sRow_clean, sRow_fine]) rfl rfl (by simp [rcells, RT.cells, CT.fine, T.fine, sRow_r1, sRow_comp, sRow_clean, sRow_fine]) (by exact ⟨.inr ⟨66561, _, _, rfl, .head _, .head _⟩, trivial, trivial, trivial⟩) rfl rfl, ?_⟩)
  simp only [runH, runX, go_sem, setCells, setIn]
  exact vw_ret (e_ret (ret_by rfl rfl (by simp [RB]) rfl (by simp only [takeCs, takeC, go_sem, setCells, setIn])))
theorem runs_7 (L : List UInt8) (hL : L.length < 2 ^ 60) (l : List ByteArray) (hl : l = (drawV L (newC L)).1) :
    Runs Try.prog 7 [.one (.v (.list false 1 (L.map bRow)))] [.one (.v (.list true 1 (l.map sRow)))] [] := by
  refine runs_hold (fun v => ?_)
  refine runs_tab (tab := [(0, .c (.held v 1 (L.map bRow)))]) (rts := []) (n := 6) (k := 1) Try.func7 rfl rfl (by simp) rfl (fun t => ?_) rfl ?_
  · rcases t with _ | t <;> rfl
  have rN := runs_21 v L hL _ rfl
  generalize newC L = c at rN hl
  have rP := runs_20 v L hL c l (drawV L c).2 (by rw [hl])
  have bl : List.take l.length (l.map sRow) = l.map sRow := List.take_of_length_le (by simp)
  (refine vw_go rfl ?_; simp only [go_sem, setCells, setIn])
  (refine vw_go rfl ?_; simp only [go_sem, setCells, setIn])
  (refine ⟨_, _, call_fine [0] Try.func21 (rN) rfl rfl rfl rfl rfl rfl rfl (by simp [lendAll, lendC, seek, fresh, nav, rcells, RT.cells, VV.cells, tabE_cons, tabS_cons, ev, take_map_len]) rfl (by simp [rcells, RT.cells, CT.fine, fineR, T.fine, Known, VV.cells, ev, tabE_cons]) rfl rfl, ?_⟩)
  simp only [runH, runX, go_sem, setCells, setIn]
  (refine ⟨_, _, call_pt [0] 66561 Try.func20 (rP) rfl rfl rfl rfl rfl rfl rfl rfl (by simp [lendAll, lendC, seek, fresh, nav, rcells, RT.cells, VV.cells, tabE_cons, tabS_cons, St.put, ev, lit, take_map_len, sRow_r1, sRow_comp, sRow_clean, sRow_fine]) rfl rfl (by simp [rcells, RT.cells, CT.fine, T.fine, sRow_r1, sRow_comp, sRow_clean, sRow_fine]) (by exact ⟨.inr ⟨66561, _, _, rfl, .head _, .head _⟩, trivial, trivial, trivial⟩) rfl rfl, ?_⟩)
  simp only [runH, runX, go_sem, setCells, setIn]
  exact vw_ret (e_ret (ret_by rfl rfl (by simp [RB]) rfl (by simp only [takeCs, takeC, go_sem, setCells, setIn])))
theorem runs_8 (L : List UInt8) (hL : L.length < 2 ^ 60) (l : List ByteArray) (hl : l = (drawV L (newC L)).1) :
    Runs Try.prog 8 [.one (.v (.list false 1 (L.map bRow)))] [.one (.v (.list true 1 (l.map sRow)))] [] := by
  refine runs_hold (fun v => ?_)
  refine runs_tab (tab := [(0, .c (.held v 1 (L.map bRow)))]) (rts := []) (n := 6) (k := 1) Try.func8 rfl rfl (by simp) rfl (fun t => ?_) rfl ?_
  · rcases t with _ | t <;> rfl
  have rN := runs_21 v L hL _ rfl
  generalize newC L = c at rN hl
  have rP := runs_20 v L hL c l (drawV L c).2 (by rw [hl])
  have bl : List.take l.length (l.map sRow) = l.map sRow := List.take_of_length_le (by simp)
  (refine vw_go rfl ?_; simp only [go_sem, setCells, setIn])
  (refine vw_go rfl ?_; simp only [go_sem, setCells, setIn])
  (refine ⟨_, _, call_fine [0] Try.func21 (rN) rfl rfl rfl rfl rfl rfl rfl (by simp [lendAll, lendC, seek, fresh, nav, rcells, RT.cells, VV.cells, tabE_cons, tabS_cons, ev, take_map_len]) rfl (by simp [rcells, RT.cells, CT.fine, fineR, T.fine, Known, VV.cells, ev, tabE_cons]) rfl rfl, ?_⟩)
  simp only [runH, runX, go_sem, setCells, setIn]
  (refine ⟨_, _, call_pt [0] 66561 Try.func20 (rP) rfl rfl rfl rfl rfl rfl rfl rfl (by simp [lendAll, lendC, seek, fresh, nav, rcells, RT.cells, VV.cells, tabE_cons, tabS_cons, St.put, ev, lit, take_map_len, sRow_r1, sRow_comp, sRow_clean, sRow_fine]) rfl rfl (by simp [rcells, RT.cells, CT.fine, T.fine, sRow_r1, sRow_comp, sRow_clean, sRow_fine]) (by exact ⟨.inr ⟨66561, _, _, rfl, .head _, .head _⟩, trivial, trivial, trivial⟩) rfl rfl, ?_⟩)
  simp only [runH, runX, go_sem, setCells, setIn]
  exact vw_ret (e_ret (ret_by rfl rfl (by simp [RB]) rfl (by simp only [takeCs, takeC, go_sem, setCells, setIn])))
theorem runs_14 (L : List UInt8) (hL : L.length < 2 ^ 60) (l : List ByteArray) (hl : l = (drawV L (newC L)).1) (k : Int) (hk : k = belV L (drawV L (newC L)).2 14 - 1) :
    Runs Try.prog 14 [.one (.v (.list false 1 (L.map bRow)))] [.one (.v (.list true 1 (l.map sRow))), .one (.v (.int .i64 k))] [] := by
  refine runs_hold (fun v => ?_)
  refine runs_tab (tab := [(0, .c (.held v 1 (L.map bRow)))]) (rts := []) (n := 14) (k := 1) Try.func14 rfl rfl (by simp) rfl (fun t => ?_) rfl ?_
  · rcases t with _ | t <;> rfl
  have rN := runs_21 v L hL _ rfl
  generalize newC L = c at rN hl hk
  have rP := runs_20 v L hL c l (drawV L c).2 (by rw [hl])
  generalize (drawV L c).2 = d at rP hk
  have rB := runs_25 v L hL d 14 (by decide) (by decide)
  have hb := belV_in L d (n := 14) (by decide)
  generalize belV L d 14 = b at rB hk hb
  have w1 : IntKind.wrap .i64 (b - 1) = k := by rw [wrap_i64 (by omega) (by omega), hk]
  have bl : List.take l.length (l.map sRow) = l.map sRow := List.take_of_length_le (by simp)
  (refine vw_go rfl ?_; simp only [go_sem, setCells, setIn])
  (refine vw_go rfl ?_; simp only [go_sem, setCells, setIn])
  (refine ⟨_, _, call_fine [0] Try.func21 (rN) rfl rfl rfl rfl rfl rfl rfl (by simp [lendAll, lendC, seek, fresh, nav, rcells, RT.cells, VV.cells, tabE_cons, tabS_cons, ev, take_map_len]) rfl (by simp [rcells, RT.cells, CT.fine, fineR, T.fine, Known, VV.cells, ev, tabE_cons]) rfl rfl, ?_⟩)
  simp only [runH, runX, go_sem, setCells, setIn]
  (refine vw_go rfl ?_; simp only [go_sem, setCells, setIn])
  (refine ⟨_, _, call_pt [0] 66561 Try.func20 (rP) rfl rfl rfl rfl rfl rfl rfl rfl (by simp [lendAll, lendC, seek, fresh, nav, rcells, RT.cells, VV.cells, tabE_cons, tabS_cons, St.put, ev, lit, take_map_len, sRow_r1, sRow_comp, sRow_clean, sRow_fine]) rfl rfl (by simp [rcells, RT.cells, CT.fine, T.fine, sRow_r1, sRow_comp, sRow_clean, sRow_fine]) (by exact ⟨.inr ⟨66561, _, _, rfl, .head _, .head _⟩, trivial, trivial, trivial⟩) rfl rfl, ?_⟩)
  simp only [runH, runX, go_sem, setCells, setIn]
  (refine vw_go rfl ?_; simp only [go_sem, setCells, setIn])
  (refine ⟨_, _, call_pt [0, 0] 66561 Try.func25 (rB) rfl rfl rfl rfl rfl rfl rfl rfl (by simp [lendAll, lendC, seek, fresh, nav, rcells, RT.cells, VV.cells, tabE_cons, tabS_cons, St.put, ev, lit, take_map_len]) rfl rfl (by simp [rcells, RT.cells, CT.fine, T.fine]) (by exact ⟨.inr ⟨66561, _, _, rfl, .head _, .head _⟩, trivial, trivial, trivial⟩) rfl rfl, ?_⟩)
  simp only [runH, runX, w1, go_sem, setCells, setIn]
  exact vw_ret (e_ret (ret_by rfl rfl (by simp [RB]) rfl (by simp only [takeCs, takeC, go_sem, setCells, setIn])))
end Go.Proofs.Ythaobdlenbbhoaa
