/- Volumes: VolumeOk of both. -/
import Derived.Test.YtppbonbghmdhhaaGreatPFGoes
namespace Go.Proofs.YtppbonbghmdhhaaGreat
open Go.VM Go
set_option maxRecDepth 100000
set_option linter.unusedSimpArgs false
set_option linter.unusedVariables false
attribute [local congr] vw_congr runV_congr runH_congr runW_congr runX_congr

def met0 : List Bool := List.replicate 12 false
@[simp] theorem met0_len : met0.length = 12 := rfl
def volOk (l : List ByteArray) : Bool := decide (l.length = 12) && ((goI l 5 0 met0).1 && (List.range 12).all (fun k => decide (l.getD k ⟨#[]⟩ = ⟨#[]⟩) || (goI l 5 0 met0).2.getD k false))
theorem volOk_no {l : List ByteArray} (h : ¬ l.length = 12) : volOk l = false := by unfold volOk; rw [decide_eq_false h]; rfl
theorem volOk_go {l : List ByteArray} (h : (goI l 5 0 met0).1 = false) : volOk l = false := by unfold volOk; rw [h, Bool.false_and, Bool.and_false]
theorem volOk_bad {l : List ByteArray} {k : Nat} (hk : k < 12) (h : (decide (l.getD k ⟨#[]⟩ = ⟨#[]⟩) || (goI l 5 0 met0).2.getD k false) = false) : volOk l = false := by
  have : (List.range 12).all (fun k => decide (l.getD k ⟨#[]⟩ = ⟨#[]⟩) || (goI l 5 0 met0).2.getD k false) = false := by
    rw [List.all_eq_false]
    exact ⟨k, List.mem_range.2 hk, by rw [h]; decide⟩
  unfold volOk
  rw [this, Bool.and_false, Bool.and_false]
theorem volOk_yes {l : List ByteArray} (hl : l.length = 12) (hg : (goI l 5 0 met0).1 = true) (h : ∀ k, k < 12 → (decide (l.getD k ⟨#[]⟩ = ⟨#[]⟩) || (goI l 5 0 met0).2.getD k false) = true) : volOk l = true := by
  unfold volOk
  rw [decide_eq_true hl, hg, Bool.true_and, Bool.true_and, List.all_eq_true]
  exact fun k hk => h k (List.mem_range.1 hk)

theorem runs_99 (l : List ByteArray) (hl63 : l.length < 2 ^ 60) (hsz : ∀ s ∈ l, s.size ≤ 2 ^ 20) :
    Runs Tryz.prog 99 [.one (.v (.list false 1 (l.map sRow)))] [.one (.v (.bool (volOk l)))] [] := by
  refine runs_hold (fun v => ?_)
  refine runs_tab (tab := [(0, .c (.held v 1 (l.map sRow)))]) (rts := []) (n := 36) (k := 1) Tryz.func99 rfl rfl (by simp) rfl (fun t => ?_) rfl ?_
  · rcases t with _ | t <;> rfl
  (refine vw_go rfl ?_; simp only [go_sem, setCells, setIn])
  refine vw_seq ?_
  by_cases hl : l.length = 12
  case neg =>
    have hi : ¬ (l.length : Int) = 12 := by omega
    rw [volOk_no hl]
    (refine vw_go rfl ?_; simp only [hi, go_sem, setCells, setIn])
    (refine vw_cond (t := true) rfl (fun _ => ?_) (fun h => nomatch h))
    (refine vw_go rfl ?_; simp only [go_sem, setCells, setIn])
    exact vw_ret (r_then (e_ret (ret_of rfl rfl (by simp [RB]) rfl rfl)))
  have hi : (l.length : Int) = 12 := by omega
  (refine vw_go rfl ?_; simp only [hi, go_sem, setCells, setIn])
  (refine vw_cond (t := false) rfl (fun h => nomatch h) (fun _ => ?_))
  refine vw_skip (n_then ?_)
  have rF := runs_151 v l hl hsz 5 0 met0 0 rfl (by decide) rfl
  have hml := goI_len l 5 0 met0 rfl
  have hno : (goI l 5 0 met0).1 = false → volOk l = false := volOk_go
  have hbad : ∀ k, k < 12 → (decide (l.getD k ⟨#[]⟩ = ⟨#[]⟩) || (goI l 5 0 met0).2.getD k false) = false → volOk l = false := fun k hk h => volOk_bad hk h
  have hyes := fun h1 h2 => volOk_yes (l := l) hl h1 h2
  generalize goI l 5 0 met0 = r at rF hml hno hbad hyes
  obtain ⟨ok, m⟩ := r
  simp only at rF hml hno hbad hyes
  have hm0 : List.replicate 12 [T.bool false] = met0.map tRow := rfl
  have g2 : (12 : Int) * (((1 : Nat) : Int) + 1) ≤ (bigRow : Int) := by simp only [bigRow]; omega
  have hm1 : List.take 12 (met0.map tRow) = met0.map tRow := rfl
  (refine vw_go rfl ?_; simp only [g2, hm0, hm1, go_sem, setCells, setIn])
  refine vw_seq ?_
  (refine vw_go rfl ?_; simp only [go_sem, setCells, setIn])
  (refine ⟨_, _, call_pt [0, 0, 0] 134145 Tryz.func151 (rF) rfl rfl rfl rfl rfl rfl rfl rfl (by simp [lendAll, lendC, seek, fresh, nav, rcells, RT.cells, VV.cells, tabE_cons, tabS_cons, St.put, ev, lit, take_map_len]) rfl rfl (by simp [rcells, RT.cells, CT.fine, T.fine]) (by exact ⟨.inr ⟨134145, _, _, rfl, .head _, .head _⟩, tRow_fine _ _, trivial⟩) rfl rfl, ?_⟩)
  simp only [runH, runX, go_sem, setCells, setIn]
  cases ok
  case false =>
    rw [hno rfl]
    (refine vw_cond (t := true) rfl (fun _ => ?_) (fun h => nomatch h))
    (refine vw_go rfl ?_; simp only [go_sem, setCells, setIn])
    exact vw_ret (r_then (e_ret (ret_of rfl rfl (by simp [RB]) rfl rfl)))
  (refine vw_cond (t := false) rfl (fun h => nomatch h) (fun _ => ?_))
  refine vw_skip (n_then ?_)
  refine vw_seq ?_
  (refine vw_go rfl ?_; simp only [hi, go_sem, setCells, setIn])
  refine vw_block ?_
  refine vw_loop_tab (α := Nat) (fun x => 12 - x) (fun x => ⟨tabE [(3, .ptr 1 [] 0 0 0), (16, .c (.held v 1 (l.map sRow))), (17, .c (.int .i64 12)), (18, .c (.int .i64 x))],
      tabS [(1, some ⟨true, 2, [[.held v 1 (l.map sRow), .list true 1 (m.map tRow)]], [[]]⟩)], 2⟩)
    (fun x => x ≤ 12 ∧ ∀ k, k < x → (decide (l.getD k ⟨#[]⟩ = ⟨#[]⟩) || m.getD k false) = true) (x := 0) ?round ?h0 ?hn
  case h0 => exact ⟨Nat.zero_le _, fun k hk => absurd hk (by omega)⟩
  case hn =>
    (refine norm_to [(134145, 1)] rfl ?_ ?_ <;> simp only [go_sem])
  rintro i ⟨hi12, hall⟩
  by_cases hc : (i : Int) < 12
  case neg =>
    obtain rfl : i = 12 := by omega
    rw [hyes rfl hall]
    (refine vw_go rfl ?_; simp only [hc, go_sem, setCells, setIn])
    refine vw_seq ?_
    (refine vw_cond (t := false) rfl (fun h => nomatch h) (fun _ => ?_))
    refine vw_exit (x_then (x_then (x_block (n_then ?_))))
    (refine vw_go rfl ?_; simp only [go_sem, setCells, setIn])
    exact vw_ret (e_ret (ret_of rfl rfl (by simp [RB]) rfl rfl))
  have hin : i < 12 := by omega
  obtain ⟨s, hs⟩ : ∃ s, l[i]? = some s := ⟨_, List.getElem?_eq_getElem (by omega)⟩
  obtain ⟨b, hb⟩ : ∃ b, m[i]? = some b := ⟨_, List.getElem?_eq_getElem (by omega)⟩
  have c0 : (0:Int) ≤ (i : Int) := by omega
  have c1 : (i : Int) < (l.length : Int) := by omega
  have c2 : (i : Int) < (m.length : Int) := by omega
  have c3 : i < m.length := by omega
  have w3 : IntKind.wrap .i64 ((i:Int) + 1) = ((i + 1 : Nat) : Int) := by rw [wrap_i64 (by omega) (by omega)]; rfl
  have bm : List.take m.length (m.map tRow) = m.map tRow := List.take_of_length_le (by simp)
  have hst : ∀ k, k < i + 1 → (decide (s = ⟨#[]⟩) || b) = true → (decide (l.getD k ⟨#[]⟩ = ⟨#[]⟩) || m.getD k false) = true := by
    intro k hk h
    by_cases e : k = i
    · rw [e, getD_of hs, getD_of hb]; exact h
    · exact hall k (by omega)
  have hbd := hbad i hin
  rw [getD_of hs, getD_of hb] at hbd
  (refine vw_go rfl ?_; simp only [hc, go_sem, setCells, setIn])
  refine vw_seq ?_
  (refine vw_cond (t := true) rfl (fun _ => ?_) (fun h => nomatch h))
  refine vw_skip (n_then ?_)
  refine vw_seq ?_
  refine vw_block ?_
  (refine vw_go rfl ?_; simp only [c0, c1, Int.toNat_natCast, getD_map_of hs, sRow, go_sem, setCells, setIn])
  by_cases hse : s = ⟨#[]⟩
  · (refine vw_go rfl ?_; simp only [hse, go_sem, setCells, setIn])
    (refine vw_cond (t := false) rfl (fun h => nomatch h) (fun _ => ?_))
    refine vw_skip (n_block (n_then ?_))
    (refine vw_last rfl ?_; simp only [w3, go_sem, setCells, setIn])
    refine (n_then ?_)
    refine ⟨i + 1, by omega, ⟨by omega, fun k hk => hst k hk (by rw [hse]; rfl)⟩, ?_⟩
    (refine norm_to [(1, 1)] rfl ?_ ?_ <;> simp only [go_sem])
  cases b
  · rw [hbd (by rw [decide_eq_false hse]; rfl)]
    (refine vw_go rfl ?_; simp only [hse, c0, c2, c3, Int.toNat_natCast, getD_map_of hb, tRow, bm, go_sem, setCells, setIn])
    (refine vw_cond (t := true) rfl (fun _ => ?_) (fun h => nomatch h))
    (refine vw_go rfl ?_; simp only [go_sem, setCells, setIn])
    exact vw_ret (r_block (r_then (r_then (r_block (r_then (e_ret (ret_of rfl rfl (by simp [RB]) rfl rfl)))))))
  · (refine vw_go rfl ?_; simp only [hse, c0, c2, c3, Int.toNat_natCast, getD_map_of hb, tRow, bm, go_sem, setCells, setIn])
    (refine vw_cond (t := false) rfl (fun h => nomatch h) (fun _ => ?_))
    refine vw_skip (n_block (n_then ?_))
    (refine vw_last rfl ?_; simp only [w3, go_sem, setCells, setIn])
    refine (n_then ?_)
    refine ⟨i + 1, by omega, ⟨by omega, fun k hk => hst k hk (by rw [Bool.or_true])⟩, ?_⟩
    (refine norm_to [(1, 1)] rfl ?_ ?_ <;> simp only [go_sem])

structure RootFit (n : NodeV) (ok r : Bool) : Prop where
  ok : ok = true
  dir : n.dir = true
  go : r = true
set_option maxHeartbeats 1000000 in
theorem runs_92 (l : List ByteArray) (hl63 : l.length < 2 ^ 60) (hsz : ∀ s ∈ l, s.size ≤ 2 ^ 20) :
    Runs Tryz.prog 92 [.one (.v (.list false 1 (l.map sRow)))] [.one (.v (.bool (volOk l)))] [] := by
  refine runs_tab (tab := [(0, .c (.list false 1 (l.map sRow)))]) (rts := []) (n := 47) (k := 1) Tryz.func92 rfl rfl (by simp) rfl (fun t => ?_) rfl ?_
  · rcases t with _ | t <;> rfl
  (refine vw_go rfl ?_; simp only [go_sem, setCells, setIn])
  refine vw_seq ?_
  by_cases hl : l.length = 12
  case neg =>
    have hi : ¬ (l.length : Int) = 12 := by omega
    rw [volOk_no hl]
    (refine vw_go rfl ?_; simp only [hi, go_sem, setCells, setIn])
    (refine vw_cond (t := true) rfl (fun _ => ?_) (fun h => nomatch h))
    (refine vw_go rfl ?_; simp only [go_sem, setCells, setIn])
    exact vw_ret (r_then (e_ret (ret_of rfl rfl (by simp [RB]) rfl rfl)))
  have hi : (l.length : Int) = 12 := by omega
  (refine vw_go rfl ?_; simp only [hi, go_sem, setCells, setIn])
  (refine vw_cond (t := false) rfl (fun h => nomatch h) (fun _ => ?_))
  refine vw_skip (n_then ?_)
  obtain ⟨s, hs⟩ : ∃ s, l[0]? = some s := ⟨_, List.getElem?_eq_getElem (by omega)⟩
  have rR := runs_146 s (hsz s (List.mem_of_getElem? hs)) _ rfl
  have rG := runs_147 l hl hsz 5 0 met0 0 rfl (by decide) rfl
  have hml := goI_len l 5 0 met0 rfl
  have hml2 := goS_len l 5 0 met0 rfl
  have hzero : ((nodeRead s).2 = false ∨ (nodeRead s).1.dir = false) → (goI l 5 0 met0).1 = false := by
    intro h
    rw [goI, getD_of hs, if_neg]
    rintro ⟨h1, _, h2⟩
    rcases h with h | h
    · rw [h1] at h; cases h
    · exact h2 ⟨rfl, h⟩
  have hsame : (nodeRead s).1.dir = true → (goI l 5 0 met0).1 = (goS l 5 0 met0).1 ∧ ((goI l 5 0 met0).1 = true → (goI l 5 0 met0).2 = (goS l 5 0 met0).2) := by
    intro h
    refine go_same l 5 0 met0 ?_
    rw [getD_of hs]
    rintro ⟨_, h2⟩
    rw [h] at h2; cases h2
  have hno : (goI l 5 0 met0).1 = false → volOk l = false := volOk_go
  have hbad : ∀ k, k < 12 → (decide (l.getD k ⟨#[]⟩ = ⟨#[]⟩) || (goI l 5 0 met0).2.getD k false) = false → volOk l = false := fun k hk h => volOk_bad hk h
  have hyes := fun h1 h2 => volOk_yes (l := l) hl h1 h2
  generalize goI l 5 0 met0 = r at hml hzero hsame hno hbad hyes
  generalize goS l 5 0 met0 = r2 at hml2 rG hsame
  generalize nodeRead s = nr at rR hzero hsame
  obtain ⟨n, ok⟩ := nr
  obtain ⟨r, m⟩ := r
  obtain ⟨q, m2⟩ := r2
  simp only at rR rG hml hml2 hzero hsame hno hbad hyes
  have hm0 : List.replicate 12 [T.bool false] = met0.map tRow := rfl
  have g2 : (12 : Int) * (((1 : Nat) : Int) + 1) ≤ (bigRow : Int) := by simp only [bigRow]; omega
  have g3 : (0:Int) < 12 := by decide
  have g4 : 0 < l.length := by omega
  have hm1 : List.take 12 (met0.map tRow) = met0.map tRow := rfl
  have bn : List.take n.names.length (n.names.map sRow) = n.names.map sRow := List.take_of_length_le (by simp)
  have bk : List.take n.kids.length (n.kids.map nRow) = n.kids.map nRow := List.take_of_length_le (by simp)
  (refine vw_go rfl ?_; simp only [hi, g3, g4, Int.reduceToNat, getD_map_of hs, sRow, go_sem, setCells, setIn])
  (refine ⟨_, _, call_rx [0] Tryz.func146 (rR) rfl rfl rfl rfl rfl rfl rfl (by simp [lendAll, lendC, seek, fresh, nav, rcells, RT.cells, VV.cells, tabE_cons, tabS_cons, ev, take_map_len, sRow_r1, sRow_comp, sRow_clean, nRow_r1, nRow_comp, nRow_clean, tRow_r1, tRow_clean]) rfl (by simp [rcells, RT.cells, CT.clean, T.clean, sRow_r1, sRow_comp, sRow_clean, nRow_r1, nRow_comp, nRow_clean, tRow_r1, tRow_clean]) rfl rfl, ?_⟩)
  simp only [runH, runX, bn, bk, go_sem, setCells, setIn]
  (refine vw_go rfl ?_; simp only [g2, hm0, go_sem, setCells, setIn])
  refine vw_join (α := Unit) (fun _ => ⟨tabE [(0, .c (.list false 1 (l.map sRow))), (5, .al 1 [] 0 1 0 12)], tabS [(1, some ⟨false, 1, m2.map tRow, [[]]⟩)], 2⟩) (fun _ => RootFit n ok q) ?_ ?_
  · cases ok
    case false =>
      rw [hno (hzero (.inl rfl))]
      (refine vw_go rfl ?_; simp only [go_sem, setCells, setIn])
      (refine vw_cond (t := true) rfl (fun _ => ?_) (fun h => nomatch h))
      (refine vw_go rfl ?_; simp only [go_sem, setCells, setIn])
      exact vw_ret (r_then (e_ret (ret_of rfl rfl (by simp [RB]) rfl rfl)))
    cases hd : n.dir
    · rw [hno (hzero (.inr hd))]
      (refine vw_go rfl ?_; simp only [hd, go_sem, setCells, setIn])
      (refine vw_cond (t := true) rfl (fun _ => ?_) (fun h => nomatch h))
      (refine vw_go rfl ?_; simp only [go_sem, setCells, setIn])
      exact vw_ret (r_then (e_ret (ret_of rfl rfl (by simp [RB]) rfl rfl)))
    (refine vw_go rfl ?_; simp only [hd, go_sem, setCells, setIn])
    (refine ⟨_, _, call_b1 [0, 0, 0, 0] 196609 Tryz.func147 (rG) rfl rfl rfl rfl rfl rfl rfl rfl rfl (by simp) (by simp [lendAll, lendC, seek, fresh, nav, rcells, RT.cells, VV.cells, tabE_cons, tabS_cons, St.put, ev, lit, take_map_len, sRow_r1, hm1]) rfl rfl (by simp [rcells, RT.cells, CT.fine, T.fine, sRow_r1, hm1]) (by exact tRow_fine _ _) rfl rfl, ?_⟩)
    simp only [runH, runX, go_sem, setCells, setIn]
    cases q
    case false =>
      rw [hno ((hsame hd).1)]
      (refine vw_cond (t := true) rfl (fun _ => ?_) (fun h => nomatch h))
      (refine vw_go rfl ?_; simp only [go_sem, setCells, setIn])
      exact vw_ret (r_then (e_ret (ret_of rfl rfl (by simp [RB]) rfl rfl)))
    (refine vw_cond (t := false) rfl (fun h => nomatch h) (fun _ => ?_))
    refine vw_skip (n_then ⟨(), ⟨rfl, hd, rfl⟩, ?_⟩)
    (refine norm_to [(196609, 1)] rfl ?_ ?_ <;> simp only [go_sem])
  rintro _ ⟨rfl, hd, rfl⟩
  have hr := (hsame hd).1
  have hmm := (hsame hd).2 hr
  rw [hmm] at hbad hyes
  refine vw_seq ?_
  (refine vw_go rfl ?_; simp only [go_sem, setCells, setIn])
  refine vw_block ?_
  refine vw_loop_tab (α := Nat) (fun x => 12 - x) (fun x => ⟨tabE [(0, .c (.list false 1 (l.map sRow))), (5, .al 1 [] 0 1 0 12), (6, .c (.int .i64 x))],
      tabS [(1, some ⟨false, 1, m2.map tRow, [[]]⟩)], 2⟩)
    (fun x => x ≤ 12 ∧ ∀ k, k < x → (decide (l.getD k ⟨#[]⟩ = ⟨#[]⟩) || m2.getD k false) = true) (x := 0) ?round ?h0 ?hn
  case h0 => exact ⟨Nat.zero_le _, fun k hk => absurd hk (by omega)⟩
  case hn =>
    (refine norm_to [(1, 1)] rfl ?_ ?_ <;> simp only [go_sem])
  rintro i ⟨hi12, hall⟩
  refine vw_seq ?_
  by_cases hc : (i : Int) < 12
  case neg =>
    obtain rfl : i = 12 := by omega
    rw [hyes hr hall]
    (refine vw_go rfl ?_; simp only [hc, go_sem, setCells, setIn])
    (refine vw_cond (t := false) rfl (fun h => nomatch h) (fun _ => ?_))
    refine vw_exit (x_then (x_then (x_block (n_then ?_))))
    (refine vw_go rfl ?_; simp only [go_sem, setCells, setIn])
    exact vw_ret (e_ret (ret_of rfl rfl (by simp [RB]) rfl rfl))
  have hin : i < 12 := by omega
  obtain ⟨t, ht⟩ : ∃ s, l[i]? = some s := ⟨_, List.getElem?_eq_getElem (by omega)⟩
  obtain ⟨b, hb⟩ : ∃ b, m2[i]? = some b := ⟨_, List.getElem?_eq_getElem (by omega)⟩
  have c0 : (0:Int) ≤ (i : Int) := by omega
  have c1 : (i : Int) < (l.length : Int) := by omega
  have c3 : i < m2.length := by omega
  have c4 : i < l.length := by omega
  have hc2 : (i : Int) < ((12 : Nat) : Int) := by omega
  have w3 : IntKind.wrap .i64 ((i:Int) + 1) = ((i + 1 : Nat) : Int) := by rw [wrap_i64 (by omega) (by omega)]; rfl
  have hst : ∀ k, k < i + 1 → (decide (t = ⟨#[]⟩) || b) = true → (decide (l.getD k ⟨#[]⟩ = ⟨#[]⟩) || m2.getD k false) = true := by
    intro k hk h
    by_cases e : k = i
    · rw [e, getD_of ht, getD_of hb]; exact h
    · exact hall k (by omega)
  have hbd := hbad i hin
  rw [getD_of ht, getD_of hb] at hbd
  (refine vw_go rfl ?_; simp only [hc, go_sem, setCells, setIn])
  (refine vw_cond (t := true) rfl (fun _ => ?_) (fun h => nomatch h))
  refine vw_skip (n_then ?_)
  refine vw_seq ?_
  refine vw_block ?_
  cases b
  · by_cases hse : t = ⟨#[]⟩
    · (refine vw_go rfl ?_; simp only [c0, hc, hc2, c3, Int.toNat_natCast, getD_map_of hb, tRow, c1, c4, getD_map_of ht, sRow, hse, go_sem, setCells, setIn])
      (refine vw_cond (t := false) rfl (fun h => nomatch h) (fun _ => ?_))
      refine vw_skip (n_block (n_then ?_))
      (refine vw_last rfl ?_; simp only [w3, go_sem, setCells, setIn])
      refine (n_then ?_)
      refine ⟨i + 1, by omega, ⟨by omega, fun k hk => hst k hk (by rw [hse]; rfl)⟩, ?_⟩
      (refine norm_to [(1, 1)] rfl ?_ ?_ <;> simp only [go_sem])
    · rw [hbd (by rw [decide_eq_false hse]; rfl)]
      (refine vw_go rfl ?_; simp only [c0, hc, hc2, c3, Int.toNat_natCast, getD_map_of hb, tRow, c1, c4, getD_map_of ht, sRow, hse, go_sem, setCells, setIn])
      (refine vw_cond (t := true) rfl (fun _ => ?_) (fun h => nomatch h))
      (refine vw_go rfl ?_; simp only [go_sem, setCells, setIn])
      exact vw_ret (r_block (r_then (r_then (r_block (r_then (e_ret (ret_of rfl rfl (by simp [RB]) rfl rfl)))))))
  · (refine vw_go rfl ?_; simp only [c0, hc, hc2, c3, Int.toNat_natCast, getD_map_of hb, tRow, go_sem, setCells, setIn])
    (refine vw_cond (t := false) rfl (fun h => nomatch h) (fun _ => ?_))
    refine vw_skip (n_block (n_then ?_))
    (refine vw_last rfl ?_; simp only [w3, go_sem, setCells, setIn])
    refine (n_then ?_)
    refine ⟨i + 1, by omega, ⟨by omega, fun k hk => hst k hk (by rw [Bool.or_true])⟩, ?_⟩
    (refine norm_to [(1, 1)] rfl ?_ ?_ <;> simp only [go_sem])
end Go.Proofs.YtppbonbghmdhhaaGreat
