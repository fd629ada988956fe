/- The law FnPaths. -/
import Derived.Test.YtdikikcingempaaDoorPFPathP
namespace Go.Proofs.YtdikikcingempaaDoor
open Go.VM Go
set_option maxRecDepth 100000
set_option linter.unusedSimpArgs false
set_option linter.unusedVariables false
attribute [local congr] vw_congr runV_congr runH_congr runW_congr runX_congr

theorem typed_bytes {k : Nat} {ts : List T} (h : typed Tryd.prog (k + 4) 22 ts) : ∃ l : List UInt8, ts = [.list false 1 (l.map bRow)] ∧ l.length < 2 ^ 63 := by
  simp only [typed, Tryd.underlying22, Tryd.underlying5, cellsOf_5] at h
  obtain ⟨rows, rfl, hlen, hrows⟩ := h
  obtain ⟨l, rfl, hl⟩ := map_of (f := bRow) (Q := fun _ => True) (rows := rows) (fun r hr => by
    obtain ⟨i, rfl, hs⟩ := hrows r hr
    simp only [Lit.wf, Bool.and_eq_true, decide_eq_true_eq] at hs
    have h0 : IntKind.min .u8 = 0 := by decide
    have h1 : IntKind.max .u8 = 255 := by decide
    rw [h0, h1] at hs
    refine ⟨UInt8.ofNat i.toNat, ?_, trivial⟩
    have e : ((UInt8.ofNat i.toNat).toNat : Int) = i := by
      rw [UInt8.toNat_ofNat']; omega
    simp only [bRow, e])
  exact ⟨l, rfl, by simpa using hlen⟩

theorem runs_4 (L : List UInt8) (hL : L.length < 2 ^ 63) : Runs Tryd.prog 4 [.one (.v (.list false 1 (L.map bRow)))] [.one (.v (.bool (decide (1048576 < (L.length : Int)))))] [] := by
  refine runs_tab (tab := [(0, .c (.list false 1 (L.map bRow)))]) (rts := []) (n := 6) (k := 1) Tryd.func4 rfl rfl (by simp) rfl (fun t => ?_) rfl ?_
  · rcases t with _ | t <;> rfl
  (refine vw_go rfl ?_; simp only [go_sem, setCells, setIn])
  (refine vw_go rfl ?_; simp only [go_sem, setCells, setIn])
  exact vw_ret (e_ret (ret_of rfl rfl (by simp [RB]) rfl rfl))

theorem runs_sameT (l : List ByteArray) (hl : l.length < 2 ^ 60) : Runs Tryd.prog 8 [.one (.v (.list false 1 (l.map sRow))), .one (.v (.list false 1 (l.map sRow)))] [.one (.v (.bool true))] [] := by
  refine runs_tab (tab := [(0, .c (.list false 1 (l.map sRow))), (1, .c (.list false 1 (l.map sRow)))]) (rts := []) (n := 26) (k := 2) Tryd.func8 rfl rfl (by simp) rfl (fun t => ?_) rfl ?_
  · rcases t with _ | _ | t <;> rfl
  (refine vw_go rfl ?_; simp only [go_sem, setCells, setIn])
  refine vw_seq ?_
  (refine vw_go rfl ?_; simp only [go_sem, setCells, setIn])
  (refine vw_cond (t := false) rfl (fun h => nomatch h) (fun _ => ?_))
  refine vw_skip (n_then ?_)
  refine vw_seq ?_
  (refine vw_go rfl ?_; simp only [go_sem, setCells, setIn])
  refine vw_block ?_
  refine vw_loop_tab (α := Nat) (fun x => l.length - x) (fun x => ⟨tabE [(0, .c (.list false 1 (l.map sRow))), (1, .c (.list false 1 (l.map sRow))), (5, .c (.int .i64 x))], tabS [], 2⟩)
    (fun x => x ≤ l.length) (x := 0) ?round ?h0 ?hn
  case h0 => exact Nat.zero_le _
  case hn =>
    (refine norm_to [] rfl ?_ ?_ <;> simp only [go_sem])
  rintro i h2
  refine vw_seq ?_
  by_cases hc : (i : Int) < l.length
  case neg =>
    (refine vw_go rfl ?_; simp only [hc, go_sem, setCells, setIn])
    (refine vw_cond (t := false) rfl (fun h => nomatch h) (fun _ => ?_))
    refine vw_exit (x_then (x_then (x_block (n_then ?_))))
    (refine vw_go rfl ?_; simp only [go_sem, setCells, setIn])
    exact vw_ret (e_ret (ret_of rfl rfl (by simp [RB]) rfl rfl))
  have hin : i < l.length := by omega
  obtain ⟨s, hs⟩ : ∃ s, l[i]? = some s := ⟨_, List.getElem?_eq_getElem hin⟩
  have d0 : (0:Int) ≤ (i : Int) := by omega
  have w3 : IntKind.wrap .i64 ((i:Int) + 1) = ((i + 1 : Nat) : Int) := by rw [wrap_i64 (by omega) (by omega)]; rfl
  (refine vw_go rfl ?_; simp only [hc, go_sem, setCells, setIn])
  (refine vw_cond (t := true) rfl (fun _ => ?_) (fun h => nomatch h))
  refine vw_skip (n_then ?_)
  refine vw_seq ?_
  refine vw_block ?_
  (refine vw_draw mixed rfl rfl ?_; simp only [d0, hc, hin, Int.toNat_natCast, getD_map_of hs, sRow, go_sem, setCells, setIn])
  refine ⟨by unfold allOk; kernel_rfl, ?_⟩
  (refine vw_cond (t := false) rfl (fun h => nomatch h) (fun _ => ?_))
  refine vw_skip (n_block (n_then ?_))
  (refine vw_last rfl ?_; simp only [w3, go_sem, setCells, setIn])
  refine (n_then ?_)
  refine ⟨i + 1, by omega, by omega, ?_⟩
  (refine norm_to [] rfl ?_ ?_ <;> simp only [go_sem])

attribute [-go_sem] runW_cons
theorem drawBad_size (L : List UInt8) (c : Cur) : (drawBad L c).size ≤ 11 := by
  have h1 : ∀ s ∈ pathL, s.size ≤ 11 := by decide
  have h2 : ∀ s ∈ badL, s.size ≤ 11 := by decide
  unfold drawBad drawPath
  split
  · exact h2 _ (pickV_mem (l := badL) L _ ⟨#[]⟩ (by decide))
  · exact h1 _ (pickV_mem (l := pathL) L _ ⟨#[]⟩ (by decide))
theorem jn_size : ∀ (l : List ByteArray) (acc : ByteArray), acc.size ≤ (jn acc l).size
  | [], acc => Nat.le_refl _
  | x :: l, acc => by
    have := jn_size l (acc ++ ⟨#[47]⟩ ++ x)
    simp only [add_size] at this
    rw [jn]; omega

set_option maxHeartbeats 2000000 in
theorem runs_3 (L : List UInt8) (hL63 : L.length < 2 ^ 63) : Runs Tryd.prog 3 [.one (.v (.list false 1 (L.map bRow)))] [.one (.v (.bool true))] [] := by
  refine runs_tab (tab := [(0, .c (.list false 1 (L.map bRow)))]) (rts := []) (n := 176) (k := 1) Tryd.func3 rfl rfl (by simp) rfl (fun t => ?_) rfl ?_
  · rcases t with _ | t <;> rfl
  have rB := runs_4 L hL63
  by_cases hbig : 1048576 < (L.length : Int)
  · rw [decide_eq_true hbig] at rB
    (refine vw_go rfl ?_; simp only [go_sem, setCells, setIn])
    refine vw_seq ?_
    (refine vw_go rfl ?_; simp only [go_sem, setCells, setIn])
    (refine ⟨_, _, call_rx [0] Tryd.func4 (rB) rfl rfl rfl rfl rfl rfl rfl (by simp [lendAll, lendC, seek, fresh, nav, rcells, RT.cells, VV.cells, tabE_cons, tabS_cons, ev, take_map_len, sRow_r1, sRow_comp, sRow_clean, nRow_r1, nRow_comp, nRow_clean, bRow_r1, bRow_clean]) rfl (by simp [rcells, RT.cells, CT.clean, T.clean, sRow_r1, sRow_comp, sRow_clean, nRow_r1, nRow_comp, nRow_clean, bRow_r1, bRow_clean]) rfl rfl, ?_⟩)
    simp only [runH, runX, go_sem, setCells, setIn]
    (refine vw_cond (t := true) rfl (fun _ => ?_) (fun h => nomatch h))
    (refine vw_go rfl ?_; simp only [go_sem, setCells, setIn])
    exact vw_ret (r_then (e_ret (ret_of rfl rfl (by simp [RB]) rfl rfl)))
  have hL : L.length < 2 ^ 60 := by omega
  rw [decide_eq_false hbig] at rB
  have hz1 := drawBad_size L (newC L)
  have hz2 := drawBad_size L (drawV L (newC L)).2
  have hz3 := drawBad_size L (byteC L (byteC L (newC L)))
  have hfit := drawV_fit L (newC L)
  have rD := runs_5 L hL _ rfl
  have rP := runs_7 L hL _ rfl
  have rW := runs_12 L hL _ rfl _ rfl
  have rU := runs_16 L hL _ _ rfl rfl
  have rS := runs_17 L hL _ rfl
  generalize drawBad L (drawV L (newC L)).2 = path at rW hz2
  generalize drawBad L (byteC L (byteC L (newC L))) = t at rU hz3
  generalize drawBad L (newC L) = s at rD rP rU rS hz1
  generalize (drawV L (newC L)).1 = l at rW hfit
  obtain ⟨f1, f2⟩ := hfit
  have hl : l.length < 2 ^ 60 := by omega
  have hsz : ∀ s ∈ l, s.size ≤ 2 ^ 20 := fun s hs => Nat.le_trans (f2 s hs) (by decide)
  have rTi := runs_6 s (by omega)
  have rTs := runs_9 s (by omega)
  have hsl := stepsF_le s
  have hjoin := steps_join (s := s)
  generalize stepsF s = st at rTi rTs hsl hjoin
  have rTT := runs_sameT st (by omega)
  have rPi := runs_10 s (by omega)
  have rPs := runs_11 s (by omega)
  generalize pathOk s = pk at rPi rPs
  have bl : List.take l.length (l.map sRow) = l.map sRow := List.take_of_length_le (by simp)
  have bs : List.take st.length (st.map sRow) = st.map sRow := List.take_of_length_le (by simp)
  (refine vw_go rfl ?_; simp only [go_sem, setCells, setIn])
  refine vw_seq ?_
  (refine vw_go rfl ?_; simp only [go_sem, setCells, setIn])
  (refine ⟨_, _, call_rx [0] Tryd.func4 (rB) rfl rfl rfl rfl rfl rfl rfl (by simp [lendAll, lendC, seek, fresh, nav, rcells, RT.cells, VV.cells, tabE_cons, tabS_cons, ev, take_map_len, sRow_r1, sRow_comp, sRow_clean, nRow_r1, nRow_comp, nRow_clean, bRow_r1, bRow_clean]) rfl (by simp [rcells, RT.cells, CT.clean, T.clean, sRow_r1, sRow_comp, sRow_clean, nRow_r1, nRow_comp, nRow_clean, bRow_r1, bRow_clean]) rfl rfl, ?_⟩)
  simp only [runH, runX, go_sem, setCells, setIn]
  (refine vw_cond (t := false) rfl (fun h => nomatch h) (fun _ => ?_))
  refine vw_skip (n_then ?_)
  (refine vw_go rfl ?_; simp only [go_sem, setCells, setIn])
  (refine ⟨_, _, call_rx [0] Tryd.func5 (rD) rfl rfl rfl rfl rfl rfl rfl (by simp [lendAll, lendC, seek, fresh, nav, rcells, RT.cells, VV.cells, tabE_cons, tabS_cons, ev, take_map_len, sRow_r1, sRow_comp, sRow_clean, nRow_r1, nRow_comp, nRow_clean, bRow_r1, bRow_clean]) rfl (by simp [rcells, RT.cells, CT.clean, T.clean, sRow_r1, sRow_comp, sRow_clean, nRow_r1, nRow_comp, nRow_clean, bRow_r1, bRow_clean]) rfl rfl, ?_⟩)
  simp only [runH, runX, go_sem, setCells, setIn]
  (refine vw_go rfl ?_; simp only [go_sem, setCells, setIn])
  (refine ⟨_, _, call_rx [0] Tryd.func6 (rTi) rfl rfl rfl rfl rfl rfl rfl (by simp [lendAll, lendC, seek, fresh, nav, rcells, RT.cells, VV.cells, tabE_cons, tabS_cons, ev, take_map_len, sRow_r1, sRow_comp, sRow_clean, nRow_r1, nRow_comp, nRow_clean, bRow_r1, bRow_clean]) rfl (by simp [rcells, RT.cells, CT.clean, T.clean, sRow_r1, sRow_comp, sRow_clean, nRow_r1, nRow_comp, nRow_clean, bRow_r1, bRow_clean]) rfl rfl, ?_⟩)
  simp only [runH, runX, bs, go_sem, setCells, setIn]
  (refine vw_go rfl ?_; simp only [bs, go_sem, setCells, setIn])
  (refine ⟨_, _, call_rx [0] Tryd.func7 (rP) rfl rfl rfl rfl rfl rfl rfl (by simp [lendAll, lendC, seek, fresh, nav, rcells, RT.cells, VV.cells, tabE_cons, tabS_cons, ev, take_map_len, sRow_r1, sRow_comp, sRow_clean, nRow_r1, nRow_comp, nRow_clean, bRow_r1, bRow_clean]) rfl (by simp [rcells, RT.cells, CT.clean, T.clean, sRow_r1, sRow_comp, sRow_clean, nRow_r1, nRow_comp, nRow_clean, bRow_r1, bRow_clean]) rfl rfl, ?_⟩)
  simp only [runH, runX, bs, go_sem, setCells, setIn]
  refine vw_seq ?_
  (refine vw_go rfl ?_; simp only [bs, go_sem, setCells, setIn])
  (refine ⟨_, _, call_rx [0] Tryd.func9 (rTs) rfl rfl rfl rfl rfl rfl rfl (by simp [lendAll, lendC, seek, fresh, nav, rcells, RT.cells, VV.cells, tabE_cons, tabS_cons, ev, take_map_len, sRow_r1, sRow_comp, sRow_clean, nRow_r1, nRow_comp, nRow_clean, bRow_r1, bRow_clean]) rfl (by simp [rcells, RT.cells, CT.clean, T.clean, sRow_r1, sRow_comp, sRow_clean, nRow_r1, nRow_comp, nRow_clean, bRow_r1, bRow_clean]) rfl rfl, ?_⟩)
  (unfold runH; simp (maxSteps := 1000000) only [bs, go_sem, setCells, setIn])
  (refine ⟨_, _, call_rx [0, 0] Tryd.func8 (rTT) rfl rfl rfl rfl rfl rfl rfl (by simp [lendAll, lendC, seek, fresh, nav, rcells, RT.cells, VV.cells, tabE_cons, tabS_cons, ev, take_map_len, sRow_r1, sRow_comp, sRow_clean, nRow_r1, nRow_comp, nRow_clean, bRow_r1, bRow_clean, bs]) rfl (by simp [rcells, RT.cells, CT.clean, T.clean, sRow_r1, sRow_comp, sRow_clean, nRow_r1, nRow_comp, nRow_clean, bRow_r1, bRow_clean, bs]) rfl rfl, ?_⟩)
  (unfold runH; simp (maxSteps := 1000000) only [bs, go_sem, setCells, setIn])
  (refine ⟨_, _, call_rx [0] Tryd.func10 (rPi) rfl rfl rfl rfl rfl rfl rfl (by simp [lendAll, lendC, seek, fresh, nav, rcells, RT.cells, VV.cells, tabE_cons, tabS_cons, ev, take_map_len, sRow_r1, sRow_comp, sRow_clean, nRow_r1, nRow_comp, nRow_clean, bRow_r1, bRow_clean]) rfl (by simp [rcells, RT.cells, CT.clean, T.clean, sRow_r1, sRow_comp, sRow_clean, nRow_r1, nRow_comp, nRow_clean, bRow_r1, bRow_clean]) rfl rfl, ?_⟩)
  (unfold runH; simp (maxSteps := 1000000) only [bs, go_sem, setCells, setIn])
  (refine ⟨_, _, call_rx [0] Tryd.func11 (rPs) rfl rfl rfl rfl rfl rfl rfl (by simp [lendAll, lendC, seek, fresh, nav, rcells, RT.cells, VV.cells, tabE_cons, tabS_cons, ev, take_map_len, sRow_r1, sRow_comp, sRow_clean, nRow_r1, nRow_comp, nRow_clean, bRow_r1, bRow_clean]) rfl (by simp [rcells, RT.cells, CT.clean, T.clean, sRow_r1, sRow_comp, sRow_clean, nRow_r1, nRow_comp, nRow_clean, bRow_r1, bRow_clean]) rfl rfl, ?_⟩)
  simp only [runH, runX, bs, beq_self_eq_true, go_sem, setCells, setIn]
  (refine vw_cond (t := false) rfl (fun h => nomatch h) (fun _ => ?_))
  refine vw_skip (n_then ?_)
  (refine vw_go rfl ?_; simp only [go_sem, setCells, setIn])
  refine vw_seq ?_
  (refine vw_go rfl ?_; simp only [go_sem, setCells, setIn])
  refine vw_block ?_
  refine vw_loop_tab (α := Nat × ByteArray) (fun x => st.length - x.1) (fun x => ⟨tabE [(0, .c (.list false 1 (L.map bRow))), (3, .c (.str s)), (4, .al 1 [] 0 1 0 st.length), (6, .c (.str x.2)), (7, .c (.int .i64 x.1))], tabS [(1, some ⟨false, 1, st.map sRow, []⟩)], 2⟩)
    (fun x => x.1 ≤ st.length ∧ (x.1 = 0 → x.2 = ⟨#[]⟩) ∧ (0 < x.1 → jn x.2 (st.drop x.1) = joinF st)) (x := (0, ⟨#[]⟩)) ?round ?h0 ?hn
  case h0 => exact ⟨Nat.zero_le _, fun _ => rfl, fun h => absurd h (Nat.lt_irrefl _)⟩
  case hn =>
    (refine norm_to [(197633, 1)] rfl ?_ ?_ <;> simp only [go_sem])
  rintro ⟨i, acc⟩ ⟨hi, hz, hj⟩
  simp only at hi hz hj
  refine vw_seq ?_
  by_cases hc : (i : Int) < st.length
  · have hin : i < st.length := by omega
    obtain ⟨x, hx⟩ : ∃ x, st[i]? = some x := ⟨_, List.getElem?_eq_getElem hin⟩
    have d0 : (0:Int) ≤ (i : Int) := by omega
    have w3 : IntKind.wrap .i64 ((i:Int) + 1) = ((i + 1 : Nat) : Int) := by rw [wrap_i64 (by omega) (by omega)]; rfl
    have hJ : joinF st = s := hjoin (by omega)
    (refine vw_go rfl ?_; simp only [hc, go_sem, setCells, setIn])
    (refine vw_cond (t := true) rfl (fun _ => ?_) (fun h => nomatch h))
    refine vw_skip (n_then ?_)
    refine vw_seq ?_
    refine vw_block ?_
    refine vw_seq ?_
    by_cases h0 : (0 : Int) < i
    · have hj' := hj (by omega)
      rw [drop_of hx, jn] at hj'
      have hsz2 := jn_size (st.drop (i + 1)) (acc ++ ⟨#[47]⟩ ++ x)
      rw [hj', hJ, add_size, add_size] at hsz2
      have s2 : (⟨#[47]⟩ : ByteArray).size = 1 := rfl
      have t2 : Array.size #[(47 : UInt8)] = 1 := rfl
      have za : acc.size + Array.size #[(47 : UInt8)] < 2 ^ 60 := by omega
      have zb : acc.size + Array.size #[(47 : UInt8)] + x.size < 2 ^ 60 := by omega
      (refine vw_go rfl ?_; simp only [h0, go_sem, setCells, setIn])
      (refine vw_cond (t := true) rfl (fun _ => ?_) (fun h => nomatch h))
      (refine vw_last rfl ?_; simp only [za, go_sem, setCells, setIn])
      refine (n_then ?_)
      (refine vw_last rfl ?_; simp only [d0, hc, hin, Int.toNat_natCast, getD_map_of hx, sRow, zb, go_sem, setCells, setIn])
      refine (n_block (n_then ?_))
      (refine vw_last rfl ?_; simp only [w3, go_sem, setCells, setIn])
      refine (n_then ?_)
      refine ⟨(i + 1, acc ++ ⟨#[47]⟩ ++ x), by simp only; omega, ⟨by simp only; omega, fun h => absurd h (by simp only; omega), fun _ => hj'⟩, ?_⟩
      (refine norm_to [(1, 1)] rfl ?_ ?_ <;> simp only [go_sem])
    · obtain rfl : i = 0 := by omega
      have ha := hz rfl
      subst ha
      have hst : st = x :: st.drop 1 := by
        have := drop_of hx
        rwa [List.drop_zero] at this
      have hj' : jn x (st.drop 1) = joinF st := by rw [hst]; rfl
      have hsz2 := jn_size (st.drop 1) x
      rw [hj', hJ] at hsz2
      have zb : x.size < 2 ^ 60 := by omega
      have e0 : (⟨#[]⟩ : ByteArray) ++ x = x := nil_app x
      have hc0 : (0 : Int) < (st.length : Int) := by omega
      have zc : Array.size (#[] : Array UInt8) + x.size < 2 ^ 60 := by simp; omega
      have hg0 : (st.map sRow).getD 0 [] = sRow x := getD_map_of hx
      (refine vw_go rfl ?_; simp only [h0, go_sem, setCells, setIn])
      (refine vw_cond (t := false) rfl (fun h => nomatch h) (fun _ => ?_))
      refine vw_skip (n_then ?_)
      (refine vw_last rfl ?_; simp only [d0, hc0, hin, Int.toNat_natCast, hg0, sRow, zb, zc, e0, go_sem, setCells, setIn])
      refine (n_block (n_then ?_))
      (refine vw_last rfl ?_; simp only [w3, go_sem, setCells, setIn])
      refine (n_then ?_)
      refine ⟨(1, x), by simp only; omega, ⟨by simp only; omega, fun h => absurd h (by simp only; omega), fun _ => hj'⟩, ?_⟩
      (refine norm_to [(1, 1)] rfl ?_ ?_ <;> simp only [go_sem])
      · rfl
  obtain rfl : i = st.length := by omega
  have hout : 0 < st.length → acc = s := fun h => by
    have := hj h
    rw [List.drop_length, jn] at this
    rw [this, hjoin h]
  clear hj hz
  (refine vw_go rfl ?_; simp only [hc, go_sem, setCells, setIn])
  (refine vw_cond (t := false) rfl (fun h => nomatch h) (fun _ => ?_))
  refine vw_exit (x_then (x_then (x_block (n_then ?_))))
  have rKi := runs_13 l hl hsz path (by omega)
  have rKs := runs_18 l hl hsz path (by omega)
  have rCi := runs_14 path (by omega)
  have rCs := runs_15 path (by omega)
  have rQi := runs_14 s (by omega)
  have rQs := runs_15 s (by omega)
  have rUi := runs_19 s t (by omega) (by omega)
  have rUs := runs_20 s t (by omega) (by omega)
  have rVs := runs_21 l hl hsz
  have hsn := split_names (s := path)
  have hss := splitF_size path
  generalize splitF s = q at rQi rQs
  obtain ⟨q1, q2, q3⟩ := q
  generalize underB s t = ub at rUi rUs
  generalize splitF path = p at rCi rCs hsn hss
  obtain ⟨up, name, ok⟩ := p
  simp only at rQi rQs rCi rCs hsn hss
  have rUu := runs_19 path up (by omega) (by omega)
  have rWu := runs_13 l hl hsz up (by omega)
  refine vw_join (α := Unit) (fun z => ⟨tabE [(0, .c (.list false 1 (L.map bRow)))], tabS [], 1⟩) (fun z => True) ?_ ?_
  · by_cases h0 : (0 : Int) < st.length
    · have := hout (by omega)
      subst this
      (refine vw_go rfl ?_; simp only [h0, go_sem, setCells, setIn])
      (refine vw_cond (t := false) rfl (fun h => nomatch h) (fun _ => ?_))
      refine vw_skip (n_then ⟨(), ?_⟩)
      (refine norm_to [] rfl ?_ ?_ <;> simp only [go_sem])
    · (refine vw_go rfl ?_; simp only [h0, go_sem, setCells, setIn])
      (refine vw_cond (t := false) rfl (fun h => nomatch h) (fun _ => ?_))
      refine vw_skip (n_then ⟨(), ?_⟩)
      (refine norm_to [] rfl ?_ ?_ <;> simp only [go_sem])
  intro z _
  (refine vw_go rfl ?_; simp only [go_sem, setCells, setIn])
  (refine ⟨_, _, call_rx [0] Tryd.func12 (rW) rfl rfl rfl rfl rfl rfl rfl (by simp [lendAll, lendC, seek, fresh, nav, rcells, RT.cells, VV.cells, tabE_cons, tabS_cons, ev, take_map_len, sRow_r1, sRow_comp, sRow_clean, nRow_r1, nRow_comp, nRow_clean, bRow_r1, bRow_clean]) rfl (by simp [rcells, RT.cells, CT.clean, T.clean, sRow_r1, sRow_comp, sRow_clean, nRow_r1, nRow_comp, nRow_clean, bRow_r1, bRow_clean]) rfl rfl, ?_⟩)
  simp only [runH, runX, bl, go_sem, setCells, setIn]
  (refine vw_go rfl ?_; simp only [bl, go_sem, setCells, setIn])
  (refine ⟨_, _, call_rx [0, 0] Tryd.func13 (rKi) rfl rfl rfl rfl rfl rfl rfl (by simp [lendAll, lendC, seek, fresh, nav, rcells, RT.cells, VV.cells, tabE_cons, tabS_cons, ev, take_map_len, sRow_r1, sRow_comp, sRow_clean, nRow_r1, nRow_comp, nRow_clean, bRow_r1, bRow_clean, bl]) rfl (by simp [rcells, RT.cells, CT.clean, T.clean, sRow_r1, sRow_comp, sRow_clean, nRow_r1, nRow_comp, nRow_clean, bRow_r1, bRow_clean, bl]) rfl rfl, ?_⟩)
  simp only [runH, runX, bl, go_sem, setCells, setIn]
  (refine vw_go rfl ?_; simp only [bl, go_sem, setCells, setIn])
  (refine ⟨_, _, call_rx [0] Tryd.func14 (rCi) rfl rfl rfl rfl rfl rfl rfl (by simp [lendAll, lendC, seek, fresh, nav, rcells, RT.cells, VV.cells, tabE_cons, tabS_cons, ev, take_map_len, sRow_r1, sRow_comp, sRow_clean, nRow_r1, nRow_comp, nRow_clean, bRow_r1, bRow_clean]) rfl (by simp [rcells, RT.cells, CT.clean, T.clean, sRow_r1, sRow_comp, sRow_clean, nRow_r1, nRow_comp, nRow_clean, bRow_r1, bRow_clean]) rfl rfl, ?_⟩)
  simp only [runH, runX, bl, go_sem, setCells, setIn]
  (refine vw_go rfl ?_; simp only [bl, go_sem, setCells, setIn])
  (refine ⟨_, _, call_rx [0] Tryd.func15 (rCs) rfl rfl rfl rfl rfl rfl rfl (by simp [lendAll, lendC, seek, fresh, nav, rcells, RT.cells, VV.cells, tabE_cons, tabS_cons, ev, take_map_len, sRow_r1, sRow_comp, sRow_clean, nRow_r1, nRow_comp, nRow_clean, bRow_r1, bRow_clean]) rfl (by simp [rcells, RT.cells, CT.clean, T.clean, sRow_r1, sRow_comp, sRow_clean, nRow_r1, nRow_comp, nRow_clean, bRow_r1, bRow_clean]) rfl rfl, ?_⟩)
  simp only [runH, runX, bl, go_sem, setCells, setIn]
  (refine vw_go rfl ?_; simp only [bl, go_sem, setCells, setIn])
  (refine ⟨_, _, call_rx [0] Tryd.func16 (rU) rfl rfl rfl rfl rfl rfl rfl (by simp [lendAll, lendC, seek, fresh, nav, rcells, RT.cells, VV.cells, tabE_cons, tabS_cons, ev, take_map_len, sRow_r1, sRow_comp, sRow_clean, nRow_r1, nRow_comp, nRow_clean, bRow_r1, bRow_clean]) rfl (by simp [rcells, RT.cells, CT.clean, T.clean, sRow_r1, sRow_comp, sRow_clean, nRow_r1, nRow_comp, nRow_clean, bRow_r1, bRow_clean]) rfl rfl, ?_⟩)
  simp only [runH, runX, bl, go_sem, setCells, setIn]
  (refine vw_go rfl ?_; simp only [bl, go_sem, setCells, setIn])
  (refine ⟨_, _, call_rx [0] Tryd.func17 (rS) rfl rfl rfl rfl rfl rfl rfl (by simp [lendAll, lendC, seek, fresh, nav, rcells, RT.cells, VV.cells, tabE_cons, tabS_cons, ev, take_map_len, sRow_r1, sRow_comp, sRow_clean, nRow_r1, nRow_comp, nRow_clean, bRow_r1, bRow_clean]) rfl (by simp [rcells, RT.cells, CT.clean, T.clean, sRow_r1, sRow_comp, sRow_clean, nRow_r1, nRow_comp, nRow_clean, bRow_r1, bRow_clean]) rfl rfl, ?_⟩)
  simp only [runH, runX, bl, go_sem, setCells, setIn]
  (refine vw_go rfl ?_; simp only [bl, go_sem, setCells, setIn])
  (refine ⟨_, _, call_rx [0] Tryd.func14 (rQi) rfl rfl rfl rfl rfl rfl rfl (by simp [lendAll, lendC, seek, fresh, nav, rcells, RT.cells, VV.cells, tabE_cons, tabS_cons, ev, take_map_len, sRow_r1, sRow_comp, sRow_clean, nRow_r1, nRow_comp, nRow_clean, bRow_r1, bRow_clean]) rfl (by simp [rcells, RT.cells, CT.clean, T.clean, sRow_r1, sRow_comp, sRow_clean, nRow_r1, nRow_comp, nRow_clean, bRow_r1, bRow_clean]) rfl rfl, ?_⟩)
  simp only [runH, runX, bl, go_sem, setCells, setIn]
  (refine vw_go rfl ?_; simp only [bl, go_sem, setCells, setIn])
  (refine ⟨_, _, call_rx [0] Tryd.func15 (rQs) rfl rfl rfl rfl rfl rfl rfl (by simp [lendAll, lendC, seek, fresh, nav, rcells, RT.cells, VV.cells, tabE_cons, tabS_cons, ev, take_map_len, sRow_r1, sRow_comp, sRow_clean, nRow_r1, nRow_comp, nRow_clean, bRow_r1, bRow_clean]) rfl (by simp [rcells, RT.cells, CT.clean, T.clean, sRow_r1, sRow_comp, sRow_clean, nRow_r1, nRow_comp, nRow_clean, bRow_r1, bRow_clean]) rfl rfl, ?_⟩)
  simp only [runH, runX, bl, go_sem, setCells, setIn]
  refine vw_seq ?_
  (refine vw_go rfl ?_; simp only [bl, go_sem, setCells, setIn])
  (refine ⟨_, _, call_rx [0, 0] Tryd.func18 (rKs) rfl rfl rfl rfl rfl rfl rfl (by simp [lendAll, lendC, seek, fresh, nav, rcells, RT.cells, VV.cells, tabE_cons, tabS_cons, ev, take_map_len, sRow_r1, sRow_comp, sRow_clean, nRow_r1, nRow_comp, nRow_clean, bRow_r1, bRow_clean, bl]) rfl (by simp [rcells, RT.cells, CT.clean, T.clean, sRow_r1, sRow_comp, sRow_clean, nRow_r1, nRow_comp, nRow_clean, bRow_r1, bRow_clean, bl]) rfl rfl, ?_⟩)
  (unfold runH; simp (maxSteps := 1000000) only [bl, beq_self_eq_true, go_sem, setCells, setIn])
  (refine ⟨_, _, call_rx [0, 0] Tryd.func19 (rUi) rfl rfl rfl rfl rfl rfl rfl (by simp [lendAll, lendC, seek, fresh, nav, rcells, RT.cells, VV.cells, tabE_cons, tabS_cons, ev, take_map_len, sRow_r1, sRow_comp, sRow_clean, nRow_r1, nRow_comp, nRow_clean, bRow_r1, bRow_clean]) rfl (by simp [rcells, RT.cells, CT.clean, T.clean, sRow_r1, sRow_comp, sRow_clean, nRow_r1, nRow_comp, nRow_clean, bRow_r1, bRow_clean]) rfl rfl, ?_⟩)
  (unfold runH; simp (maxSteps := 1000000) only [bl, beq_self_eq_true, go_sem, setCells, setIn])
  (refine ⟨_, _, call_rx [0, 0] Tryd.func20 (rUs) rfl rfl rfl rfl rfl rfl rfl (by simp [lendAll, lendC, seek, fresh, nav, rcells, RT.cells, VV.cells, tabE_cons, tabS_cons, ev, take_map_len, sRow_r1, sRow_comp, sRow_clean, nRow_r1, nRow_comp, nRow_clean, bRow_r1, bRow_clean]) rfl (by simp [rcells, RT.cells, CT.clean, T.clean, sRow_r1, sRow_comp, sRow_clean, nRow_r1, nRow_comp, nRow_clean, bRow_r1, bRow_clean]) rfl rfl, ?_⟩)
  simp only [runH, runX, bl, beq_self_eq_true, go_sem, setCells, setIn]
  (refine vw_cond (t := false) rfl (fun h => nomatch h) (fun _ => ?_))
  refine vw_skip (n_then ?_)
  refine vw_seq ?_
  cases ok
  case false =>
    (refine vw_go rfl ?_; simp only [bl, go_sem, setCells, setIn])
    (refine vw_cond (t := true) rfl (fun _ => ?_) (fun h => nomatch h))
    (refine vw_go rfl ?_; simp only [go_sem, setCells, setIn])
    exact vw_ret (r_then (e_ret (ret_of rfl rfl (by simp [RB]) rfl rfl)))
  obtain ⟨n1, n2, n3, n4⟩ := hsn rfl
  rw [n4] at rUu
  (refine vw_go rfl ?_; simp only [bl, go_sem, setCells, setIn])
  (refine ⟨_, _, call_rx [0] Tryd.func21 (rVs) rfl rfl rfl rfl rfl rfl rfl (by simp [lendAll, lendC, seek, fresh, nav, rcells, RT.cells, VV.cells, tabE_cons, tabS_cons, ev, take_map_len, sRow_r1, sRow_comp, sRow_clean, nRow_r1, nRow_comp, nRow_clean, bRow_r1, bRow_clean, bl]) rfl (by simp [rcells, RT.cells, CT.clean, T.clean, sRow_r1, sRow_comp, sRow_clean, nRow_r1, nRow_comp, nRow_clean, bRow_r1, bRow_clean, bl]) rfl rfl, ?_⟩)
  cases hv : volOk l
  · simp only [runH, runX, bl, hv, go_sem, setCells, setIn]
    (refine vw_cond (t := true) rfl (fun _ => ?_) (fun h => nomatch h))
    (refine vw_go rfl ?_; simp only [go_sem, setCells, setIn])
    exact vw_ret (r_then (e_ret (ret_of rfl rfl (by simp [RB]) rfl rfl)))
  have hwk : walkF l path = stepW l name (walkF l up) := by
    unfold walkF
    rw [if_pos ⟨n1, hv⟩, if_pos ⟨n3, hv⟩, n2]
    exact walkG_snoc l name (namesZ up) 0 (by decide) (by decide)
  have hwi : walkF l up = -1 ∨ (0 ≤ walkF l up ∧ walkF l up ≤ 11) := by
    unfold walkF
    rw [if_pos ⟨n3, hv⟩]
    exact walkG_in l (namesZ up) 0 (by decide) (by decide)
  have l12 := volOk_len hv
  have hkj := hwk
  generalize walkF l path = kk at hkj
  generalize walkF l up = j at rWu hwi hkj
  subst hkj
  simp only [runH, runX, bl, hv, go_sem, setCells, setIn]
  (refine vw_cond (t := false) rfl (fun h => nomatch h) (fun _ => ?_))
  refine vw_skip (n_then ?_)
  (refine vw_go rfl ?_; simp only [bl, go_sem, setCells, setIn])
  (refine ⟨_, _, call_rx [0, 0] Tryd.func13 (rWu) rfl rfl rfl rfl rfl rfl rfl (by simp [lendAll, lendC, seek, fresh, nav, rcells, RT.cells, VV.cells, tabE_cons, tabS_cons, ev, take_map_len, sRow_r1, sRow_comp, sRow_clean, nRow_r1, nRow_comp, nRow_clean, bRow_r1, bRow_clean, bl]) rfl (by simp [rcells, RT.cells, CT.clean, T.clean, sRow_r1, sRow_comp, sRow_clean, nRow_r1, nRow_comp, nRow_clean, bRow_r1, bRow_clean, bl]) rfl rfl, ?_⟩)
  simp only [runH, runX, bl, go_sem, setCells, setIn]
  refine vw_seq ?_
  rcases hwi with rfl | ⟨j0, j11⟩
  · have e1 : stepW l name (-1) = -1 := rfl
    (refine vw_go rfl ?_; simp only [e1, go_sem, setCells, setIn])
    (refine vw_cond (t := true) rfl (fun _ => ?_) (fun h => nomatch h))
    (refine vw_go rfl ?_; simp only [e1, go_sem, setCells, setIn])
    exact vw_ret (r_then (e_ret (ret_of rfl rfl (by simp [RB]) rfl rfl)))
  obtain ⟨k, rfl⟩ : ∃ k : Nat, j = (k : Int) := ⟨j.toNat, by omega⟩
  have hj0 : ¬ (k : Int) < 0 := by omega
  have rA := runs_22 l hl hsz (k : Int) _ rfl
  rw [nodeAt_in l12 (by omega)] at rA
  obtain ⟨a1, a2, a3, a4⟩ := nodeRead_small (l.getD k ⟨#[]⟩)
  have hlen := nodeRead_len (l.getD k ⟨#[]⟩)
  have e2 : stepW l name (k : Int) = kidF (nodeRead (l.getD k ⟨#[]⟩)).1 name := by unfold stepW; rw [if_neg hj0, Int.toNat_natCast]
  generalize nodeRead (l.getD k ⟨#[]⟩) = r at rA a1 a2 a3 a4 hlen e2
  obtain ⟨n, there⟩ := r
  simp only at rA a1 a2 a3 a4 hlen e2
  have rK := runs_23 n (by omega) (by omega) name
  rw [← e2] at rK
  have bn : List.take n.names.length (n.names.map sRow) = n.names.map sRow := List.take_of_length_le (by simp)
  have bk : List.take n.kids.length (n.kids.map nRow) = n.kids.map nRow := List.take_of_length_le (by simp)
  (refine vw_go rfl ?_; simp only [hj0, go_sem, setCells, setIn])
  (refine vw_cond (t := false) rfl (fun h => nomatch h) (fun _ => ?_))
  refine vw_skip (n_then ?_)
  (refine vw_go rfl ?_; simp only [bl, go_sem, setCells, setIn])
  (refine ⟨_, _, call_rx [0, 0] Tryd.func22 (rA) rfl rfl rfl rfl rfl rfl rfl (by simp [lendAll, lendC, seek, fresh, nav, rcells, RT.cells, VV.cells, tabE_cons, tabS_cons, ev, take_map_len, sRow_r1, sRow_comp, sRow_clean, nRow_r1, nRow_comp, nRow_clean, bRow_r1, bRow_clean, bl]) rfl (by simp [rcells, RT.cells, CT.clean, T.clean, sRow_r1, sRow_comp, sRow_clean, nRow_r1, nRow_comp, nRow_clean, bRow_r1, bRow_clean, bl]) rfl rfl, ?_⟩)
  simp only [runH, runX, bl, bn, bk, go_sem, setCells, setIn]
  (refine vw_go rfl ?_; simp only [bl, bn, bk, List.drop_length, go_sem, setCells, setIn])
  (refine ⟨_, _, call_rx [0, 0] Tryd.func23 (rK) rfl rfl rfl rfl rfl rfl rfl (by simp [lendAll, lendC, seek, fresh, nav, rcells, RT.cells, VV.cells, tabE_cons, tabS_cons, ev, take_map_len, sRow_r1, sRow_comp, sRow_clean, nRow_r1, nRow_comp, nRow_clean, bRow_r1, bRow_clean, bn, bk]) rfl (by simp [rcells, RT.cells, CT.clean, T.clean, sRow_r1, sRow_comp, sRow_clean, nRow_r1, nRow_comp, nRow_clean, bRow_r1, bRow_clean, bn, bk]) rfl rfl, ?_⟩)
  (unfold runH; simp (maxSteps := 1000000) only [bl, go_sem, setCells, setIn])
  (refine ⟨_, _, call_rx [0, 0] Tryd.func19 (rUu) rfl rfl rfl rfl rfl rfl rfl (by simp [lendAll, lendC, seek, fresh, nav, rcells, RT.cells, VV.cells, tabE_cons, tabS_cons, ev, take_map_len, sRow_r1, sRow_comp, sRow_clean, nRow_r1, nRow_comp, nRow_clean, bRow_r1, bRow_clean]) rfl (by simp [rcells, RT.cells, CT.clean, T.clean, sRow_r1, sRow_comp, sRow_clean, nRow_r1, nRow_comp, nRow_clean, bRow_r1, bRow_clean]) rfl rfl, ?_⟩)
  simp only [runH, runX, bl, go_sem, setCells, setIn]
  exact vw_ret (e_ret (ret_by rfl rfl (by simp [RB]) rfl (by simp only [takeCs, takeC, go_sem, setCells, setIn])))
end Go.Proofs.YtdikikcingempaaDoor
