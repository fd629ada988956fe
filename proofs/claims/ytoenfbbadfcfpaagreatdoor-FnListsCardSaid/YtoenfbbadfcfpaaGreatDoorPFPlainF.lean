/- Draws of lists of items. The laws' first question: is the argument big. Plain of the program: what is asked of a file; the whole. -/
import Derived.Test.YtoenfbbadfcfpaaGreatDoorPFItem2
import Derived.Test.YtoenfbbadfcfpaaGreatDoorPFOrd
import Derived.Test.YtoenfbbadfcfpaaGreatDoorPFPerm
set_option linter.unusedSimpArgs false
set_option linter.unusedVariables false
namespace Go.Proofs.YtoenfbbadfcfpaaGreatDoor
open Go.VM Go
set_option maxRecDepth 100000
attribute [-go_sem] runW_cons
attribute [local congr] vw_congr runV_congr runH_congr runW_congr runX_congr stuckV_congr stuckX_congr
theorem iRow_fine (H : Value → Nat → List (List T) → Prop) (l : List It3) : fineRs H (l.map iRow) = True := eq_true (fineRs_of (iRow_clean l))
theorem rev_step {l : List It3} {i : Nat} {x : It3} (h : l[i]? = some x) : (l.drop i).reverse = (l.drop (i + 1)).reverse ++ [x] := by
  rw [drop_of h, List.reverse_cons]
def drawI (L : List UInt8) (c : Cur) : List It3 × Cur :=
  if belV L (drawRight L c).2 12 = 0 then (itemsV (drawRight L c).1 ++ [(drawBad L (byteC L (drawRight L c).2), false, ⟨#[]⟩)], byteC L (byteC L (byteC L (drawRight L c).2)))
  else if belV L (drawRight L c).2 12 = 1 then ((itemsV (drawRight L c).1).drop 1, byteC L (drawRight L c).2)
  else if belV L (drawRight L c).2 12 = 2 then (putAtL (itemsV (drawRight L c).1) 0 ⟨#[113]⟩, byteC L (drawRight L c).2)
  else if belV L (drawRight L c).2 12 = 3 then ((itemsV (drawRight L c).1).reverse, byteC L (drawRight L c).2)
  else (itemsV (drawRight L c).1, byteC L (drawRight L c).2)
set_option maxHeartbeats 1000000 in
theorem runs_51 (v : Value) (L : List UInt8) (hL : L.length < 2 ^ 60) (c : Cur) (l : List It3) (C : Cur) (hC : (l, C) = drawI L c) :
    Runs Tryz.prog 51 [.one (.box [.held v 1 (L.map bRow), .int .i64 c.i, .int .i64 c.h])] [.one (.v (.list true 3 (l.map iRow)))] [(0, ⟨true, 3, [[.held v 1 (L.map bRow), .int .i64 C.i, .int .i64 C.h]], []⟩)] := by
  refine runs_tabB (tab := [(0, .ptr 0 [] 0 0 0)]) (rts := [(0, some ⟨true, 3, [[.held v 1 (L.map bRow), .int .i64 c.i, .int .i64 c.h]], []⟩)]) (n := 53) (k := 1) Tryz.func51 rfl rfl (by simp) rfl (fun t => ?_) rfl ?_
  · rcases t with _ | t <;> rfl
  unfold drawI at hC
  have rR := runs_78 v L hL c (drawRight L c).1 (drawRight L c).2 rfl
  have hf := drawRight_fit L c
  generalize drawRight L c = r at rR hf hC
  obtain ⟨w, d⟩ := r
  simp only at rR hf hC
  have rB := runs_79 v L hL d 12 (by decide) (by decide)
  have hb := belV_in L d (n := 12) (by decide)
  generalize belV L d 12 = b at rB hC hb
  generalize byteC L d = e at rB hC
  have bw : List.take w.length (w.map sRow) = w.map sRow := List.take_of_length_le (by simp)
  have rI := runs_18 w (by rw [hf.1]; decide) (fun s hs => Nat.le_trans (hf.2 s hs) (by decide))
  have hN := itemsOk_N (vol_items (l := w))
  have h11 := hN.len
  generalize itemsV w = its at rI h11 hC
  have bi : List.take its.length (its.map iRow) = its.map iRow := List.take_of_length_le (by simp)
  refine vw_go rfl ?_; simp only [go_sem, setCells, setIn]
  refine vw_go rfl ?_; simp only [go_sem, setCells, setIn]
  refine ⟨_, _, call_pt [0] 0 Tryz.func78 (rR) rfl rfl rfl rfl rfl rfl rfl rfl (by simp [lendAll, lendC, seek, fresh, nav, rcells, RT.cells, VV.cells, tabE_cons, tabS_cons, St.put, ev, lit, take_map_len, sRow_r1, sRow_comp, sRow_clean, iRow_r1, iRow_clean, take_map_len, sRow_fine]) rfl rfl (by simp [rcells, RT.cells, CT.fine, T.fine, sRow_r1, sRow_comp, sRow_clean, iRow_r1, iRow_clean, take_map_len, sRow_fine]) (by exact ⟨.inr ⟨0, _, _, rfl, .head _, .head _⟩, trivial, trivial, trivial⟩) rfl rfl, ?_⟩
  simp only [runH, runX, bw, go_sem, setCells, setIn]
  refine ⟨_, _, call_rx [0] Tryz.func18 (rI) rfl rfl rfl rfl rfl rfl rfl (by simp [lendAll, lendC, seek, fresh, nav, rcells, RT.cells, VV.cells, tabE_cons, tabS_cons, ev, take_map_len, sRow_r1, sRow_comp, sRow_clean, iRow_r1, iRow_clean, take_map_len, bw]) rfl (by simp [rcells, RT.cells, CT.clean, T.clean, sRow_r1, sRow_comp, sRow_clean, iRow_r1, iRow_clean, take_map_len, bw]) rfl rfl, ?_⟩
  simp only [runH, runX, bi, go_sem, setCells, setIn]
  refine vw_seq ?_
  refine vw_go rfl ?_; simp only [go_sem, setCells, setIn]
  refine ⟨_, _, call_pt [0, 0] 0 Tryz.func79 (rB) rfl rfl rfl rfl rfl rfl rfl rfl (by simp [lendAll, lendC, seek, fresh, nav, rcells, RT.cells, VV.cells, tabE_cons, tabS_cons, St.put, ev, lit, take_map_len]) rfl rfl (by simp [rcells, RT.cells, CT.fine, T.fine]) (by exact ⟨.inr ⟨0, _, _, rfl, .head _, .head _⟩, trivial, trivial, trivial⟩) rfl rfl, ?_⟩
  simp only [runH, runX, bi, go_sem, setCells, setIn]
  refine vw_block ?_
  by_cases h0 : b = 0
  · rw [if_pos h0] at hC
    have rP := runs_54 v L hL e
    generalize drawBad L e = x at rP hC
    obtain ⟨rfl, rfl⟩ := hC
    subst h0
    refine vw_go rfl ?_; simp only [go_sem, setCells, setIn]
    refine vw_cond (t := true) rfl (fun _ => ?_) (fun h => nomatch h)
    have B1 : ¬ (its.length + 1 + 1) * (40 + 1) > bigRow := big41 (by omega)
    refine vw_last rfl ?_; simp only [bi, go_sem, setCells, setIn]
    refine ⟨_, _, call_pt [0] 0 Tryz.func54 (rP) rfl rfl rfl rfl rfl rfl rfl rfl (by simp [lendAll, lendC, seek, fresh, nav, rcells, RT.cells, VV.cells, tabE_cons, tabS_cons, St.put, ev, lit, take_map_len]) rfl rfl (by simp [rcells, RT.cells, CT.fine, T.fine]) (by exact ⟨.inr ⟨0, _, _, rfl, .head _, .head _⟩, trivial, trivial, trivial⟩) rfl rfl, ?_⟩
    simp only [runH, runX, bi, B1, range1, List.replicate_succ, List.replicate_zero, List.flatten_cons, List.flatten_nil, List.range_zero, gt_iff_lt, List.drop_length, go_sem, setCells, setIn]
    refine (n_block (n_then ?_))
    have l2 : its.length + 1 ≤ (its.map iRow ++ [[T.str x, T.bool false, T.str (⟨#[]⟩ : ByteArray)]]).length := by simp
    have bd : List.take (its.length + 1) (its.map iRow ++ [[T.str x, T.bool false, T.str (⟨#[]⟩ : ByteArray)]]) = (its ++ ([(x, false, (⟨#[]⟩ : ByteArray))] : List It3)).map iRow := by rw [List.map_append]; exact List.take_of_length_le (by simp [iRow])
    refine vw_go rfl ?_; simp only [go_sem, setCells, setIn]
    exact vw_ret (e_ret (ret_b rfl rfl (by simp [RB]) rfl (by simp only [takeCs, takeC, bd, l2, List.drop_length, go_sem, setCells, setIn]; rfl) (by exact ⟨⟨by simp, _, rfl, rfl, rfl, rfl⟩, trivial⟩)))
  rw [if_neg h0] at hC
  refine vw_go rfl ?_; simp only [h0, go_sem, setCells, setIn]
  refine vw_cond (t := false) rfl (fun h => nomatch h) (fun _ => ?_)
  by_cases h1 : b = 1
  · rw [if_pos h1] at hC
    obtain ⟨rfl, rfl⟩ := hC
    subst h1
    refine vw_go rfl ?_; simp only [go_sem, setCells, setIn]
    refine vw_cond (t := true) rfl (fun _ => ?_) (fun h => nomatch h)
    refine vw_go rfl ?_; simp only [bi, go_sem, setCells, setIn]
    by_cases hp : (0 : Int) < its.length
    · refine vw_cond (t := true) (by simp [ev, tabE_cons]; omega) (fun _ => ?_) (fun h => nomatch h)
      have l1 : 1 ≤ its.length := by omega
      refine vw_last rfl ?_; simp only [l1, go_sem, setCells, setIn]
      refine (n_block (n_then ?_))
      have l2 : 1 + (its.length - 1) ≤ its.length := by omega
      have bd : List.take (its.length - 1) (List.drop 1 (its.map iRow)) = (its.drop 1).map iRow := by rw [← List.map_drop]; exact List.take_of_length_le (by simp)
      refine vw_go rfl ?_; simp only [go_sem, setCells, setIn]
      exact vw_ret (e_ret (ret_b rfl rfl (by simp [RB]) rfl (by simp only [takeCs, takeC, bd, l2, List.drop_length, go_sem, setCells, setIn]; rfl) (by exact ⟨⟨by simp, _, rfl, rfl, rfl, rfl⟩, trivial⟩)))
    · have : its = [] := List.eq_nil_of_length_eq_zero (by omega)
      subst this
      refine vw_cond (t := false) rfl (fun h => nomatch h) (fun _ => ?_)
      refine vw_skip (n_block (n_then ?_))
      refine vw_go rfl ?_; simp only [go_sem, setCells, setIn]
      exact vw_ret (e_ret (ret_b rfl rfl (by simp [RB]) rfl (by simp only [takeCs, takeC, List.drop_length, go_sem, setCells, setIn]; rfl) (by exact ⟨⟨by simp, _, rfl, rfl, rfl, rfl⟩, trivial⟩)))
  rw [if_neg h1] at hC
  refine vw_go rfl ?_; simp only [h1, go_sem, setCells, setIn]
  refine vw_cond (t := false) rfl (fun h => nomatch h) (fun _ => ?_)
  by_cases h2 : b = 2
  · rw [if_pos h2] at hC
    obtain ⟨rfl, rfl⟩ := hC
    subst h2
    refine vw_go rfl ?_; simp only [go_sem, setCells, setIn]
    refine vw_cond (t := true) rfl (fun _ => ?_) (fun h => nomatch h)
    refine vw_go rfl ?_; simp only [bi, go_sem, setCells, setIn]
    cases its with
    | nil =>
      refine vw_cond (t := false) rfl (fun h => nomatch h) (fun _ => ?_)
      refine vw_skip (n_block (n_then ?_))
      refine vw_go rfl ?_; simp only [go_sem, setCells, setIn]
      exact vw_ret (e_ret (ret_b rfl rfl (by simp [RB]) rfl (by simp only [takeCs, takeC, List.drop_length, go_sem, setCells, setIn]; rfl) (by exact ⟨⟨by simp, _, rfl, rfl, rfl, rfl⟩, trivial⟩)))
    | cons x r =>
      have hp : (0 : Int) < ((x :: r).length : Int) := by simp
      have e0 : (x :: r).map iRow = [T.str x.1, T.bool x.2.1, T.str x.2.2] :: r.map iRow := rfl
      refine vw_cond (t := true) (by simp [ev, tabE_cons, hp]) (fun _ => ?_) (fun h => nomatch h)
      have hp2 : (0 : Int) < ((r.length + 1 : Nat) : Int) := by omega
      have hp3 : 0 < r.length + 1 := Nat.succ_pos _
      refine vw_last rfl ?_; simp only [hp2, hp3, e0, List.length_cons, go_sem, setCells, setIn]
      refine (n_block (n_then ?_))
      have bd : List.take (r.length + 1) ([T.str x.1, T.bool x.2.1, T.str (⟨#[113]⟩ : ByteArray)] :: r.map iRow) = (putAtL (x :: r) 0 ⟨#[113]⟩).map iRow := List.take_of_length_le (by simp)
      refine vw_go rfl ?_; simp only [go_sem, setCells, setIn]
      exact vw_ret (e_ret (ret_b rfl rfl (by simp [RB]) rfl (by simp only [takeCs, takeC, bd, List.drop_length, List.length_cons, List.length_map, go_sem, setCells, setIn]; rfl) (by exact ⟨⟨by simp, _, rfl, rfl, rfl, rfl⟩, trivial⟩)))
  rw [if_neg h2] at hC
  refine vw_go rfl ?_; simp only [h2, go_sem, setCells, setIn]
  refine vw_cond (t := false) rfl (fun h => nomatch h) (fun _ => ?_)
  by_cases h3 : b = 3
  · rw [if_pos h3] at hC
    obtain ⟨rfl, rfl⟩ := hC
    subst h3
    refine vw_go rfl ?_; simp only [go_sem, setCells, setIn]
    refine vw_cond (t := true) rfl (fun _ => ?_) (fun h => nomatch h)
    refine vw_go rfl ?_; simp only [range1, List.replicate_succ, List.replicate_zero, List.flatten_cons, List.flatten_nil, List.range_zero, gt_iff_lt, go_sem, setCells, setIn]
    have w0 : IntKind.wrap .i64 ((its.length : Int) - 1) = (its.length : Int) - 1 := wrap_i64 (by omega) (by omega)
    refine vw_seq ?_
    refine vw_go rfl ?_; simp only [bi, w0, go_sem, setCells, setIn]
    refine vw_block ?_
    refine vw_loop_tab (α := Nat × List It3 × List Path) (fun x => x.1) (fun x => ⟨tabE [(0, .ptr 0 [] 0 0 0), (3, .al 1 [] 0 3 0 its.length), (4, .al 2 [] 0 3 0 x.2.1.length), (5, .c (.int .i64 ((x.1 : Int) - 1)))],
        tabS [(0, some ⟨true, 3, [[.held v 1 (L.map bRow), .int .i64 C.i, .int .i64 C.h]], [[], []]⟩), (1, some ⟨false, 3, its.map iRow, []⟩), (2, some ⟨false, 3, x.2.1.map iRow, x.2.2⟩)], 3⟩)
      (fun x => x.1 ≤ its.length ∧ x.2.1 = (its.drop x.1).reverse) (x := (its.length, [], [])) ?round ?h0 ?hn
    case h0 => exact ⟨Nat.le_refl _, by rw [List.drop_length]; rfl⟩
    case hn =>
      refine norm_to [(0, 0), (67585, 1), (458753, 2)] rfl ?_ ?_ <;> simp only [go_sem]
    rintro ⟨n, q, lg⟩ ⟨hn, hq⟩
    simp only at hn hq
    refine vw_seq ?_
    by_cases hc : (0 : Int) ≤ (n : Int) - 1
    case neg =>
      obtain rfl : n = 0 := by omega
      rw [List.drop_zero] at hq
      subst hq
      refine vw_go rfl ?_; simp only [hc, go_sem, setCells, setIn]
      refine vw_cond (t := false) rfl (fun h => nomatch h) (fun _ => ?_)
      refine vw_exit (x_then (x_then (x_block (n_then ?_))))
      refine vw_last rfl ?_; simp only [go_sem, setCells, setIn]
      refine (n_block (n_then ?_))
      refine vw_go rfl ?_; simp only [go_sem, setCells, setIn]
      have bl : List.take its.reverse.length (its.reverse.map iRow) = its.reverse.map iRow := List.take_of_length_le (by simp)
      exact vw_ret (e_ret (ret_b rfl rfl (by simp [RB]) rfl (by simp only [takeCs, takeC, bl, List.drop_length, go_sem, setCells, setIn]; rfl) (by exact ⟨⟨by simp, _, rfl, rfl, rfl, rfl⟩, trivial⟩)))
    obtain ⟨i, rfl⟩ : ∃ i, n = i + 1 := ⟨n - 1, by omega⟩
    obtain ⟨x, hx⟩ : ∃ x, its[i]? = some x := ⟨_, List.getElem?_eq_getElem (by omega)⟩
    have e0 : ((i + 1 : Nat) : Int) - 1 = (i : Int) := by omega
    rw [e0] at hc
    have hr := rev_step hx
    rw [← hq] at hr
    have hin : i < its.length := by omega
    have hii : (i : Int) < its.length := by omega
    have hql : q.length ≤ 11 := by rw [hq]; simp; omega
    have bq : List.take q.length (q.map iRow) = q.map iRow := List.take_of_length_le (by simp)
    have B1 : ¬ (q.length + 1 + 1) * (40 + 1) > bigRow := big41 (by omega)
    have w3 : IntKind.wrap .i64 ((i:Int) - 1) = (i:Int) - 1 := wrap_i64 (by omega) (by omega)
    refine vw_go rfl ?_; simp only [e0, hc, go_sem, setCells, setIn]
    refine vw_cond (t := true) rfl (fun _ => ?_) (fun h => nomatch h)
    refine vw_skip (n_then ?_)
    refine vw_seq ?_
    refine vw_block ?_
    refine vw_last rfl ?_; simp only [hc, hii, hin, Int.toNat_natCast, getD_map_of hx, iRow, B1, bq, List.drop_length, range1, List.replicate_succ, List.replicate_zero, List.flatten_cons, List.flatten_nil, List.range_zero, gt_iff_lt, go_sem, setCells, setIn]
    refine (n_block (n_then ?_))
    refine vw_last rfl ?_; simp only [w3, go_sem, setCells, setIn]
    refine (n_then ?_)
    have e4 : q.map iRow ++ [[.str x.1, .bool x.2.1, .str x.2.2]] = (q ++ [x]).map iRow := by simp [iRow]
    rw [e4]
    refine ⟨(i, q ++ [x], []), by simp only; omega, ⟨by simp only; omega, hr.symm⟩, ?_⟩
    have e5 : q.length + 1 = (q ++ [x]).length := by simp
    rw [e5]
    generalize q ++ [x] = q'
    refine norm_to [(0, 0), (1, 1), (71683, 2)] rfl ?_ ?_ <;> simp only [go_sem]
  rw [if_neg h3] at hC
  obtain ⟨rfl, rfl⟩ := hC
  refine vw_go rfl ?_; simp only [h3, go_sem, setCells, setIn]
  refine vw_cond (t := false) rfl (fun h => nomatch h) (fun _ => ?_)
  refine vw_skip (n_block (n_then ?_))
  refine vw_go rfl ?_; simp only [go_sem, setCells, setIn]
  exact vw_ret (e_ret (ret_b rfl rfl (by simp [RB]) rfl (by simp only [takeCs, takeC, bi, List.drop_length, go_sem, setCells, setIn]; rfl) (by exact ⟨⟨by simp, _, rfl, rfl, rfl, rfl⟩, trivial⟩)))
theorem drawI_fit (L : List UInt8) (c : Cur) : (drawI L c).1.length ≤ 12 ∧ ∀ x ∈ (drawI L c).1, x.1.size ≤ 100 := by
  have hN := itemsOk_N (vol_items (l := (drawRight L c).1))
  have h1 := hN.len
  have h2 : ∀ x ∈ itemsV (drawRight L c).1, x.1.size ≤ 100 := fun x hx => pathOk_size (hN.pth x hx).1
  have h3 : ∀ d, (drawBad L d).size ≤ 100 := fun d => by
    unfold drawBad drawPath
    have hb : ∀ x ∈ badL, x.size ≤ 100 := by decide
    have hp : ∀ x ∈ pathL, x.size ≤ 100 := by decide
    split
    · exact hb _ (pickV_mem L _ _ (by decide))
    · exact hp _ (pickV_mem L _ _ (by decide))
  unfold drawI
  generalize itemsV (drawRight L c).1 = its at h1 h2
  split
  · refine ⟨by simp; omega, fun x hx => ?_⟩
    rcases List.mem_append.1 hx with h | h
    · exact h2 x h
    · rw [List.mem_singleton] at h; rw [h]; exact h3 _
  split
  · exact ⟨by simp; omega, fun x hx => h2 x (List.mem_of_mem_drop hx)⟩
  split
  · unfold putAtL
    cases e : its[0]? with
    | none => exact ⟨by simp only; omega, h2⟩
    | some x =>
      refine ⟨by simp; omega, fun y hy => ?_⟩
      rcases List.mem_or_eq_of_mem_set hy with h | h
      · exact h2 y h
      · rw [h]; exact h2 x (List.mem_of_getElem? e)
  split
  · exact ⟨by simp; omega, fun x hx => h2 x (List.mem_reverse.1 hx)⟩
  · exact ⟨by simp only; omega, h2⟩
theorem runs_22 (L : List UInt8) (hL : L.length < 2 ^ 60) (l : List It3) (hl : l = (drawI L (newC L)).1) :
    Runs Tryz.prog 22 [.one (.v (.list false 1 (L.map bRow)))] [.one (.v (.list true 3 (l.map iRow)))] [] := by
  refine runs_hold (fun v => ?_)
  refine runs_tab (tab := [(0, .c (.held v 1 (L.map bRow)))]) (rts := []) (n := 6) (k := 1) Tryz.func22 rfl rfl (by simp) rfl (fun t => ?_) rfl ?_
  · rcases t with _ | t <;> rfl
  have rN := runs_45 v L hL _ rfl
  generalize newC L = c at rN hl
  have rP := runs_51 v L hL c l (drawI L c).2 (by rw [hl])
  have bl : List.take l.length (l.map iRow) = l.map iRow := List.take_of_length_le (by simp)
  refine vw_go rfl ?_; simp only [go_sem, setCells, setIn]
  refine vw_go rfl ?_; simp only [go_sem, setCells, setIn]
  refine ⟨_, _, call_fine [0] Tryz.func45 (rN) rfl rfl rfl rfl rfl rfl rfl (by simp [lendAll, lendC, seek, fresh, nav, rcells, RT.cells, VV.cells, tabE_cons, tabS_cons, ev, take_map_len]) rfl (by simp [rcells, RT.cells, CT.fine, fineR, T.fine, Known, VV.cells, ev, tabE_cons]) rfl rfl, ?_⟩
  simp only [runH, runX, go_sem, setCells, setIn]
  refine ⟨_, _, call_pt [0] 66561 Tryz.func51 (rP) rfl rfl rfl rfl rfl rfl rfl rfl (by simp [lendAll, lendC, seek, fresh, nav, rcells, RT.cells, VV.cells, tabE_cons, tabS_cons, St.put, ev, lit, take_map_len, sRow_r1, sRow_comp, sRow_clean, iRow_r1, iRow_clean, take_map_len, iRow_fine]) rfl rfl (by simp [rcells, RT.cells, CT.fine, T.fine, sRow_r1, sRow_comp, sRow_clean, iRow_r1, iRow_clean, take_map_len, iRow_fine]) (by exact ⟨.inr ⟨66561, _, _, rfl, .head _, .head _⟩, trivial, trivial, trivial⟩) rfl rfl, ?_⟩
  simp only [runH, runX, go_sem, setCells, setIn]
  exact vw_ret (e_ret (ret_by rfl rfl (by simp [RB]) rfl (by simp only [takeCs, takeC, go_sem, setCells, setIn])))
theorem runs_23 (L : List UInt8) (hL : L.length < 2 ^ 60) (l : List It3) (hl : l = (drawI L (newC L)).1) (s : ByteArray) (hs : s = drawBad L (drawI L (newC L)).2) :
    Runs Tryz.prog 23 [.one (.v (.list false 1 (L.map bRow)))] [.one (.v (.list true 3 (l.map iRow))), .one (.v (.str s))] [] := by
  refine runs_hold (fun v => ?_)
  refine runs_tab (tab := [(0, .c (.held v 1 (L.map bRow)))]) (rts := []) (n := 13) (k := 1) Tryz.func23 rfl rfl (by simp) rfl (fun t => ?_) rfl ?_
  · rcases t with _ | t <;> rfl
  have rN := runs_45 v L hL _ rfl
  generalize newC L = c at rN hl hs
  have rP := runs_51 v L hL c l (drawI L c).2 (by rw [hl])
  generalize (drawI L c).2 = d at rP hs
  have rB := runs_54 v L hL d
  rw [← hs] at rB
  have bl : List.take l.length (l.map iRow) = l.map iRow := List.take_of_length_le (by simp)
  refine vw_go rfl ?_; simp only [go_sem, setCells, setIn]
  refine vw_go rfl ?_; simp only [go_sem, setCells, setIn]
  refine ⟨_, _, call_fine [0] Tryz.func45 (rN) rfl rfl rfl rfl rfl rfl rfl (by simp [lendAll, lendC, seek, fresh, nav, rcells, RT.cells, VV.cells, tabE_cons, tabS_cons, ev, take_map_len]) rfl (by simp [rcells, RT.cells, CT.fine, fineR, T.fine, Known, VV.cells, ev, tabE_cons]) rfl rfl, ?_⟩
  simp only [runH, runX, go_sem, setCells, setIn]
  refine vw_go rfl ?_; simp only [go_sem, setCells, setIn]
  refine ⟨_, _, call_pt [0] 66561 Tryz.func51 (rP) rfl rfl rfl rfl rfl rfl rfl rfl (by simp [lendAll, lendC, seek, fresh, nav, rcells, RT.cells, VV.cells, tabE_cons, tabS_cons, St.put, ev, lit, take_map_len, sRow_r1, sRow_comp, sRow_clean, iRow_r1, iRow_clean, take_map_len, iRow_fine]) rfl rfl (by simp [rcells, RT.cells, CT.fine, T.fine, sRow_r1, sRow_comp, sRow_clean, iRow_r1, iRow_clean, take_map_len, iRow_fine]) (by exact ⟨.inr ⟨66561, _, _, rfl, .head _, .head _⟩, trivial, trivial, trivial⟩) rfl rfl, ?_⟩
  simp only [runH, runX, go_sem, setCells, setIn]
  refine vw_go rfl ?_; simp only [go_sem, setCells, setIn]
  refine ⟨_, _, call_pt [0] 66561 Tryz.func54 (rB) rfl rfl rfl rfl rfl rfl rfl rfl (by simp [lendAll, lendC, seek, fresh, nav, rcells, RT.cells, VV.cells, tabE_cons, tabS_cons, St.put, ev, lit, take_map_len]) rfl rfl (by simp [rcells, RT.cells, CT.fine, T.fine]) (by exact ⟨.inr ⟨66561, _, _, rfl, .head _, .head _⟩, trivial, trivial, trivial⟩) rfl rfl, ?_⟩
  simp only [runH, runX, go_sem, setCells, setIn]
  exact vw_ret (e_ret (ret_by rfl rfl (by simp [RB]) rfl (by simp only [takeCs, takeC, go_sem, setCells, setIn])))
theorem runs_20 (L : List UInt8) (hL : L.length < 2 ^ 60) (l : List It3) (hl : l = (drawI L (newC L)).1) (o : OpV) (ho : o = (drawOpBad L (drawI L (newC L)).2).1) :
    Runs Tryz.prog 20 [.one (.v (.list false 1 (L.map bRow)))] [.one (.v (.list true 3 (l.map iRow))), .agg [.v (.int .i64 o.kind), .v (.str o.path), .v (.str o.to), .v (.str o.data)]] [] := by
  refine runs_hold (fun v => ?_)
  refine runs_tab (tab := [(0, .c (.held v 1 (L.map bRow)))]) (rts := []) (n := 13) (k := 1) Tryz.func20 rfl rfl (by simp) rfl (fun t => ?_) rfl ?_
  · rcases t with _ | t <;> rfl
  have rN := runs_45 v L hL _ rfl
  generalize newC L = c at rN hl ho
  have rP := runs_51 v L hL c l (drawI L c).2 (by rw [hl])
  generalize (drawI L c).2 = d at rP ho
  have rB := runs_52 v L hL d o (drawOpBad L d).2 (by rw [ho])
  have bl : List.take l.length (l.map iRow) = l.map iRow := List.take_of_length_le (by simp)
  refine vw_go rfl ?_; simp only [go_sem, setCells, setIn]
  refine vw_go rfl ?_; simp only [go_sem, setCells, setIn]
  refine ⟨_, _, call_fine [0] Tryz.func45 (rN) rfl rfl rfl rfl rfl rfl rfl (by simp [lendAll, lendC, seek, fresh, nav, rcells, RT.cells, VV.cells, tabE_cons, tabS_cons, ev, take_map_len]) rfl (by simp [rcells, RT.cells, CT.fine, fineR, T.fine, Known, VV.cells, ev, tabE_cons]) rfl rfl, ?_⟩
  simp only [runH, runX, go_sem, setCells, setIn]
  refine vw_go rfl ?_; simp only [go_sem, setCells, setIn]
  refine ⟨_, _, call_pt [0] 66561 Tryz.func51 (rP) rfl rfl rfl rfl rfl rfl rfl rfl (by simp [lendAll, lendC, seek, fresh, nav, rcells, RT.cells, VV.cells, tabE_cons, tabS_cons, St.put, ev, lit, take_map_len, sRow_r1, sRow_comp, sRow_clean, iRow_r1, iRow_clean, take_map_len, iRow_fine]) rfl rfl (by simp [rcells, RT.cells, CT.fine, T.fine, sRow_r1, sRow_comp, sRow_clean, iRow_r1, iRow_clean, take_map_len, iRow_fine]) (by exact ⟨.inr ⟨66561, _, _, rfl, .head _, .head _⟩, trivial, trivial, trivial⟩) rfl rfl, ?_⟩
  simp only [runH, runX, go_sem, setCells, setIn]
  refine vw_go rfl ?_; simp only [go_sem, setCells, setIn]
  refine ⟨_, _, call_pt [0] 66561 Tryz.func52 (rB) rfl rfl rfl rfl rfl rfl rfl rfl (by simp [lendAll, lendC, seek, fresh, nav, rcells, RT.cells, VV.cells, tabE_cons, tabS_cons, St.put, ev, lit, take_map_len]) rfl rfl (by simp [rcells, RT.cells, CT.fine, T.fine]) (by exact ⟨.inr ⟨66561, _, _, rfl, .head _, .head _⟩, trivial, trivial, trivial⟩) rfl rfl, ?_⟩
  simp only [runH, runX, go_sem, setCells, setIn]
  exact vw_ret (e_ret (ret_by rfl rfl (by simp [RB]) rfl (by simp only [takeCs, takeC, go_sem, setCells, setIn])))
def drawSame (L : List UInt8) : List It3 × List It3 :=
  if belV L (drawI L (newC L)).2 2 = 0 then ((drawI L (newC L)).1, (drawI L (newC L)).1.reverse) else ((drawI L (newC L)).1, (drawI L (byteC L (drawI L (newC L)).2)).1)
set_option maxHeartbeats 1000000 in
theorem runs_21 (L : List UInt8) (hL : L.length < 2 ^ 60) (a b : List It3) (hab : (a, b) = drawSame L) :
    Runs Tryz.prog 21 [.one (.v (.list false 1 (L.map bRow)))] [.one (.v (.list true 3 (a.map iRow))), .one (.v (.list true 3 (b.map iRow)))] [] := by
  refine runs_hold (fun v => ?_)
  refine runs_tab (tab := [(0, .c (.held v 1 (L.map bRow)))]) (rts := []) (n := 34) (k := 1) Tryz.func21 rfl rfl (by simp) rfl (fun t => ?_) rfl ?_
  · rcases t with _ | t <;> rfl
  have rN := runs_45 v L hL _ rfl
  unfold drawSame at hab
  generalize newC L = c at rN hab
  have rP := runs_51 v L hL c (drawI L c).1 (drawI L c).2 rfl
  have hf := drawI_fit L c
  generalize drawI L c = r at rP hab hf
  obtain ⟨its, d⟩ := r
  simp only at rP hab hf
  obtain ⟨h11, _⟩ := hf
  have rO := runs_53 v L hL d 2 (by decide) (by decide)
  generalize byteC L d = e at rO hab
  have rQ := runs_51 v L hL e (drawI L e).1 (drawI L e).2 rfl
  have bi : List.take its.length (its.map iRow) = its.map iRow := List.take_of_length_le (by simp)
  refine vw_go rfl ?_; simp only [go_sem, setCells, setIn]
  refine vw_go rfl ?_; simp only [go_sem, setCells, setIn]
  refine ⟨_, _, call_fine [0] Tryz.func45 (rN) rfl rfl rfl rfl rfl rfl rfl (by simp [lendAll, lendC, seek, fresh, nav, rcells, RT.cells, VV.cells, tabE_cons, tabS_cons, ev, take_map_len]) rfl (by simp [rcells, RT.cells, CT.fine, fineR, T.fine, Known, VV.cells, ev, tabE_cons]) rfl rfl, ?_⟩
  simp only [runH, runX, go_sem, setCells, setIn]
  refine vw_go rfl ?_; simp only [go_sem, setCells, setIn]
  refine ⟨_, _, call_pt [0] 66561 Tryz.func51 (rP) rfl rfl rfl rfl rfl rfl rfl rfl (by simp [lendAll, lendC, seek, fresh, nav, rcells, RT.cells, VV.cells, tabE_cons, tabS_cons, St.put, ev, lit, take_map_len, sRow_r1, sRow_comp, sRow_clean, iRow_r1, iRow_clean, take_map_len, iRow_fine]) rfl rfl (by simp [rcells, RT.cells, CT.fine, T.fine, sRow_r1, sRow_comp, sRow_clean, iRow_r1, iRow_clean, take_map_len, iRow_fine]) (by exact ⟨.inr ⟨66561, _, _, rfl, .head _, .head _⟩, trivial, trivial, trivial⟩) rfl rfl, ?_⟩
  simp only [runH, runX, go_sem, setCells, setIn]
  refine vw_seq ?_
  refine vw_go rfl ?_; simp only [go_sem, setCells, setIn]
  refine ⟨_, _, call_pt [0, 0] 66561 Tryz.func53 (rO) rfl rfl rfl rfl rfl rfl rfl rfl (by simp [lendAll, lendC, seek, fresh, nav, rcells, RT.cells, VV.cells, tabE_cons, tabS_cons, St.put, ev, lit, take_map_len]) rfl rfl (by simp [rcells, RT.cells, CT.fine, T.fine]) (by exact ⟨.inr ⟨66561, _, _, rfl, .head _, .head _⟩, trivial, trivial, trivial⟩) rfl rfl, ?_⟩
  simp only [runH, runX, bi, go_sem, setCells, setIn]
  by_cases h : belV L d 2 = 0
  case neg =>
    rw [if_neg h] at hab
    generalize drawI L e = r2 at rQ hab
    obtain ⟨b', e2⟩ := r2
    simp only at rQ hab
    obtain ⟨rfl, rfl⟩ := hab
    have bb : List.take b.length (b.map iRow) = b.map iRow := List.take_of_length_le (by simp)
    refine vw_cond (t := false) (by simp [ev, tabE_cons, h]) (fun h => nomatch h) (fun _ => ?_)
    refine vw_skip (n_then ?_)
    refine vw_go rfl ?_; simp only [bi, go_sem, setCells, setIn]
    refine ⟨_, _, call_pt [0] 66561 Tryz.func51 (rQ) rfl rfl rfl rfl rfl rfl rfl rfl (by simp [lendAll, lendC, seek, fresh, nav, rcells, RT.cells, VV.cells, tabE_cons, tabS_cons, St.put, ev, lit, take_map_len, sRow_r1, sRow_comp, sRow_clean, iRow_r1, iRow_clean, take_map_len, iRow_fine]) rfl rfl (by simp [rcells, RT.cells, CT.fine, T.fine, sRow_r1, sRow_comp, sRow_clean, iRow_r1, iRow_clean, take_map_len, iRow_fine]) (by exact ⟨.inr ⟨66561, _, _, rfl, .head _, .head _⟩, trivial, trivial, trivial⟩) rfl rfl, ?_⟩
    simp only [runH, runX, bi, bb, go_sem, setCells, setIn]
    exact vw_ret (e_ret (ret_by rfl rfl (by simp [RB]) rfl (by simp only [takeCs, takeC, go_sem, setCells, setIn])))
  rw [if_pos h] at hab
  obtain ⟨rfl, rfl⟩ := hab
  clear rQ
  refine vw_cond (t := true) (by simp [ev, tabE_cons, h]) (fun _ => ?_) (fun h => nomatch h)
  have w0 : IntKind.wrap .i64 ((a.length : Int) - 1) = (a.length : Int) - 1 := wrap_i64 (by omega) (by omega)
  refine vw_go rfl ?_; simp only [range1, List.replicate_succ, List.replicate_zero, List.flatten_cons, List.flatten_nil, List.range_zero, gt_iff_lt, go_sem, setCells, setIn]
  refine vw_seq ?_
  refine vw_go rfl ?_; simp only [bi, w0, go_sem, setCells, setIn]
  refine vw_block ?_
  refine vw_loop_tab (α := Nat × List It3 × List Path) (fun x => x.1) (fun x => ⟨tabE [(5, .al 1 [] 0 3 0 a.length), (6, .al 2 [] 0 3 0 x.2.1.length), (7, .c (.int .i64 ((x.1 : Int) - 1)))],
      tabS [(1, some ⟨false, 3, a.map iRow, []⟩), (2, some ⟨false, 3, x.2.1.map iRow, x.2.2⟩)], 3⟩)
    (fun x => x.1 ≤ a.length ∧ x.2.1 = (a.drop x.1).reverse) (x := (a.length, [], [])) ?round ?h0 ?hn
  case h0 => exact ⟨Nat.le_refl _, by rw [List.drop_length]; rfl⟩
  case hn =>
    refine norm_to [(132097, 1), (262145, 2)] rfl ?_ ?_ <;> simp only [go_sem]
  rintro ⟨n, q, lg⟩ ⟨hn, hq⟩
  simp only at hn hq
  refine vw_seq ?_
  by_cases hc : (0 : Int) ≤ (n : Int) - 1
  case neg =>
    obtain rfl : n = 0 := by omega
    rw [List.drop_zero] at hq
    subst hq
    refine vw_go rfl ?_; simp only [hc, go_sem, setCells, setIn]
    refine vw_cond (t := false) rfl (fun h => nomatch h) (fun _ => ?_)
    refine vw_exit (x_then (x_then (x_block (n_then ?_))))
    have bl : List.take a.reverse.length (a.reverse.map iRow) = a.reverse.map iRow := List.take_of_length_le (by simp)
    refine vw_go rfl ?_; simp only [bi, bl, go_sem, setCells, setIn]
    exact vw_ret (r_then (e_ret (ret_by rfl rfl (by simp [RB]) rfl (by simp only [takeCs, takeC, go_sem, setCells, setIn]))))
  obtain ⟨i, rfl⟩ : ∃ i, n = i + 1 := ⟨n - 1, by omega⟩
  obtain ⟨x, hx⟩ : ∃ x, a[i]? = some x := ⟨_, List.getElem?_eq_getElem (by omega)⟩
  have e0 : ((i + 1 : Nat) : Int) - 1 = (i : Int) := by omega
  rw [e0] at hc
  have hr := rev_step hx
  rw [← hq] at hr
  have hin : i < a.length := by omega
  have hii : (i : Int) < a.length := by omega
  have hql : q.length ≤ 12 := by rw [hq]; simp; omega
  have bq : List.take q.length (q.map iRow) = q.map iRow := List.take_of_length_le (by simp)
  have B1 : ¬ (q.length + 1 + 1) * (40 + 1) > bigRow := big41 (by omega)
  have w3 : IntKind.wrap .i64 ((i:Int) - 1) = (i:Int) - 1 := wrap_i64 (by omega) (by omega)
  refine vw_go rfl ?_; simp only [e0, hc, go_sem, setCells, setIn]
  refine vw_cond (t := true) rfl (fun _ => ?_) (fun h => nomatch h)
  refine vw_skip (n_then ?_)
  refine vw_seq ?_
  refine vw_block ?_
  refine vw_last rfl ?_; simp only [hc, hii, hin, Int.toNat_natCast, getD_map_of hx, iRow, B1, bq, List.drop_length, range1, List.replicate_succ, List.replicate_zero, List.flatten_cons, List.flatten_nil, List.range_zero, gt_iff_lt, go_sem, setCells, setIn]
  refine (n_block (n_then ?_))
  refine vw_last rfl ?_; simp only [w3, go_sem, setCells, setIn]
  refine (n_then ?_)
  have e4 : q.map iRow ++ [[.str x.1, .bool x.2.1, .str x.2.2]] = (q ++ [x]).map iRow := by simp [iRow]
  rw [e4]
  refine ⟨(i, q ++ [x], []), by simp only; omega, ⟨by simp only; omega, hr.symm⟩, ?_⟩
  have e5 : q.length + 1 = (q ++ [x]).length := by simp
  rw [e5]
  generalize q ++ [x] = q'
  refine norm_to [(1, 1), (71683, 2)] rfl ?_ ?_ <;> simp only [go_sem]
end Go.Proofs.YtoenfbbadfcfpaaGreatDoor
namespace Go.Proofs.YtoenfbbadfcfpaaGreatDoor
open Go.VM Go
set_option maxRecDepth 100000
attribute [-go_sem] runW_cons
attribute [local congr] vw_congr runV_congr runH_congr runW_congr runX_congr stuckV_congr stuckX_congr
theorem typed_bytes {k : Nat} {ts : List T} (h : typed Tryz.prog (k + 4) 36 ts) : ∃ l : List UInt8, ts = [.list false 1 (l.map bRow)] ∧ l.length < 2 ^ 63 := by
  simp only [typed, Tryz.underlying36, Tryz.underlying5, cellsOf_5] at h
  obtain ⟨rows, rfl, hlen, hrows⟩ := h
  obtain ⟨l, rfl, hl⟩ := map_of (f := bRow) (Q := fun _ => True) (rows := rows) (fun r hr => by
    obtain ⟨i, rfl, hs⟩ := hrows r hr
    simp only [Lit.wf, Bool.and_eq_true, decide_eq_true_eq] at hs
    have h0 : IntKind.min .u8 = 0 := by decide
    have h1 : IntKind.max .u8 = 255 := by decide
    rw [h0, h1] at hs
    refine ⟨UInt8.ofNat i.toNat, ?_, trivial⟩
    have e : ((UInt8.ofNat i.toNat).toNat : Int) = i := by
      rw [UInt8.toNat_ofNat']; omega
    simp only [bRow, e])
  exact ⟨l, rfl, by simpa using hlen⟩
theorem runs_15 (L : List UInt8) (hL : L.length < 2 ^ 63) : Runs Tryz.prog 15 [.one (.v (.list false 1 (L.map bRow)))] [.one (.v (.bool (decide (1048576 < (L.length : Int)))))] [] := by
  refine runs_tab (tab := [(0, .c (.list false 1 (L.map bRow)))]) (rts := []) (n := 6) (k := 1) Tryz.func15 rfl rfl (by simp) rfl (fun t => ?_) rfl ?_
  · rcases t with _ | t <;> rfl
  refine vw_go rfl ?_; simp only [go_sem, setCells, setIn]
  refine vw_go rfl ?_; simp only [go_sem, setCells, setIn]
  exact vw_ret (e_ret (ret_of rfl rfl (by simp [RB]) rfl rfl))
end Go.Proofs.YtoenfbbadfcfpaaGreatDoor
namespace Go.Proofs.YtoenfbbadfcfpaaGreatDoor
open Go.VM Go
set_option maxRecDepth 100000
attribute [-go_sem] runW_cons
attribute [local congr] vw_congr runV_congr runH_congr runW_congr runX_congr stuckV_congr stuckX_congr
theorem runs_35 (o : OpV) (hp : o.path.size ≤ 2 ^ 20) (ht : o.to.size ≤ 2 ^ 20) : Runs Tryz.prog 35 [.agg [.v (.int .i64 o.kind), .v (.str o.path), .v (.str o.to), .v (.str o.data)]] [.one (.v (.bool (opOk o)))] [] := by
  refine runs_tab (tab := [(0, .agg [.c (.int .i64 o.kind), .c (.str o.path), .c (.str o.to), .c (.str o.data)])]) (rts := []) (n := 27) (k := 4) Tryz.func35 rfl rfl (by simp) rfl (fun t => ?_) rfl ?_
  · cases t <;> rfl
  unfold opOk
  refine vw_go rfl ?_; simp only [go_sem, setCells, setIn]
  refine vw_go rfl ?_; simp only [go_sem, setCells, setIn]
  refine ⟨_, _, call_rx [0, 0, 0] Tryz.func66 (runs_66 o.kind 1 7) rfl rfl rfl rfl rfl rfl rfl (by simp [lendAll, lendC, seek, fresh, nav, rcells, RT.cells, VV.cells, tabE_cons, tabS_cons, ev, take_map_len, lit]) rfl (by simp [rcells, RT.cells, CT.clean, T.clean, lit]) rfl rfl, ?_⟩
  cases inB o.kind 1 7
  · simp only [runH, runX, go_sem, setCells, setIn]
    exact vw_ret (e_ret (ret_of rfl rfl (by simp [RB]) rfl rfl))
  simp only [runH, runX, go_sem, setCells, setIn]
  refine ⟨_, _, call_rx [0] Tryz.func67 (runs_67 o.path hp) rfl rfl rfl rfl rfl rfl rfl (by simp [lendAll, lendC, seek, fresh, nav, rcells, RT.cells, VV.cells, tabE_cons, tabS_cons, ev, take_map_len, iRow_r1, iRow_clean, sRow_r1, sRow_comp, sRow_clean]) rfl (by simp [rcells, RT.cells, CT.clean, T.clean, iRow_r1, iRow_clean, sRow_r1, sRow_comp, sRow_clean]) rfl rfl, ?_⟩
  cases pathOk o.path
  · simp only [runH, runX, go_sem, setCells, setIn]
    exact vw_ret (e_ret (ret_of rfl rfl (by simp [RB]) rfl rfl))
  by_cases h2 : o.kind = 6
  case neg =>
    by_cases h1 : (o.data.size : Int) ≤ 60
    · simp only [runH, runX, h1, h2, go_sem, setCells, setIn]
      exact vw_ret (e_ret (ret_of rfl rfl (by simp [RB]) rfl rfl))
    · simp only [runH, runX, h1, h2, go_sem, setCells, setIn]
      exact vw_ret (e_ret (ret_of rfl rfl (by simp [RB]) rfl rfl))
  simp only [runH, runX, h2, go_sem, setCells, setIn]
  refine ⟨_, _, call_rx [0] Tryz.func67 (runs_67 o.to ht) rfl rfl rfl rfl rfl rfl rfl (by simp [lendAll, lendC, seek, fresh, nav, rcells, RT.cells, VV.cells, tabE_cons, tabS_cons, ev, take_map_len, iRow_r1, iRow_clean, sRow_r1, sRow_comp, sRow_clean]) rfl (by simp [rcells, RT.cells, CT.clean, T.clean, iRow_r1, iRow_clean, sRow_r1, sRow_comp, sRow_clean]) rfl rfl, ?_⟩
  cases pathOk o.to
  · simp only [runH, runX, go_sem, setCells, setIn]
    exact vw_ret (e_ret (ret_by rfl rfl (by simp [RB]) rfl (by simp [takeCs, takeC, go_sem, setCells, setIn])))
  by_cases h1 : (o.data.size : Int) ≤ 60
  · simp only [runH, runX, h1, h2, go_sem, setCells, setIn]
    exact vw_ret (e_ret (ret_of rfl rfl (by simp [RB]) rfl rfl))
  · simp only [runH, runX, h1, h2, go_sem, setCells, setIn]
    exact vw_ret (e_ret (ret_of rfl rfl (by simp [RB]) rfl rfl))
set_option maxHeartbeats 1000000 in
theorem runs_39 (l : List It3) (hok : itemsOk l = true) (o : OpV) (hp : o.path.size ≤ 2 ^ 19) (h5 : o.kind ≠ 5) (h6 : o.kind ≠ 6) (R : Plain3) (hR : R = doL l o) :
    Runs Tryz.prog 39 [.one (.v (.list true 3 (l.map iRow))), .agg [.v (.int .i64 o.kind), .v (.str o.path), .v (.str o.to), .v (.str o.data)]] [.one (.v (.list true 3 (R.1.map iRow))), .one (.v (.int .i64 R.2.1)), .one (.v (.str R.2.2))] [] := by
  refine runs_tab (tab := [(0, .al 0 [] 0 3 0 l.length), (1, .agg [.c (.int .i64 o.kind), .c (.str o.path), .c (.str o.to), .c (.str o.data)])]) (rts := [(0, some ⟨false, 3, l.map iRow, []⟩)]) (n := 55) (k := 5) Tryz.func39 rfl rfl (by simp) rfl (fun t => ?_) rfl ?_
  · rcases t with _ | _ | t <;> simp [envOf, rvv, RT.vv, CT.vv, cvv, tabE_cons, tabE_nil, rcells, RT.cells]
  obtain ⟨h11, h100⟩ := itemsOk_small hok
  have bl : List.take l.length (l.map iRow) = l.map iRow := List.take_of_length_le (by simp)
  have rF := runs_27 l o.path (by omega)
  change Runs _ _ _ [.one (.v (.int .i64 (findF l o.path)))] _ at rF
  have rT := runs_68 l (by omega) o.path
  have rI := runs_56 l o.path (by omega)
  have rL := runs_75 l h11 h100 o.path hp (namesL_nodup hok o.path)
  rw [← listL_listI hok] at rL
  have hth : thereB l o.path = true ↔ (o.path = ⟨#[]⟩ ∨ 0 ≤ findF l o.path) := by unfold thereB; simp
  have hie : o.path = ⟨#[]⟩ → isFold l o.path = true := fun h => by unfold isFold; simp [h]
  unfold doL at hR
  rw [if_neg h5, if_neg h6, fold_iff] at hR
  generalize hfi : findF l o.path = fi at rF hth hR
  generalize thereB l o.path = tb at rT hth hR
  generalize isFold l o.path = fb at rI hie hR
  generalize listL l o.path = li at rL hR
  refine vw_go rfl ?_; simp only [go_sem, setCells, setIn]
  refine vw_go rfl ?_; simp only [bl, go_sem, setCells, setIn]
  refine ⟨_, _, call_rx [0, 0] Tryz.func27 (rF) rfl rfl rfl rfl rfl rfl rfl (by simp [lendAll, lendC, seek, fresh, nav, rcells, RT.cells, VV.cells, tabE_cons, tabS_cons, ev, take_map_len, iRow_r1, iRow_clean, sRow_r1, sRow_comp, sRow_clean, bl]) rfl (by simp [rcells, RT.cells, CT.clean, T.clean, iRow_r1, iRow_clean, sRow_r1, sRow_comp, sRow_clean, bl]) rfl rfl, ?_⟩
  simp only [runH, runX, bl, go_sem, setCells, setIn]
  refine vw_seq ?_
  refine vw_block ?_
  refine vw_go rfl ?_; simp only [bl, go_sem, setCells, setIn]
  refine ⟨_, _, call_rx [0, 0] Tryz.func68 (rT) rfl rfl rfl rfl rfl rfl rfl (by simp [lendAll, lendC, seek, fresh, nav, rcells, RT.cells, VV.cells, tabE_cons, tabS_cons, ev, take_map_len, iRow_r1, iRow_clean, sRow_r1, sRow_comp, sRow_clean, bl]) rfl (by simp [rcells, RT.cells, CT.clean, T.clean, iRow_r1, iRow_clean, sRow_r1, sRow_comp, sRow_clean, bl]) rfl rfl, ?_⟩
  cases tb
  · simp only [Bool.false_eq_true, if_false, if_true] at hR
    subst hR
    simp only [runH, runX, bl, go_sem, setCells, setIn]
    refine vw_cond (t := true) rfl (fun _ => ?_) (fun h => nomatch h)
    refine vw_go rfl ?_; simp only [go_sem, setCells, setIn]
    exact vw_ret (r_block (r_then (e_ret (ret_by rfl rfl (by simp [RB]) rfl (by simp only [takeCs, takeC, go_sem, setCells, setIn])))))
  have hne2 : ¬ (if fb = true then (0 : Int) else 4) = 2 := by split <;> decide
  simp only [if_true] at hR
  rw [if_neg hne2] at hR
  simp only [runH, runX, bl, go_sem, setCells, setIn]
  refine vw_cond (t := false) rfl (fun h => nomatch h) (fun _ => ?_)
  refine vw_drawA mixed rfl rfl ?_; intro A hAA
  simp (maxSteps := 1000000) only [bl, go_sem, setCells, setIn, runW_step]
  refine ⟨_, _, _, call_rx_at [0, 0] [0] Tryz.func56 (rI) rfl rfl rfl rfl rfl rfl rfl (fun st1 hst1 => by (try simp only [List.mem_cons, List.not_mem_nil, or_false, false_or, forall_eq_or_imp, forall_eq] at hst1); simp [lendAll, lendC, seek, fresh, nav, rcells, RT.cells, VV.cells, tabE_cons, tabS_cons, ev, take_map_len, hst1, iRow_r1, iRow_clean, sRow_r1, sRow_comp, sRow_clean, bl]) rfl (by simp [rcells, RT.cells, CT.clean, T.clean, iRow_r1, iRow_clean, sRow_r1, sRow_comp, sRow_clean, bl]) rfl rfl, ?_⟩
  by_cases k7 : o.kind = 7
  · cases fb
    · rw [if_pos (by simp [k7])] at hR
      subst hR
      (unfold runX; simp (maxSteps := 1000000) only [bl, k7, go_sem, setCells, setIn, runW_step])
      refine ⟨by subst hAA; unfold allOk; kernel_rfl, ?_⟩
      refine vw_cond (t := true) rfl (fun _ => ?_) (fun h => nomatch h)
      refine vw_go rfl ?_; simp only [go_sem, setCells, setIn]
      refine vw_ret ?_
      repeat (first | refine r_then ?_ | refine r_block ?_)
      exact e_ret (ret_by rfl rfl (by simp [RB]) rfl (by simp only [takeCs, takeC, go_sem, setCells, setIn]))
    rw [if_neg (by simp [k7]), if_pos k7] at hR
    subst hR
    (unfold runX; simp (maxSteps := 1000000) only [bl, k7, go_sem, setCells, setIn, runW_step])
    refine ⟨by subst hAA; unfold allOk; kernel_rfl, ?_⟩
    refine vw_cond (t := false) rfl (fun h => nomatch h) (fun _ => ?_)
    refine vw_go rfl ?_; simp only [k7, go_sem, setCells, setIn]
    refine vw_cond (t := true) rfl (fun _ => ?_) (fun h => nomatch h)
    refine vw_go rfl ?_; simp only [bl, go_sem, setCells, setIn]
    refine ⟨_, _, call_rx [0, 0] Tryz.func75 (rL) rfl rfl rfl rfl rfl rfl rfl (by simp [lendAll, lendC, seek, fresh, nav, rcells, RT.cells, VV.cells, tabE_cons, tabS_cons, ev, take_map_len, iRow_r1, iRow_clean, sRow_r1, sRow_comp, sRow_clean, bl]) rfl (by simp [rcells, RT.cells, CT.clean, T.clean, iRow_r1, iRow_clean, sRow_r1, sRow_comp, sRow_clean, bl]) rfl rfl, ?_⟩
    simp only [runH, runX, bl, go_sem, setCells, setIn]
    refine vw_ret ?_
    repeat (first | refine r_then ?_ | refine r_block ?_)
    exact e_ret (ret_by rfl rfl (by simp [RB]) rfl (by simp only [takeCs, takeC, go_sem, setCells, setIn]))
  cases fb
  case true =>
    rw [if_pos (by simp [k7])] at hR
    subst hR
    (unfold runX; simp (maxSteps := 1000000) only [bl, k7, go_sem, setCells, setIn, runW_step])
    refine ⟨by subst hAA; unfold allOk; kernel_rfl, ?_⟩
    refine vw_cond (t := true) rfl (fun _ => ?_) (fun h => nomatch h)
    refine vw_go rfl ?_; simp only [go_sem, setCells, setIn]
    refine vw_ret ?_
    repeat (first | refine r_then ?_ | refine r_block ?_)
    exact e_ret (ret_by rfl rfl (by simp [RB]) rfl (by simp only [takeCs, takeC, go_sem, setCells, setIn]))
  rw [if_neg (by simp [k7]), if_neg k7] at hR
  have hz : ¬ o.path = ⟨#[]⟩ := fun h => nomatch hie h
  have hf0 : 0 ≤ fi := by
    rcases hth.1 rfl with h | h
    · exact absurd h hz
    · exact h
  obtain ⟨j, x, rfl, hx, hxp⟩ : ∃ (j : Nat) (x : It3), fi = (j : Int) ∧ l[j]? = some x ∧ x.1 = o.path := find_hit hfi hf0
  have hj := lt_of_getl hx
  have d0 : (0:Int) ≤ (j : Int) := by omega
  have d1 : (j : Int) < (l.length : Int) := by omega
  rw [Int.toNat_natCast] at hR
  (unfold runX; simp (maxSteps := 1000000) only [bl, k7, go_sem, setCells, setIn, runW_step])
  refine ⟨by subst hAA; unfold allOk; kernel_rfl, ?_⟩
  refine vw_cond (t := false) rfl (fun h => nomatch h) (fun _ => ?_)
  refine vw_go rfl ?_; simp only [k7, go_sem, setCells, setIn]
  refine vw_cond (t := false) rfl (fun h => nomatch h) (fun _ => ?_)
  by_cases k4 : o.kind = 4
  · rw [if_pos k4] at hR
    have hdx : dataAt l j = x.2.2 := by unfold dataAt; rw [hx]
    rw [hdx] at hR
    subst hR
    refine vw_go rfl ?_; simp only [k4, go_sem, setCells, setIn]
    refine vw_cond (t := true) rfl (fun _ => ?_) (fun h => nomatch h)
    refine vw_drawA mixed rfl rfl ?_; intro A hAA
    simp (maxSteps := 1000000) only [bl, d0, d1, hj, Int.toNat_natCast, getD_map_of hx, iRow, List.length_map, go_sem, setCells, setIn, runW_step]
    refine ⟨by subst hAA; unfold allOk; kernel_rfl, ?_⟩
    refine vw_ret ?_
    repeat (first | refine r_then ?_ | refine r_block ?_)
    exact e_ret (ret_by rfl rfl (by simp [RB]) rfl (by simp only [takeCs, takeC, go_sem, setCells, setIn]))
  rw [if_neg k4] at hR
  have hpx : putAtL l j o.data = l.set j (x.1, x.2.1, o.data) := by unfold putAtL; rw [hx]
  rw [hpx] at hR
  subst hR
  have e5 : (l.map iRow).set j [T.str x.1, T.bool x.2.1, T.str o.data] = (l.set j (x.1, x.2.1, o.data)).map iRow := by rw [List.map_set]; rfl
  have e6 : List.take l.length ((l.set j (x.1, x.2.1, o.data)).map iRow) = (l.set j (x.1, x.2.1, o.data)).map iRow := List.take_of_length_le (by simp)
  have e7 : l.length ≤ (l.set j (x.1, x.2.1, o.data)).length := by simp
  refine vw_go rfl ?_; simp only [k4, go_sem, setCells, setIn]
  refine vw_cond (t := false) rfl (fun h => nomatch h) (fun _ => ?_)
  refine vw_skip (n_block (n_then ?_))
  refine vw_go rfl ?_; simp only [bl, d0, d1, hj, Int.toNat_natCast, getD_map_of hx, iRow, e5, List.length_map, go_sem, setCells, setIn]
  refine vw_go rfl ?_; simp only [go_sem, setCells, setIn]
  exact vw_ret (e_ret (ret_by rfl rfl (by simp [RB]) rfl (by simp only [takeCs, takeC, e6, e7, List.drop_zero, go_sem, setCells, setIn])))
end Go.Proofs.YtoenfbbadfcfpaaGreatDoor
