/- Draws of volumes. Draws of volumes: what the laws call. Plain law: no text of a drawn volume holds a 'w' or a 't'. SameItems of both, and its law. Plain law: what was made, put, got, moved there and back and dropped in a right list without 'w' and 't' is as it was. -/
import Derived.Test.YtoenfbbadfcfpaaGreatDoorPFDone
import Derived.Test.YtoenfbbadfcfpaaGreatDoorPFUsed
import Derived.Test.YtoenfbbadfcfpaaGreatDoorPFItems
import Derived.Test.YtoenfbbadfcfpaaGreatDoorPFItemsOk
import Derived.Test.YtoenfbbadfcfpaaGreatDoorPFPlainI
import Derived.Test.YtoenfbbadfcfpaaGreatDoorPFTell
namespace Go.Proofs.YtoenfbbadfcfpaaGreatDoor
open Go.VM Go
set_option maxRecDepth 100000
set_option linter.unusedSimpArgs false
set_option linter.unusedVariables false
attribute [-go_sem] runW_cons
attribute [local congr] vw_congr runV_congr runH_congr runW_congr runX_congr stuckV_congr stuckX_congr

theorem drawOp_small (L : List UInt8) (c : Cur) : (drawOp L c).1.path.size ≤ 11 ∧ (drawOp L c).1.to.size ≤ 11 := by
  have hp : ∀ c, (drawPath L c).size ≤ 11 := by
    intro c
    have h : ∀ s ∈ pathL, s.size ≤ 11 := by decide
    exact h _ (pickV_mem (l := pathL) L c ⟨#[]⟩ (by decide))
  unfold drawOp
  split
  · exact ⟨hp _, Nat.zero_le _⟩
  · split
    · exact ⟨hp _, hp _⟩
    · exact ⟨hp _, Nat.zero_le _⟩
def stepV (L : List UInt8) (c : Cur) (l : List ByteArray) : List ByteArray := doneL l (askF l (drawOp L c).1).2.2
def changeG (L : List UInt8) : Nat → Cur → List ByteArray → List ByteArray × Cur
  | 0, c, l => (l, c)
  | n + 1, c, l => changeG L n (drawOp L c).2 (stepV L c l)
def drawRight (L : List UInt8) (c : Cur) : List ByteArray × Cur := changeG L (belV L c 22).toNat (byteC L c) volNew
def volFit (l : List ByteArray) : Prop := l.length = 12 ∧ ∀ s ∈ l, s.size ≤ 100
theorem volNew_fit : volFit volNew := ⟨rfl, by decide⟩
theorem stepV_fit {L : List UInt8} {c : Cur} {l : List ByteArray} (h : volFit l) : volFit (stepV L c l) :=
  ⟨by unfold stepV; rw [doneL_len]; exact h.1, doneL_size _ l 100 h.2 (askF_few l _).2⟩
theorem changeG_fit (L : List UInt8) : ∀ (n : Nat) (c : Cur) (l : List ByteArray), volFit l → volFit (changeG L n c l).1
  | 0, c, l, h => h
  | n + 1, c, l, h => changeG_fit L n _ _ (stepV_fit h)
theorem drawRight_fit (L : List UInt8) (c : Cur) : volFit (drawRight L c).1 := changeG_fit L _ _ _ volNew_fit

set_option maxHeartbeats 1000000 in
theorem runs_78 (v : Value) (L : List UInt8) (hL : L.length < 2 ^ 60) (c : Cur) (l : List ByteArray) (C : Cur) (hC : (l, C) = drawRight L c) :
    Runs Tryz.prog 78 [.one (.box [.held v 1 (L.map bRow), .int .i64 c.i, .int .i64 c.h])] [.one (.v (.list true 1 (l.map sRow)))] [(0, ⟨true, 3, [[.held v 1 (L.map bRow), .int .i64 C.i, .int .i64 C.h]], []⟩)] := by
  refine runs_tabB (tab := [(0, .ptr 0 [] 0 0 0)]) (rts := [(0, some ⟨true, 3, [[.held v 1 (L.map bRow), .int .i64 c.i, .int .i64 c.h]], []⟩)]) (n := 23) (k := 1) Tryz.func78 rfl rfl (by simp) rfl (fun t => ?_) rfl ?_
  · rcases t with _ | t <;> rfl
  unfold drawRight at hC
  have rV := runs_104
  have hv0 := volNew_fit
  generalize volNew = v0 at rV hC hv0
  have rB := runs_79 v L hL c 22 (by decide) (by decide)
  have hb := belV_in L c (n := 22) (by decide)
  generalize belV L c 22 = b at rB hC hb
  generalize byteC L c = c1 at rB hC
  obtain ⟨N, rfl⟩ : ∃ N : Nat, b = N := ⟨b.toNat, by omega⟩
  rw [Int.toNat_natCast] at hC
  (refine vw_go rfl ?_; simp only [go_sem, setCells, setIn])
  (refine vw_go rfl ?_; simp only [go_sem, setCells, setIn])
  (refine ⟨_, _, call_rx [] Tryz.func104 (rV) rfl rfl rfl rfl rfl rfl rfl (by simp [lendAll, lendC, seek, fresh, nav, rcells, RT.cells, VV.cells, tabE_cons, tabS_cons, ev, take_map_len, sRow_r1, sRow_comp, sRow_clean]) rfl (by simp [rcells, RT.cells, CT.clean, T.clean, sRow_r1, sRow_comp, sRow_clean]) rfl rfl, ?_⟩)
  simp only [runH, runX, go_sem, setCells, setIn]
  (refine vw_go rfl ?_; simp only [go_sem, setCells, setIn])
  (refine ⟨_, _, call_pt [0, 0] 0 Tryz.func79 (rB) rfl rfl rfl rfl rfl rfl rfl rfl (by simp [lendAll, lendC, seek, fresh, nav, rcells, RT.cells, VV.cells, tabE_cons, tabS_cons, St.put, ev, lit, take_map_len]) rfl rfl (by simp [rcells, RT.cells, CT.fine, T.fine]) (by exact ⟨.inr ⟨0, _, _, rfl, .head _, .head _⟩, trivial, trivial, trivial⟩) rfl rfl, ?_⟩)
  simp only [runH, runX, go_sem, setCells, setIn]
  refine vw_seq ?_
  (refine vw_go rfl ?_; simp only [go_sem, setCells, setIn])
  refine vw_block ?_
  refine vw_loop_tab (α := Nat × Nat × Cur × List ByteArray × List Path) (fun x => x.1) (fun x => ⟨tabE [(0, .ptr 0 [] 0 0 0), (3, .al 1 [] 0 1 0 x.2.2.2.1.length), (4, .c (.int .i64 N)), (5, .c (.int .i64 x.2.1))],
      tabS [(0, some ⟨true, 3, [[.held v 1 (L.map bRow), .int .i64 x.2.2.1.i, .int .i64 x.2.2.1.h]], x.2.2.2.2⟩), (1, some ⟨false, 1, x.2.2.2.1.map sRow, []⟩)], 2⟩)
    (fun x => x.1 + x.2.1 = N ∧ changeG L x.1 x.2.2.1 x.2.2.2.1 = (l, C) ∧ volFit x.2.2.2.1) (x := (N, 0, c1, v0, [[]])) ?round ?h0 ?hn
  case h0 => exact ⟨rfl, hC.symm, hv0⟩
  case hn =>
    (refine norm_to [(0, 0), (65537, 1)] rfl ?_ ?_ <;> simp only [go_sem])
  rintro ⟨n, i, d, w, lg⟩ ⟨hn, hg, hf⟩
  simp only at hn hg hf
  refine vw_seq ?_
  by_cases hc : (i : Int) < N
  case neg =>
    obtain rfl : n = 0 := by omega
    rw [changeG] at hg
    obtain ⟨rfl, rfl⟩ := hg
    (refine vw_go rfl ?_; simp only [hc, go_sem, setCells, setIn])
    (refine vw_cond (t := false) rfl (fun h => nomatch h) (fun _ => ?_))
    refine vw_exit (x_then (x_then (x_block (n_then ?_))))
    (refine vw_go rfl ?_; simp only [go_sem, setCells, setIn])
    have bl : List.take l.length (l.map sRow) = l.map sRow := List.take_of_length_le (by simp)
    exact vw_ret (e_ret (ret_b rfl rfl (by simp [RB]) rfl (by simp only [takeCs, takeC, bl, List.drop_length, go_sem, setCells, setIn]; rfl) (by exact ⟨⟨by simp, _, rfl, rfl, rfl, rfl⟩, trivial⟩)))
  obtain ⟨m, rfl⟩ : ∃ m, n = m + 1 := ⟨n - 1, by omega⟩
  rw [changeG] at hg
  have hf2 := stepV_fit (L := L) (c := d) hf
  have rO := runs_84 v L hL d (drawOp L d).1 (drawOp L d).2 rfl
  have hos := drawOp_small L d
  have rC := runs_105 w (by rw [hf.1]; decide) (fun s hs => Nat.le_trans (hf.2 s hs) (by decide)) (drawOp L d).1 (by omega) (by omega) _ rfl
  unfold stepV at hg hf2
  generalize drawOp L d = oc at rO hg rC hf2
  obtain ⟨o, e⟩ := oc
  simp only at rO hg rC hf2
  generalize askF w o = A at rC hg hf2
  generalize doneL w A.2.2 = u at rC hg hf2
  have bw : List.take w.length (w.map sRow) = w.map sRow := List.take_of_length_le (by simp)
  have w3 : IntKind.wrap .i64 ((i:Int) + 1) = ((i + 1 : Nat) : Int) := by rw [wrap_i64 (by omega) (by omega)]; rfl
  (refine vw_go rfl ?_; simp only [hc, go_sem, setCells, setIn])
  (refine vw_cond (t := true) rfl (fun _ => ?_) (fun h => nomatch h))
  refine vw_skip (n_then ?_)
  refine vw_seq ?_
  refine vw_block ?_
  (refine vw_last rfl ?_; simp only [go_sem, setCells, setIn])
  (refine ⟨_, _, call_pt [0] 0 Tryz.func84 (rO) rfl rfl rfl rfl rfl rfl rfl rfl (by simp [lendAll, lendC, seek, fresh, nav, rcells, RT.cells, VV.cells, tabE_cons, tabS_cons, St.put, ev, lit, take_map_len]) rfl rfl (by simp [rcells, RT.cells, CT.fine, T.fine]) (by exact ⟨.inr ⟨0, _, _, rfl, .head _, .head _⟩, trivial, trivial, trivial⟩) rfl rfl, ?_⟩)
  simp only [runH, runX, bw, go_sem, setCells, setIn]
  (refine ⟨_, _, call_rx [0, 0] Tryz.func105 (rC) rfl rfl rfl rfl rfl rfl rfl (by simp [lendAll, lendC, seek, fresh, nav, rcells, RT.cells, VV.cells, tabE_cons, tabS_cons, ev, take_map_len, sRow_r1, sRow_comp, sRow_clean, bw]) rfl (by simp [rcells, RT.cells, CT.clean, T.clean, sRow_r1, sRow_comp, sRow_clean, bw]) rfl rfl, ?_⟩)
  simp only [runH, runX, go_sem, setCells, setIn]
  refine (n_block (n_then ?_))
  (refine vw_last rfl ?_; simp only [w3, go_sem, setCells, setIn])
  refine (n_then ?_)
  refine ⟨(m, i + 1, e, u, lg ++ [[]]), by simp only; omega, ⟨by simp only; omega, hg, hf2⟩, ?_⟩
  (refine norm_to [(0, 0), (68610, 1)] rfl ?_ ?_ <;> simp only [go_sem])

def pickL : List ByteArray := [⟨#[]⟩, ⟨#[120]⟩, ⟨#[100, 97, 61, 49]⟩, ⟨#[102]⟩, ⟨#[100, 97, 61, 48]⟩]
def drawV (L : List UInt8) (c : Cur) : List ByteArray × Cur :=
  if belV L (drawRight L c).2 12 = 0 then ((drawRight L c).1.set (belV L (byteC L (drawRight L c).2) 12).toNat (pickV L (byteC L (byteC L (drawRight L c).2)) pickL ⟨#[]⟩), byteC L (byteC L (byteC L (drawRight L c).2)))
  else if belV L (drawRight L c).2 12 = 1 then ((drawRight L c).1.drop 1, byteC L (drawRight L c).2)
  else if belV L (drawRight L c).2 12 = 2 then ((drawRight L c).1 ++ [⟨#[]⟩], byteC L (drawRight L c).2)
  else ((drawRight L c).1, byteC L (drawRight L c).2)
theorem drawV_fit (L : List UInt8) (c : Cur) : (drawV L c).1.length ≤ 13 ∧ ∀ s ∈ (drawV L c).1, s.size ≤ 100 := by
  obtain ⟨h1, h2⟩ := drawRight_fit L c
  unfold drawV
  split
  · refine ⟨by simp only [List.length_set]; omega, fun s hs => ?_⟩
    rcases List.mem_or_eq_of_mem_set hs with h | h
    · exact h2 s h
    · have h3 : ∀ s ∈ pickL, s.size ≤ 100 := by decide
      rw [h]; exact h3 _ (pickV_mem (l := pickL) L _ ⟨#[]⟩ (by decide))
  · split
    · exact ⟨by simp only [List.length_drop]; omega, fun s hs => h2 s (List.mem_of_mem_drop hs)⟩
    · split
      · refine ⟨by simp only [List.length_append, List.length_cons, List.length_nil]; omega, fun s hs => ?_⟩
        rcases List.mem_append.1 hs with h | h
        · exact h2 s h
        · rw [List.mem_singleton] at h; rw [h]; exact Nat.zero_le _
      · exact ⟨by show (drawRight L c).1.length ≤ 13; omega, h2⟩

set_option maxHeartbeats 1000000 in
theorem runs_44 (v : Value) (L : List UInt8) (hL : L.length < 2 ^ 60) (c : Cur) (l : List ByteArray) (C : Cur) (hC : (l, C) = drawV L c) :
    Runs Tryz.prog 44 [.one (.box [.held v 1 (L.map bRow), .int .i64 c.i, .int .i64 c.h])] [.one (.v (.list true 1 (l.map sRow)))] [(0, ⟨true, 3, [[.held v 1 (L.map bRow), .int .i64 C.i, .int .i64 C.h]], []⟩)] := by
  refine runs_tabB (tab := [(0, .ptr 0 [] 0 0 0)]) (rts := [(0, some ⟨true, 3, [[.held v 1 (L.map bRow), .int .i64 c.i, .int .i64 c.h]], []⟩)]) (n := 27) (k := 1) Tryz.func44 rfl rfl (by simp) rfl (fun t => ?_) rfl ?_
  · rcases t with _ | t <;> rfl
  unfold drawV at hC
  have rR := runs_78 v L hL c (drawRight L c).1 (drawRight L c).2 rfl
  have hf := drawRight_fit L c
  generalize drawRight L c = r at rR hf hC
  obtain ⟨w, d⟩ := r
  simp only at rR hf hC
  have rB := runs_79 v L hL d 12 (by decide) (by decide)
  have hb := belV_in L d (n := 12) (by decide)
  generalize belV L d 12 = b at rB hC hb
  generalize byteC L d = e at rB hC
  have bw : List.take w.length (w.map sRow) = w.map sRow := List.take_of_length_le (by simp)
  (refine vw_go rfl ?_; simp only [go_sem, setCells, setIn])
  (refine vw_go rfl ?_; simp only [go_sem, setCells, setIn])
  (refine ⟨_, _, call_pt [0] 0 Tryz.func78 (rR) rfl rfl rfl rfl rfl rfl rfl rfl (by simp [lendAll, lendC, seek, fresh, nav, rcells, RT.cells, VV.cells, tabE_cons, tabS_cons, St.put, ev, lit, take_map_len, sRow_r1, sRow_comp, sRow_clean, sRow_fine]) rfl rfl (by simp [rcells, RT.cells, CT.fine, T.fine, sRow_r1, sRow_comp, sRow_clean, sRow_fine]) (by exact ⟨.inr ⟨0, _, _, rfl, .head _, .head _⟩, trivial, trivial, trivial⟩) rfl rfl, ?_⟩)
  simp only [runH, runX, bw, go_sem, setCells, setIn]
  refine vw_seq ?_
  (refine vw_go rfl ?_; simp only [go_sem, setCells, setIn])
  (refine ⟨_, _, call_pt [0, 0] 0 Tryz.func79 (rB) rfl rfl rfl rfl rfl rfl rfl rfl (by simp [lendAll, lendC, seek, fresh, nav, rcells, RT.cells, VV.cells, tabE_cons, tabS_cons, St.put, ev, lit, take_map_len]) rfl rfl (by simp [rcells, RT.cells, CT.fine, T.fine]) (by exact ⟨.inr ⟨0, _, _, rfl, .head _, .head _⟩, trivial, trivial, trivial⟩) rfl rfl, ?_⟩)
  simp only [runH, runX, bw, go_sem, setCells, setIn]
  refine vw_block ?_
  by_cases h0 : b = 0
  · rw [if_pos h0] at hC
    have rB2 := runs_79 v L hL e 12 (by decide) (by decide)
    have hb2 := belV_in L e (n := 12) (by decide)
    generalize belV L e 12 = b2 at rB2 hC hb2
    generalize byteC L e = e2 at rB2 hC
    have rP := runs_80 v L hL e2 pickL (by decide) (by decide)
    generalize pickV L e2 pickL ⟨#[]⟩ = x at rP hC
    generalize byteC L e2 = e3 at rP hC
    obtain ⟨K, rfl⟩ : ∃ K : Nat, b2 = K := ⟨b2.toNat, by omega⟩
    rw [Int.toNat_natCast] at hC
    obtain ⟨rfl, rfl⟩ := hC
    have k0 : (0:Int) ≤ (K : Int) := by omega
    have k1 : (K : Int) < w.length := by rw [hf.1]; omega
    have k2 : K < w.length := by omega
    have q2 : (w.map sRow).getD K [] = [.str (w[K])] := by
      rw [List.getD_eq_getElem?_getD, List.getElem?_map, List.getElem?_eq_getElem k2]; rfl
    have q3 : (w.map sRow).set K [.str x] = (w.set K x).map sRow := by
      rw [List.map_set]; rfl
    have bs : List.take w.length ((w.set K x).map sRow) = (w.set K x).map sRow := List.take_of_length_le (by simp)
    have ls : w.length ≤ (w.set K x).length := by simp
    subst h0
    (refine vw_go rfl ?_; simp only [go_sem, setCells, setIn])
    (refine vw_cond (t := true) rfl (fun _ => ?_) (fun h => nomatch h))
    (refine vw_last rfl ?_; simp only [range1, List.replicate_succ, List.replicate_zero, List.flatten_cons, List.flatten_nil, List.range_zero, gt_iff_lt, go_sem, setCells, setIn])
    (refine ⟨_, _, call_pt [0, 0] 0 Tryz.func79 (rB2) rfl rfl rfl rfl rfl rfl rfl rfl (by simp [lendAll, lendC, seek, fresh, nav, rcells, RT.cells, VV.cells, tabE_cons, tabS_cons, St.put, ev, lit, take_map_len]) rfl rfl (by simp [rcells, RT.cells, CT.fine, T.fine]) (by exact ⟨.inr ⟨0, _, _, rfl, .head _, .head _⟩, trivial, trivial, trivial⟩) rfl rfl, ?_⟩)
    simp only [runH, runX, bw, range1, List.replicate_succ, List.replicate_zero, List.flatten_cons, List.flatten_nil, List.range_zero, gt_iff_lt, go_sem, setCells, setIn]
    (refine ⟨_, _, call_pt [0, 0] 0 Tryz.func80 (rP) rfl rfl rfl rfl rfl rfl rfl rfl (by simp [lendAll, lendC, seek, fresh, nav, rcells, RT.cells, VV.cells, tabE_cons, tabS_cons, St.put, ev, lit, take_map_len, sRow, pickL]) rfl rfl (by simp [rcells, RT.cells, CT.fine, T.fine, sRow, pickL]) (by exact ⟨.inr ⟨0, _, _, rfl, .head _, .head _⟩, trivial, trivial, trivial⟩) rfl rfl, ?_⟩)
    simp only [runH, runX, bw, k0, k1, k2, q2, q3, Int.toNat_natCast, go_sem, setCells, setIn]
    refine (n_block (n_then ?_))
    (refine vw_go rfl ?_; simp only [go_sem, setCells, setIn])
    exact vw_ret (e_ret (ret_b rfl rfl (by simp [RB]) rfl (by simp only [takeCs, takeC, bs, ls, List.drop_length, go_sem, setCells, setIn]; rfl) (by exact ⟨⟨by simp, _, rfl, rfl, rfl, rfl⟩, trivial⟩)))
  rw [if_neg h0] at hC
  (refine vw_go rfl ?_; simp only [h0, go_sem, setCells, setIn])
  (refine vw_cond (t := false) rfl (fun h => nomatch h) (fun _ => ?_))
  by_cases h1 : b = 1
  · rw [if_pos h1] at hC
    obtain ⟨rfl, rfl⟩ := hC
    subst h1
    (refine vw_go rfl ?_; simp only [go_sem, setCells, setIn])
    (refine vw_cond (t := true) rfl (fun _ => ?_) (fun h => nomatch h))
    have l1 : 1 ≤ w.length := by rw [hf.1]; decide
    (refine vw_last rfl ?_; simp only [l1, go_sem, setCells, setIn])
    refine (n_block (n_then ?_))
    (refine vw_go rfl ?_; simp only [go_sem, setCells, setIn])
    have l2 : 1 + (w.length - 1) ≤ w.length := by omega
    have bd : List.take (w.length - 1) (List.drop 1 (w.map sRow)) = (w.drop 1).map sRow := by rw [← List.map_drop]; exact List.take_of_length_le (by simp)
    exact vw_ret (e_ret (ret_b rfl rfl (by simp [RB]) rfl (by simp only [takeCs, takeC, bd, l2, List.drop_length, go_sem, setCells, setIn]; rfl) (by exact ⟨⟨by simp, _, rfl, rfl, rfl, rfl⟩, trivial⟩)))
  rw [if_neg h1] at hC
  (refine vw_go rfl ?_; simp only [h1, go_sem, setCells, setIn])
  (refine vw_cond (t := false) rfl (fun h => nomatch h) (fun _ => ?_))
  by_cases h2 : b = 2
  · rw [if_pos h2] at hC
    obtain ⟨rfl, rfl⟩ := hC
    subst h2
    (refine vw_go rfl ?_; simp only [go_sem, setCells, setIn])
    (refine vw_cond (t := true) rfl (fun _ => ?_) (fun h => nomatch h))
    have B1 : ¬ (w.length + 1 + 1) * (16 + 1) > bigRow := by rw [hf.1]; decide
    (refine vw_last rfl ?_; simp only [B1, range1, List.replicate_succ, List.replicate_zero, List.flatten_cons, List.flatten_nil, List.range_zero, gt_iff_lt, List.drop_length, bw, go_sem, setCells, setIn])
    refine (n_block (n_then ?_))
    (refine vw_go rfl ?_; simp only [go_sem, setCells, setIn])
    have l2 : w.length + 1 ≤ (w.map sRow ++ [[T.str (⟨#[]⟩ : ByteArray)]]).length := by simp
    have bd : List.take (w.length + 1) (w.map sRow ++ [[T.str (⟨#[]⟩ : ByteArray)]]) = (w ++ [(⟨#[]⟩ : ByteArray)]).map sRow := by rw [List.map_append]; exact List.take_of_length_le (by simp)
    exact vw_ret (e_ret (ret_b rfl rfl (by simp [RB]) rfl (by simp only [takeCs, takeC, bd, l2, List.drop_length, go_sem, setCells, setIn]; rfl) (by exact ⟨⟨by simp, _, rfl, rfl, rfl, rfl⟩, trivial⟩)))
  rw [if_neg h2] at hC
  obtain ⟨rfl, rfl⟩ := hC
  (refine vw_go rfl ?_; simp only [h2, go_sem, setCells, setIn])
  (refine vw_cond (t := false) rfl (fun h => nomatch h) (fun _ => ?_))
  refine vw_skip (n_block (n_then ?_))
  (refine vw_go rfl ?_; simp only [go_sem, setCells, setIn])
  exact vw_ret (e_ret (ret_b rfl rfl (by simp [RB]) rfl (by simp only [takeCs, takeC, bw, List.drop_length, go_sem, setCells, setIn]; rfl) (by exact ⟨⟨by simp, _, rfl, rfl, rfl, rfl⟩, trivial⟩)))
end Go.Proofs.YtoenfbbadfcfpaaGreatDoor
namespace Go.Proofs.YtoenfbbadfcfpaaGreatDoor
open Go.VM Go
set_option maxRecDepth 100000
set_option linter.unusedSimpArgs false
set_option linter.unusedVariables false
/-- A text without 'w' and 't'. -/
def Cl (x : ByteArray) : Prop := ∀ b ∈ x.data.toList, b ≠ 119 ∧ b ≠ 116
instance (x : ByteArray) : Decidable (Cl x) := by unfold Cl; infer_instance
theorem cl_nil : Cl ⟨#[]⟩ := fun b h => nomatch h
theorem cl_app {x y : ByteArray} (h1 : Cl x) (h2 : Cl y) : Cl (x ++ y) := by
  intro b hb
  rw [ByteArray.data_append, Array.toList_append] at hb
  rcases List.mem_append.1 hb with h | h
  · exact h1 b h
  · exact h2 b h
theorem cl_cut {x : ByteArray} (h : Cl x) (i j : Nat) : Cl (x.extract i j) := by
  intro b hb
  rw [cut_bytes] at hb
  exact h b (List.mem_of_mem_take (List.mem_of_mem_drop hb))
theorem cl_getD {l : List ByteArray} (h : ∀ x ∈ l, Cl x) (i : Nat) : Cl (l.getD i ⟨#[]⟩) := by
  rw [List.getD_eq_getElem?_getD]
  cases e : l[i]? with
  | none => exact cl_nil
  | some x => exact h x (List.mem_of_getElem? e)
/-- A node without them. -/
def NCl (n : NodeV) : Prop := (∀ x ∈ n.names, Cl x) ∧ Cl n.data
theorem nCl_z : NCl nodeZ := ⟨fun x h => (nomatch h), cl_nil⟩
theorem kidB_ok {y : Int} (h1 : 1 ≤ y) (h2 : y ≤ 11) : kidB y ≠ 119 ∧ kidB y ≠ 116 := by
  obtain ⟨n, rfl⟩ : ∃ n : Nat, y = n := ⟨y.toNat, by omega⟩
  have : n ≤ 11 := by omega
  have hh : ∀ n : Nat, n < 12 → kidB (n : Int) ≠ 119 ∧ kidB (n : Int) ≠ 116 := by decide
  exact hh n (by omega)
theorem bodyTo_cl {n : NodeV} (h : NCl n) : ∀ i, (∀ j, j < i → nodeAtOk n j = true) → Cl (bodyTo n i)
  | 0, _ => by unfold bodyTo; decide
  | i + 1, hk => by
    unfold bodyTo
    refine cl_app (cl_app (cl_app (bodyTo_cl h i (fun j hj => hk j (by omega))) (cl_getD h.1 i)) (by decide)) (fun b hb => ?_)
    have hb : b ∈ [kidB (n.kids.getD i 0)] := hb
    rw [List.mem_singleton] at hb
    subst hb
    obtain ⟨_, _, h1, h2⟩ := nodeAt_out (hk i (by omega))
    exact kidB_ok h1 h2
theorem nodeText_cl {n : NodeV} (h : NCl n) : Cl (nodeText n) := by
  unfold nodeText
  split
  case isFalse => exact cl_nil
  rename_i ho
  split
  · rename_i hd
    exact bodyTo_cl h _ (fun j hj => (nodeOk_dir hd ho).2.2 j hj)
  · exact cl_app (by decide) h.2
theorem nrGo_cl {s : ByteArray} (hs : Cl s) : ∀ (n i fr : Nat) (a : List ByteArray) (b : List Int), (∀ x ∈ a, Cl x) → ∀ x ∈ (nrGo s n i fr a b).1, Cl x
  | 0, i, fr, a, b, ha => ha
  | n + 1, i, fr, a, b, ha => by
    unfold nrGo
    split
    · split
      · refine nrGo_cl hs n _ _ _ _ (fun x hx => ?_)
        rcases List.mem_append.1 hx with h | h
        · exact ha x h
        · rw [List.mem_singleton] at h; rw [h]; exact cl_cut hs _ _
      · exact nrGo_cl hs n _ _ _ _ ha
    · exact ha
theorem nodeRead_cl {s : ByteArray} (hs : Cl s) : NCl (nodeRead s).1 := by
  unfold nodeRead
  split
  · exact nCl_z
  · split
    · unfold nodeRaw
      split
      · exact ⟨fun x h => (nomatch h), cl_cut hs _ _⟩
      · exact ⟨nrGo_cl hs _ _ _ _ _ (fun x h => nomatch h), cl_nil⟩
    · exact nCl_z
theorem kidDropF_cl {n : NodeV} (h : NCl n) (s : ByteArray) : NCl (kidDropF n s) :=
  ⟨fun x hx => h.1 x (skipN_mem _ _ _ x hx), h.2⟩
theorem kidPutF_cl {n : NodeV} (h : NCl n) {s : ByteArray} (hs : Cl s) (k : Int) : NCl (kidPutF n s k) :=
  ⟨fun x hx => by
    rcases putLoop_mem s k false _ _ x hx with h1 | h1
    · exact (kidDropF_cl h s).1 x h1
    · rw [h1]; exact hs, h.2⟩
theorem splitF_cl {p : ByteArray} (h : Cl p) : Cl (splitF p).1 ∧ Cl (splitF p).2.1 := by
  unfold splitF
  split
  · exact ⟨cl_nil, cl_nil⟩
  · split
    · exact ⟨cl_nil, h⟩
    · exact ⟨cl_cut h _ _, cl_cut h _ _⟩
/-- The texts of a volume. -/
def LCl (l : List ByteArray) : Prop := ∀ s ∈ l, Cl s
theorem kn_cl {l : List ByteArray} (h : LCl l) (k : Int) : NCl (kn l k) := nodeRead_cl (cl_getD h _)
theorem folderF_cl {l : List ByteArray} (h : LCl l) {p : ByteArray} (hp : Cl p) : NCl (folderF l p).2.1 ∧ Cl (folderF l p).2.2.1 := by
  unfold folderF
  split
  · exact ⟨nCl_z, cl_nil⟩
  · split
    · exact ⟨kn_cl h _, (splitF_cl hp).2⟩
    · exact ⟨nCl_z, cl_nil⟩
def TCl (t : Told3) : Prop := ∀ p ∈ t.2.2, Cl p.data
theorem tCl_nil (c : Int) (s : ByteArray) : TCl (c, s, []) := fun p hp => nomatch hp
theorem tCl_one (c : Int) (s : ByteArray) (k : Int) {n : NodeV} (h : NCl n) : TCl (c, s, [putF k n]) := fun p hp => by
  have hp : p ∈ [putF k n] := hp
  rw [List.mem_singleton] at hp; rw [hp]; exact nodeText_cl h
theorem tCl_sort (c : Int) (s : ByteArray) {a b : PutV} (ha : Cl a.data) (hb : Cl b.data) : TCl (c, s, sortF a b) := fun p hp => by
  have hp : p ∈ sortF a b := hp
  unfold sortF at hp
  split at hp <;> · rcases List.mem_cons.1 hp with rfl | hp
                    · assumption
                    · rw [List.mem_singleton] at hp; rw [hp]; assumption
structure OCl (o : OpV) : Prop where
  path : Cl o.path
  to : Cl o.to
  data : Cl o.data
theorem askF_cl {l : List ByteArray} (h : LCl l) {o : OpV} (ho : OCl o) : TCl (askF l o) := by
  obtain ⟨f1, f2⟩ := folderF_cl h ho.path
  obtain ⟨g1, g2⟩ := folderF_cl h ho.to
  unfold askF newF dropF moveF none3
  repeat' apply ite_p
  all_goals first
    | exact tCl_nil _ _
    | exact tCl_sort _ _ (nodeText_cl (kidPutF_cl f1 f2 _)) (nodeText_cl ⟨fun x h => (nomatch h), cl_nil⟩)
    | exact tCl_sort _ _ (nodeText_cl (kidDropF_cl f1 _)) cl_nil
    | exact tCl_sort _ _ (nodeText_cl (kidPutF_cl g1 g2 _)) (nodeText_cl (kidDropF_cl f1 _))
    | exact tCl_one _ _ _ (kidPutF_cl (kidDropF_cl f1 _) g2 _)
    | exact tCl_one _ _ _ ⟨fun x h => (nomatch h), ho.data⟩
theorem doneL_cl : ∀ (ps : List PutV) {l : List ByteArray}, LCl l → (∀ p ∈ ps, Cl p.data) → LCl (doneL l ps)
  | [], l, hl, _ => hl
  | p :: ps, l, hl, hp => by
    rw [doneL]
    refine doneL_cl ps ?_ (fun q hq => hp q (List.mem_cons_of_mem _ hq))
    split
    · intro s hs
      rcases List.mem_or_eq_of_mem_set hs with h | h
      · exact hl s h
      · rw [h]; exact hp p (List.mem_cons_self ..)
    · exact hl
theorem drawOp_cl (L : List UInt8) (c : Cur) : OCl (drawOp L c).1 := by
  have p0 : ∀ x ∈ pathL, Cl x := by decide
  have d0 : ∀ x ∈ dataL, Cl x := by decide
  have hp : ∀ d, Cl (drawPath L d) := fun d => p0 _ (pickV_mem L d _ (by decide))
  have hd : ∀ d, Cl (pickV L d dataL ⟨#[]⟩) := fun d => d0 _ (pickV_mem L d _ (by decide))
  unfold drawOp
  split
  · exact ⟨hp _, cl_nil, hd _⟩
  · split
    · exact ⟨hp _, hp _, cl_nil⟩
    · exact ⟨hp _, cl_nil, cl_nil⟩
theorem volNew_cl : LCl volNew := by
  have h : ∀ s ∈ volNew, Cl s := by decide
  exact h
theorem changeG_cl (L : List UInt8) : ∀ (n : Nat) (c : Cur) (l : List ByteArray), LCl l → LCl (changeG L n c l).1
  | 0, c, l, h => h
  | n + 1, c, l, h => changeG_cl L n _ _ (doneL_cl _ h (askF_cl h (drawOp_cl L c)))
theorem drawRight_cl (L : List UInt8) (c : Cur) : LCl (drawRight L c).1 := changeG_cl L _ _ _ volNew_cl
theorem drawV_cl (L : List UInt8) (c : Cur) : LCl (drawV L c).1 := by
  have h2 := drawRight_cl L c
  unfold drawV
  split
  · intro s hs
    rcases List.mem_or_eq_of_mem_set hs with h | h
    · exact h2 s h
    · have h3 : ∀ s ∈ pickL, Cl s := by decide
      rw [h]; exact h3 _ (pickV_mem (l := pickL) L _ ⟨#[]⟩ (by decide))
  · split
    · exact fun s hs => h2 s (List.mem_of_mem_drop hs)
    · split
      · intro s hs
        rcases List.mem_append.1 hs with h | h
        · exact h2 s h
        · rw [List.mem_singleton] at h; rw [h]; exact cl_nil
      · exact h2
theorem itemsK_cl {l : List ByteArray} (hl : LCl l) {g : Nat → ByteArray → List It3} (hg : ∀ k pre, Cl pre → ∀ x ∈ g k pre, Cl x.1) : ∀ (xs : List ByteArray) (ys : List Int) (pre : ByteArray), (∀ x ∈ xs, Cl x) → Cl pre → ∀ x ∈ itemsK l g xs ys pre, Cl x.1
  | [], ys, pre, _, _ => by cases ys <;> exact fun x h => nomatch h
  | a :: xs, [], pre, _, _ => fun x h => nomatch h
  | a :: xs, b :: ys, pre, hx, hp => by
    have ha := cl_app hp (hx a (by simp))
    rw [itemsK]
    intro x hxx
    rcases List.mem_cons.1 hxx with rfl | h
    · exact ha
    · rcases List.mem_append.1 h with h | h
      · exact hg _ _ (cl_app ha (by decide)) x h
      · exact itemsK_cl hl hg xs ys pre (fun x h => hx x (by simp [h])) hp x h
theorem itemsG_cl {l : List ByteArray} (hl : LCl l) : ∀ (f k : Nat) (pre : ByteArray), Cl pre → ∀ x ∈ itemsG l f k pre, Cl x.1
  | 0, k, pre, _ => fun x h => nomatch h
  | f + 1, k, pre, hp => by
    rw [itemsG]
    exact itemsK_cl hl (fun k pre hp => itemsG_cl hl f k pre hp) _ _ _ (nodeRead_cl (cl_getD hl k)).1 hp
theorem itemsV_cl {l : List ByteArray} (hl : LCl l) : ∀ x ∈ itemsV l, Cl x.1 := by
  unfold itemsV
  split
  · exact itemsG_cl hl 5 0 _ cl_nil
  · exact fun x h => nomatch h
end Go.Proofs.YtoenfbbadfcfpaaGreatDoor
namespace Go.Proofs.YtoenfbbadfcfpaaGreatDoor
open Go.VM
set_option maxRecDepth 100000
set_option linter.unusedSimpArgs false
set_option linter.unusedVariables false
attribute [local congr] vw_congr runV_congr runH_congr runW_congr runX_congr stuckV_congr stuckX_congr

def eqV (v x : It3) : Bool := decide (v.1 = x.1) && ((v.2.1 == x.2.1) && decide (v.2.2 = x.2.2))

theorem runs_83 (l : List It3) (v : It3) (hl : l.length < 2 ^ 63) :
    Runs Tryz.prog 83 [.one (.v (.list false 3 (l.map iRow))), .agg [.v (.str v.1), .v (.bool v.2.1), .v (.str v.2.2)]] [.one (.v (.int .i64 (idxOf (eqV v) l 0)))] [] := by
  refine runs_tab (tab := [(0, .c (.list false 3 (l.map iRow))), (1, .agg [.c (.str v.1), .c (.bool v.2.1), .c (.str v.2.2)])]) (rts := []) (n := 19) (k := 4) Tryz.func83 rfl rfl (by simp) rfl (fun t => ?_) rfl ?_
  · rcases t with _ | _ | t <;> rfl
  (refine vw_go rfl ?_; simp only [go_sem, setCells, setIn])
  refine vw_seq ?_
  (refine vw_go rfl ?_; simp only [go_sem, setCells, setIn])
  refine vw_block ?_
  refine vw_loop_tab (α := Nat) (fun x => l.length - x) (fun x => ⟨tabE [(0, .c (.list false 3 (l.map iRow))), (3, .ptr 4 [] 0 0 0), (7, .c (.int .i64 l.length)), (8, .c (.int .i64 x))], tabS [(4, some ⟨true, 3, [[.str v.1, .bool v.2.1, .str v.2.2]], []⟩)], 5⟩)
    (fun x => x ≤ l.length ∧ idxOf (eqV v) (l.drop x) x = idxOf (eqV v) l 0) (x := 0) ?round ?h0 ?hn
  case h0 => exact ⟨Nat.zero_le _, rfl⟩
  case hn => (refine norm_to [(4, 4)] rfl ?_ ?_ <;> simp only [go_sem])
  rintro i ⟨hi, hm⟩
  (refine vw_go rfl ?_; simp only [go_sem, setCells, setIn])
  refine vw_seq ?_
  refine vw_cond (t := decide ((i : Int) < l.length)) rfl (fun h => ?_) (fun h => ?_)
  · refine vw_skip (n_then ?_)
    rcases get_or l i with ⟨x, hx, hlt⟩ | ⟨_, hge⟩
    case inr => simp only [decide_eq_true_eq] at h; omega
    have c1 : (0:Int) ≤ (i:Int) := by omega
    have c2 : (i:Int) < (l.length : Int) := by omega
    rw [drop_of hx] at hm
    refine vw_seq ?_
    refine vw_block ?_
    (refine vw_go rfl ?_; simp only [go_sem, setCells, setIn])
    (refine vw_draw mixed rfl rfl ?_; simp only [c1, c2, Int.toNat_natCast, getD_map_of hx, iRow, go_sem, setCells, setIn])
    refine ⟨by unfold allOk; kernel_rfl, ?_⟩
    refine vw_cond (t := eqV v x) rfl (fun h => ?_) (fun h => ?_)
    · (refine vw_go rfl ?_; simp only [go_sem, setCells, setIn])
      simp only [idxOf, h, if_true] at hm
      rw [← hm]
      exact vw_ret (r_block (r_then (r_then (r_block (r_then (e_ret (ret_of rfl rfl (by simp [RB]) rfl rfl)))))))
    · refine vw_skip (n_block (n_then ?_))
      have w2 : IntKind.wrap .i64 ((i:Int) + 1) = ((i + 1 : Nat) : Int) := by rw [wrap_i64 (by omega) (by omega)]; rfl
      (refine vw_last rfl ?_; simp only [w2, go_sem, setCells, setIn])
      refine (n_then ?_)
      simp only [idxOf, h, Bool.false_eq_true, if_false] at hm
      refine ⟨i + 1, by omega, ⟨hlt, hm⟩, ?_⟩
      (refine norm_to [(4, 4)] rfl ?_ ?_ <;> simp only [go_sem])
  · refine vw_exit (x_then (x_then (x_block (n_then ?_))))
    (refine vw_go rfl ?_; simp only [go_sem, setCells, setIn])
    simp only [decide_eq_false_iff_not] at h
    have : i = l.length := by omega
    subst this
    simp only [List.drop_length, idxOf] at hm
    rw [← hm]
    exact vw_ret (e_ret (ret_of rfl rfl (by simp [RB]) rfl rfl))

theorem runs_50 (l : List It3) (v : It3) (hl : l.length < 2 ^ 63) :
    Runs Tryz.prog 50 [.one (.v (.list false 3 (l.map iRow))), .agg [.v (.str v.1), .v (.bool v.2.1), .v (.str v.2.2)]] [.one (.v (.bool (l.any (eqV v))))] [] := by
  refine runs_tab (tab := [(0, .c (.list false 3 (l.map iRow))), (1, .agg [.c (.str v.1), .c (.bool v.2.1), .c (.str v.2.2)])]) (rts := []) (n := 9) (k := 4) Tryz.func50 rfl rfl (by simp) rfl (fun t => ?_) rfl ?_
  · rcases t with _ | _ | t <;> rfl
  (refine vw_go rfl ?_; simp only [go_sem, setCells, setIn])
  (refine vw_go rfl ?_; simp only [go_sem, setCells, setIn])
  (refine ⟨_, _, call_rx [0, 0] Tryz.func83 (runs_83 l v hl) rfl rfl rfl rfl rfl rfl rfl (by simp [lendAll, lendC, seek, fresh, nav, rcells, RT.cells, VV.cells, tabE_cons, tabS_cons, ev, take_map_len, iRow_r1, iRow_clean]) rfl (by simp [rcells, RT.cells, CT.clean, T.clean, iRow_r1, iRow_clean]) rfl rfl, ?_⟩)
  simp only [runH, runX, go_sem, setCells, setIn]
  rw [← idxOf_any (eqV v) l 0]
  exact vw_ret (e_ret (ret_of rfl rfl (by simp [RB]) rfl rfl))

theorem runs_49 (x : It3) (l : List It3) (hl : l.length < 2 ^ 63) : Runs Tryz.prog 49 [.agg [.v (.str x.1), .v (.bool x.2.1), .v (.str x.2.2)], .one (.ref [.list false 3 (l.map iRow)])] [.one (.v (.bool (!l.any (eqV x))))] [] := by
  refine runs_tab (tab := [(0, .agg [.c (.str x.1), .c (.bool x.2.1), .c (.str x.2.2)]), (1, .rop [.list false 3 (l.map iRow)])]) (rts := []) (n := 8) (k := 4) Tryz.func49 rfl rfl (by simp) rfl (fun t => ?_) rfl ?_
  · rcases t with _ | _ | t <;> rfl
  (refine vw_go rfl ?_; simp only [go_sem, setCells, setIn])
  (refine vw_go rfl ?_; simp only [go_sem, setCells, setIn])
  (refine ⟨_, _, call_rx [0, 0] Tryz.func50 (runs_50 l x hl) rfl rfl rfl rfl rfl rfl rfl (by simp [lendAll, lendC, seek, fresh, nav, rcells, RT.cells, VV.cells, tabE_cons, tabS_cons, ev, take_map_len, iRow_r1, iRow_clean]) rfl (by simp [rcells, RT.cells, CT.clean, T.clean, iRow_r1, iRow_clean]) rfl rfl, ?_⟩)
  simp only [runH, runX, go_sem, setCells, setIn]
  exact vw_ret (e_ret (ret_of rfl rfl (by simp [RB]) rfl rfl))

def sameB (a b : List It3) : Bool := decide ((a.length : Int) = b.length) && !a.any (fun x => !b.any (eqV x))

theorem runs_19 (a b : List It3) (ha : a.length < 2 ^ 63) (hb : b.length < 2 ^ 63) :
    Runs Tryz.prog 19 [.one (.v (.list false 3 (a.map iRow))), .one (.v (.list false 3 (b.map iRow)))] [.one (.v (.bool (sameB a b)))] [] := by
  refine runs_tab (tab := [(0, .c (.list false 3 (a.map iRow))), (1, .c (.list false 3 (b.map iRow)))]) (rts := []) (n := 16) (k := 2) Tryz.func19 rfl rfl (by simp) rfl (fun t => ?_) rfl ?_
  · rcases t with _ | _ | t <;> rfl
  (refine vw_go rfl ?_; simp only [go_sem, setCells, setIn])
  unfold sameB
  cases hab : decide ((a.length : Int) = b.length)
  · (refine vw_go rfl ?_; simp only [hab, go_sem, setCells, setIn])
    exact vw_ret (e_ret (ret_of rfl rfl (by simp [RB]) rfl rfl))
  · (refine vw_go rfl ?_; simp only [hab, go_sem, setCells, setIn])
    (refine ⟨_, _, mk_ok (rows := [[.list false 3 (b.map iRow)]]) (cs := [.ref [.list false 3 (b.map iRow)]]) [2] rfl (by simp [lendAll, lendC, seek, fresh, nav, tabE_cons, tabS_cons, ev, iRow_r1]) rfl rfl, ?_⟩)
    simp only [runH, runX, go_sem, setCells, setIn]
    (refine ⟨_, _, call_rx [0, 0] Tryz.func48 (runs_48 a ha 49 Tryz.f49 [.list false 3 (b.map iRow)] (fun x => !b.any (eqV x)) Tryz.func49 rfl rfl (fun x _ => runs_49 x b hb)) rfl rfl rfl rfl rfl rfl rfl (by simp [lendAll, lendC, seek, fresh, nav, rcells, RT.cells, VV.cells, tabE_cons, tabS_cons, ev, take_map_len, iRow_r1, iRow_clean]) rfl (by simp [rcells, RT.cells, CT.clean, T.clean, iRow_r1, iRow_clean]) rfl rfl, ?_⟩)
    simp only [runH, runX, go_sem, setCells, setIn]
    exact vw_ret (e_ret (ret_of rfl rfl (by simp [RB]) rfl rfl))

end Go.Proofs.YtoenfbbadfcfpaaGreatDoor
namespace Go.Proofs.YtoenfbbadfcfpaaGreatDoor
open Go.VM Go
set_option maxRecDepth 100000
set_option linter.unusedSimpArgs false
set_option linter.unusedVariables false
def newB : ByteArray := ⟨#[110, 101, 119]⟩
def otherB : ByteArray := ⟨#[111, 116, 104, 101, 114]⟩
def dataB : ByteArray := ⟨#[100, 97, 116, 97]⟩
theorem eqV_refl (x : It3) : eqV x x = true := by
  unfold eqV
  rw [decide_eq_true rfl, decide_eq_true rfl, beq_self_eq_true]; rfl
theorem same_refl (l : List It3) : sameB l l = true := by
  unfold sameB
  rw [decide_eq_true rfl, Bool.true_and, Bool.not_eq_true', ← Bool.not_eq_true, List.any_eq_true]
  rintro ⟨x, hx, h⟩
  rw [Bool.not_eq_true', ← Bool.not_eq_true, List.any_eq_true] at h
  exact h ⟨x, hx, eqV_refl x⟩
theorem fold_E (l : List It3) : foldF l ⟨#[]⟩ = 0 := by unfold foldF; rw [if_pos rfl]
theorem find_last {l : List It3} {x : It3} (h : OkN (l ++ [x])) : findF (l ++ [x]) x.1 = (l.length : Int) := by
  have := idx_apart (l ++ [x]) 0 l.length x (apart_pw.1 h.apart) (by rw [List.getElem?_append_right (Nat.le_refl _), Nat.sub_self]; rfl)
  rw [Nat.zero_add] at this
  exact this
theorem last_at (l : List It3) (x : It3) : (l ++ [x])[l.length]? = some x := by
  rw [List.getElem?_append_right (Nat.le_refl _), Nat.sub_self]; rfl
theorem fold_last {l : List It3} {q s : ByteArray} (hq : q ≠ ⟨#[]⟩) (h : OkN (l ++ [(q, false, s)])) : foldF (l ++ [(q, false, s)]) q = 4 := by
  have h1 : findF (l ++ [(q, false, s)]) q = (l.length : Int) := find_last h
  unfold foldF
  rw [if_neg hq, h1, if_neg (by omega), if_neg (by unfold dirAt; rw [show ((l.length : Int)).toNat = l.length from rfl, last_at]; simp)]
theorem not_under {x q : ByteArray} (hx : Cl x) (hq : ¬ Cl q) (h0 : q ≠ ⟨#[]⟩) : underB x q = false := by
  cases h : underB x q
  · rfl
  obtain ⟨_, _, h3⟩ := under_cut h h0
  rcases h3 with rfl | ⟨r, rfl, _⟩
  · exact absurd hx hq
  · refine absurd (fun b hb => hx b ?_) hq
    rw [add_bytes, add_bytes]
    exact List.mem_append_left _ (List.mem_append_left _ hb)
theorem undone_law {l : List It3} (h : OkN l) (hc : ∀ x ∈ l, Cl x.1) (hl : l.length ≠ 11) :
    plainL l ⟨1, newB, ⟨#[]⟩, ⟨#[]⟩⟩ = (l ++ [(newB, false, ⟨#[]⟩)], 0, ⟨#[]⟩) ∧
    plainL (l ++ [(newB, false, ⟨#[]⟩)]) ⟨3, newB, ⟨#[]⟩, dataB⟩ = (l ++ [(newB, false, dataB)], 0, ⟨#[]⟩) ∧
    plainL (l ++ [(newB, false, dataB)]) ⟨4, newB, ⟨#[]⟩, ⟨#[]⟩⟩ = (l ++ [(newB, false, dataB)], 0, dataB) ∧
    plainL (l ++ [(newB, false, dataB)]) ⟨6, newB, otherB, ⟨#[]⟩⟩ = (l ++ [(otherB, false, dataB)], 0, ⟨#[]⟩) ∧
    plainL (l ++ [(otherB, false, dataB)]) ⟨6, otherB, newB, ⟨#[]⟩⟩ = (l ++ [(newB, false, dataB)], 0, ⟨#[]⟩) ∧
    plainL (l ++ [(newB, false, dataB)]) ⟨5, newB, ⟨#[]⟩, ⟨#[]⟩⟩ = (l, 0, ⟨#[]⟩) := by
  have n0 : newB ≠ ⟨#[]⟩ := by decide
  have t0 : otherB ≠ ⟨#[]⟩ := by decide
  have nc : ¬ Cl newB := by decide
  have tc : ¬ Cl otherB := by decide
  have ns : (splitF newB).1 = ⟨#[]⟩ := by decide
  have ts : (splitF otherB).1 = ⟨#[]⟩ := by decide
  have hne : ∀ q, ¬ Cl q → ∀ x ∈ l, x.1 ≠ q := fun q hq x hx e => hq (e ▸ hc x hx)
  have hun : ∀ q, ¬ Cl q → q ≠ ⟨#[]⟩ → ∀ x ∈ l, underB x.1 q = false := fun q hq h0 x hx => not_under (hc x hx) hq h0
  have e1 : plainL l ⟨1, newB, ⟨#[]⟩, ⟨#[]⟩⟩ = (l ++ [(newB, false, ⟨#[]⟩)], 0, ⟨#[]⟩) := by
    unfold plainL
    rw [okN_items h, show opOk ⟨1, newB, ⟨#[]⟩, ⟨#[]⟩⟩ = true from by decide, if_neg (by simp), if_pos (.inl rfl)]
    unfold makeL
    rw [if_neg (by rintro (e | e); exact n0 e; exact absurd (find_none.2 (hne newB nc)) (by simpa using e))]
    simp only [ns, fold_E]
    rw [if_neg (by simp), if_neg hl]
    rfl
  have hA : OkN (l ++ [(newB, false, ⟨#[]⟩)]) := by have := plainL_ok h ⟨1, newB, ⟨#[]⟩, ⟨#[]⟩⟩; rw [e1] at this; exact this
  have e2 : plainL (l ++ [(newB, false, ⟨#[]⟩)]) ⟨3, newB, ⟨#[]⟩, dataB⟩ = (l ++ [(newB, false, dataB)], 0, ⟨#[]⟩) := by
    unfold plainL
    rw [okN_items hA, show opOk ⟨3, newB, ⟨#[]⟩, dataB⟩ = true from by decide, if_neg (by simp), if_neg (by simp)]
    unfold doL
    simp only [fold_last n0 hA]
    rw [if_neg (by decide), if_neg (by decide), if_neg (by decide), if_neg (by decide), if_neg (by decide), if_neg (by decide)]
    have h1 : findF (l ++ [(newB, false, ⟨#[]⟩)]) newB = (l.length : Int) := find_last hA
    rw [h1]
    unfold putAtL
    rw [show ((l.length : Int)).toNat = l.length from rfl, last_at]
    simp only
    rw [List.set_append_right _ _ (Nat.le_refl _), Nat.sub_self]
    rfl
  have hB : OkN (l ++ [(newB, false, dataB)]) := by have := plainL_ok hA ⟨3, newB, ⟨#[]⟩, dataB⟩; rw [e2] at this; exact this
  have e3 : plainL (l ++ [(newB, false, dataB)]) ⟨4, newB, ⟨#[]⟩, ⟨#[]⟩⟩ = (l ++ [(newB, false, dataB)], 0, dataB) := by
    unfold plainL
    rw [okN_items hB, show opOk ⟨4, newB, ⟨#[]⟩, ⟨#[]⟩⟩ = true from by decide, if_neg (by simp), if_neg (by simp)]
    unfold doL
    simp only [fold_last n0 hB]
    rw [if_neg (by decide), if_neg (by decide), if_neg (by decide), if_neg (by decide), if_neg (by decide), if_pos trivial]
    have h1 : findF (l ++ [(newB, false, dataB)]) newB = (l.length : Int) := find_last hB
    rw [h1]
    unfold dataAt
    rw [show ((l.length : Int)).toNat = l.length from rfl, last_at]
  have hmv : ∀ p q : ByteArray, p ≠ ⟨#[]⟩ → q ≠ ⟨#[]⟩ → ¬ Cl p → ¬ Cl q → q ≠ p → underB q p = false → underB p p = true → (splitF q).1 = ⟨#[]⟩ → pathOk q = true → opOk ⟨6, p, q, ⟨#[]⟩⟩ = true → OkN (l ++ [(p, false, dataB)]) →
      plainL (l ++ [(p, false, dataB)]) ⟨6, p, q, ⟨#[]⟩⟩ = (l ++ [(q, false, dataB)], 0, ⟨#[]⟩) := by
    intro p q p0 q0 pc qc hqp hu hup hs hqk ho hP
    unfold plainL
    rw [okN_items hP, ho, if_neg (by simp), if_neg (by simp)]
    unfold doL
    simp only [fold_last p0 hP]
    rw [if_neg (by decide), if_neg (by decide), if_pos trivial]
    have hmp : movedP ⟨6, p, q, ⟨#[]⟩⟩ p = q := by
      unfold movedP
      simp only
      rw [if_pos hup]
      have e : p.extract p.size p.size = ⟨#[]⟩ := size0.2 (by rw [ByteArray.size_extract]; omega)
      rw [e, app_nil]
    have hml : ∀ x ∈ l, movedP ⟨6, p, q, ⟨#[]⟩⟩ x.1 = x.1 := fun x hx => by
      unfold movedP
      rw [if_neg (by rw [hun p pc p0 x hx]; simp)]
    have hmove : moveL (l ++ [(p, false, dataB)]) ⟨6, p, q, ⟨#[]⟩⟩ = (l ++ [(q, false, dataB)], 0) := by
      unfold moveL
      simp only
      rw [if_neg (by rintro (e | e); exact p0 e; rw [hu] at e; cases e)]
      rw [if_neg (by
        rintro (e | e)
        · exact q0 e
        · refine absurd (find_none.2 (fun x hx => ?_)) (Int.not_lt.2 e)
          rcases List.mem_append.1 hx with hx | hx
          · exact hne q qc x hx
          · rw [List.mem_singleton] at hx; subst hx; exact hqp.symm)]
      rw [hs, fold_E, if_neg (by simp), moveG_eq]
      rw [if_pos (by
        rw [List.all_eq_true]
        intro x hx
        rcases List.mem_append.1 hx with hx | hx
        · rw [hml x hx]; exact (h.pth x hx).1
        · rw [List.mem_singleton] at hx; subst hx; simp only; rw [hmp]; exact hqk)]
      rw [List.nil_append, List.map_append]
      congr 2
      · refine (List.map_congr_left (fun x hx => ?_)).trans (List.map_id l)
        rw [hml x hx]; rfl
      · simp only [List.map_cons, List.map_nil, hmp]
    rw [hmove]
  have e4 := hmv newB otherB n0 t0 nc tc (by decide) (by decide) (by decide) ts (by decide) (by decide) hB
  have hC : OkN (l ++ [(otherB, false, dataB)]) := by have := plainL_ok hB ⟨6, newB, otherB, ⟨#[]⟩⟩; rw [e4] at this; exact this
  have e5 := hmv otherB newB t0 n0 tc nc (by decide) (by decide) (by decide) ns (by decide) (by decide) hC
  refine ⟨e1, e2, e3, e4, e5, ?_⟩
  unfold plainL
  rw [okN_items hB, show opOk ⟨5, newB, ⟨#[]⟩, ⟨#[]⟩⟩ = true from by decide, if_neg (by simp), if_neg (by simp)]
  unfold doL
  simp only [fold_last n0 hB]
  rw [if_neg (by decide), if_pos trivial]
  have hd : dropL (l ++ [(newB, false, dataB)]) ⟨5, newB, ⟨#[]⟩, ⟨#[]⟩⟩ = (l, 0) := by
    unfold dropL
    simp only
    rw [if_neg (by
      rintro (e | e)
      · exact n0 e
      · unfold kidsB at e
        obtain ⟨x, hx, e⟩ := List.any_eq_true.1 e
        rcases List.mem_append.1 hx with hx | hx
        · rw [hun newB nc n0 x hx, Bool.and_false] at e; cases e
        · rw [List.mem_singleton] at hx; subst hx
          rw [decide_eq_true rfl] at e; cases e)]
    rw [List.filter_append, List.filter_eq_self.2 (fun x hx => by rw [decide_eq_false (hne newB nc x hx)]; rfl)]
    simp
  rw [hd]
theorem undone_full {l : List It3} (h : OkN l) (hc : ∀ x ∈ l, Cl x.1) (hl : l.length = 11) : plainL l ⟨1, newB, ⟨#[]⟩, ⟨#[]⟩⟩ = (l, 5, ⟨#[]⟩) := by
  have n0 : newB ≠ ⟨#[]⟩ := by decide
  have nc : ¬ Cl newB := by decide
  have ns : (splitF newB).1 = ⟨#[]⟩ := by decide
  have hne : ∀ q, ¬ Cl q → ∀ x ∈ l, x.1 ≠ q := fun q hq x hx e => hq (e ▸ hc x hx)
  unfold plainL
  rw [okN_items h, show opOk ⟨1, newB, ⟨#[]⟩, ⟨#[]⟩⟩ = true from by decide, if_neg (by simp), if_pos (.inl rfl)]
  unfold makeL
  rw [if_neg (by rintro (e | e); exact n0 e; exact absurd (find_none.2 (hne newB nc)) (by simpa using e))]
  simp only [ns, fold_E]
  rw [if_neg (by simp), if_pos hl]
theorem okN_small {l : List It3} (h : OkN l) : l.length ≤ 2 ^ 20 ∧ ∀ x ∈ l, x.1.size ≤ 2 ^ 20 :=
  ⟨Nat.le_trans h.len (by decide), fun x hx => Nat.le_trans (pathOk_size (h.pth x hx).1) (by decide)⟩
end Go.Proofs.YtoenfbbadfcfpaaGreatDoor
