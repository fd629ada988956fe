/- Draws of volumes. Draws of volumes: what the laws call. Items: what a volume has, as the reference tells it. Paths, the plain law: a path is its names with a byte 47 between; what is split is met one name later. -/
import Derived.Test.YtoenfbbadfcfpaaGreatDoorPFDraw
import Derived.Test.YtoenfbbadfcfpaaGreatDoorPFUsed
import Derived.Test.YtoenfbbadfcfpaaGreatDoorPFDone
import Derived.Test.YtoenfbbadfcfpaaGreatDoorPFWalk
import Derived.Test.YtoenfbbadfcfpaaGreatDoorPFItem
import Derived.Test.YtoenfbbadfcfpaaGreatDoorPFAskS
set_option linter.unusedSimpArgs false
set_option linter.unusedVariables false
namespace Go.Proofs.YtoenfbbadfcfpaaGreatDoor
open Go.VM Go
set_option maxRecDepth 100000
attribute [-go_sem] runW_cons
attribute [local congr] vw_congr runV_congr runH_congr runW_congr runX_congr stuckV_congr stuckX_congr
theorem drawOp_small (L : List UInt8) (c : Cur) : (drawOp L c).1.path.size ≤ 11 ∧ (drawOp L c).1.to.size ≤ 11 := by
  have hp : ∀ c, (drawPath L c).size ≤ 11 := by
    intro c
    have h : ∀ s ∈ pathL, s.size ≤ 11 := by decide
    exact h _ (pickV_mem (l := pathL) L c ⟨#[]⟩ (by decide))
  unfold drawOp
  split
  · exact ⟨hp _, Nat.zero_le _⟩
  · split
    · exact ⟨hp _, hp _⟩
    · exact ⟨hp _, Nat.zero_le _⟩
def stepV (L : List UInt8) (c : Cur) (l : List ByteArray) : List ByteArray := doneL l (askF l (drawOp L c).1).2.2
def changeG (L : List UInt8) : Nat → Cur → List ByteArray → List ByteArray × Cur
  | 0, c, l => (l, c)
  | n + 1, c, l => changeG L n (drawOp L c).2 (stepV L c l)
def drawRight (L : List UInt8) (c : Cur) : List ByteArray × Cur := changeG L (belV L c 22).toNat (byteC L c) volNew
def volFit (l : List ByteArray) : Prop := l.length = 12 ∧ ∀ s ∈ l, s.size ≤ 100
theorem volNew_fit : volFit volNew := ⟨rfl, by decide⟩
theorem stepV_fit {L : List UInt8} {c : Cur} {l : List ByteArray} (h : volFit l) : volFit (stepV L c l) :=
  ⟨by unfold stepV; rw [doneL_len]; exact h.1, doneL_size _ l 100 h.2 (askF_few l _).2⟩
theorem changeG_fit (L : List UInt8) : ∀ (n : Nat) (c : Cur) (l : List ByteArray), volFit l → volFit (changeG L n c l).1
  | 0, c, l, h => h
  | n + 1, c, l, h => changeG_fit L n _ _ (stepV_fit h)
theorem drawRight_fit (L : List UInt8) (c : Cur) : volFit (drawRight L c).1 := changeG_fit L _ _ _ volNew_fit
set_option maxHeartbeats 1000000 in
theorem runs_78 (v : Value) (L : List UInt8) (hL : L.length < 2 ^ 60) (c : Cur) (l : List ByteArray) (C : Cur) (hC : (l, C) = drawRight L c) :
    Runs Tryz.prog 78 [.one (.box [.held v 1 (L.map bRow), .int .i64 c.i, .int .i64 c.h])] [.one (.v (.list true 1 (l.map sRow)))] [(0, ⟨true, 3, [[.held v 1 (L.map bRow), .int .i64 C.i, .int .i64 C.h]], []⟩)] := by
  refine runs_tabB (tab := [(0, .ptr 0 [] 0 0 0)]) (rts := [(0, some ⟨true, 3, [[.held v 1 (L.map bRow), .int .i64 c.i, .int .i64 c.h]], []⟩)]) (n := 23) (k := 1) Tryz.func78 rfl rfl (by simp) rfl (fun t => ?_) rfl ?_
  · rcases t with _ | t <;> rfl
  unfold drawRight at hC
  have rV := runs_104
  have hv0 := volNew_fit
  generalize volNew = v0 at rV hC hv0
  have rB := runs_79 v L hL c 22 (by decide) (by decide)
  have hb := belV_in L c (n := 22) (by decide)
  generalize belV L c 22 = b at rB hC hb
  generalize byteC L c = c1 at rB hC
  obtain ⟨N, rfl⟩ : ∃ N : Nat, b = N := ⟨b.toNat, by omega⟩
  rw [Int.toNat_natCast] at hC
  refine vw_go rfl ?_; simp only [go_sem, setCells, setIn]
  refine vw_go rfl ?_; simp only [go_sem, setCells, setIn]
  refine ⟨_, _, call_rx [] Tryz.func104 (rV) rfl rfl rfl rfl rfl rfl rfl (by simp [lendAll, lendC, seek, fresh, nav, rcells, RT.cells, VV.cells, tabE_cons, tabS_cons, ev, take_map_len, sRow_r1, sRow_comp, sRow_clean]) rfl (by simp [rcells, RT.cells, CT.clean, T.clean, sRow_r1, sRow_comp, sRow_clean]) rfl rfl, ?_⟩
  simp only [runH, runX, go_sem, setCells, setIn]
  refine vw_go rfl ?_; simp only [go_sem, setCells, setIn]
  refine ⟨_, _, call_pt [0, 0] 0 Tryz.func79 (rB) rfl rfl rfl rfl rfl rfl rfl rfl (by simp [lendAll, lendC, seek, fresh, nav, rcells, RT.cells, VV.cells, tabE_cons, tabS_cons, St.put, ev, lit, take_map_len]) rfl rfl (by simp [rcells, RT.cells, CT.fine, T.fine]) (by exact ⟨.inr ⟨0, _, _, rfl, .head _, .head _⟩, trivial, trivial, trivial⟩) rfl rfl, ?_⟩
  simp only [runH, runX, go_sem, setCells, setIn]
  refine vw_seq ?_
  refine vw_go rfl ?_; simp only [go_sem, setCells, setIn]
  refine vw_block ?_
  refine vw_loop_tab (α := Nat × Nat × Cur × List ByteArray × List Path) (fun x => x.1) (fun x => ⟨tabE [(0, .ptr 0 [] 0 0 0), (3, .al 1 [] 0 1 0 x.2.2.2.1.length), (4, .c (.int .i64 N)), (5, .c (.int .i64 x.2.1))],
      tabS [(0, some ⟨true, 3, [[.held v 1 (L.map bRow), .int .i64 x.2.2.1.i, .int .i64 x.2.2.1.h]], x.2.2.2.2⟩), (1, some ⟨false, 1, x.2.2.2.1.map sRow, []⟩)], 2⟩)
    (fun x => x.1 + x.2.1 = N ∧ changeG L x.1 x.2.2.1 x.2.2.2.1 = (l, C) ∧ volFit x.2.2.2.1) (x := (N, 0, c1, v0, [[]])) ?round ?h0 ?hn
  case h0 => exact ⟨rfl, hC.symm, hv0⟩
  case hn =>
    refine norm_to [(0, 0), (65537, 1)] rfl ?_ ?_ <;> simp only [go_sem]
  rintro ⟨n, i, d, w, lg⟩ ⟨hn, hg, hf⟩
  simp only at hn hg hf
  refine vw_seq ?_
  by_cases hc : (i : Int) < N
  case neg =>
    obtain rfl : n = 0 := by omega
    rw [changeG] at hg
    obtain ⟨rfl, rfl⟩ := hg
    refine vw_go rfl ?_; simp only [hc, go_sem, setCells, setIn]
    refine vw_cond (t := false) rfl (fun h => nomatch h) (fun _ => ?_)
    refine vw_exit (x_then (x_then (x_block (n_then ?_))))
    refine vw_go rfl ?_; simp only [go_sem, setCells, setIn]
    have bl : List.take l.length (l.map sRow) = l.map sRow := List.take_of_length_le (by simp)
    exact vw_ret (e_ret (ret_b rfl rfl (by simp [RB]) rfl (by simp only [takeCs, takeC, bl, List.drop_length, go_sem, setCells, setIn]; rfl) (by exact ⟨⟨by simp, _, rfl, rfl, rfl, rfl⟩, trivial⟩)))
  obtain ⟨m, rfl⟩ : ∃ m, n = m + 1 := ⟨n - 1, by omega⟩
  rw [changeG] at hg
  have hf2 := stepV_fit (L := L) (c := d) hf
  have rO := runs_84 v L hL d (drawOp L d).1 (drawOp L d).2 rfl
  have hos := drawOp_small L d
  have rC := runs_105 w (by rw [hf.1]; decide) (fun s hs => Nat.le_trans (hf.2 s hs) (by decide)) (drawOp L d).1 (by omega) (by omega) _ rfl
  unfold stepV at hg hf2
  generalize drawOp L d = oc at rO hg rC hf2
  obtain ⟨o, e⟩ := oc
  simp only at rO hg rC hf2
  generalize askF w o = A at rC hg hf2
  generalize doneL w A.2.2 = u at rC hg hf2
  have bw : List.take w.length (w.map sRow) = w.map sRow := List.take_of_length_le (by simp)
  have w3 : IntKind.wrap .i64 ((i:Int) + 1) = ((i + 1 : Nat) : Int) := by rw [wrap_i64 (by omega) (by omega)]; rfl
  refine vw_go rfl ?_; simp only [hc, go_sem, setCells, setIn]
  refine vw_cond (t := true) rfl (fun _ => ?_) (fun h => nomatch h)
  refine vw_skip (n_then ?_)
  refine vw_seq ?_
  refine vw_block ?_
  refine vw_last rfl ?_; simp only [go_sem, setCells, setIn]
  refine ⟨_, _, call_pt [0] 0 Tryz.func84 (rO) rfl rfl rfl rfl rfl rfl rfl rfl (by simp [lendAll, lendC, seek, fresh, nav, rcells, RT.cells, VV.cells, tabE_cons, tabS_cons, St.put, ev, lit, take_map_len]) rfl rfl (by simp [rcells, RT.cells, CT.fine, T.fine]) (by exact ⟨.inr ⟨0, _, _, rfl, .head _, .head _⟩, trivial, trivial, trivial⟩) rfl rfl, ?_⟩
  simp only [runH, runX, bw, go_sem, setCells, setIn]
  refine ⟨_, _, call_rx [0, 0] Tryz.func105 (rC) rfl rfl rfl rfl rfl rfl rfl (by simp [lendAll, lendC, seek, fresh, nav, rcells, RT.cells, VV.cells, tabE_cons, tabS_cons, ev, take_map_len, sRow_r1, sRow_comp, sRow_clean, bw]) rfl (by simp [rcells, RT.cells, CT.clean, T.clean, sRow_r1, sRow_comp, sRow_clean, bw]) rfl rfl, ?_⟩
  simp only [runH, runX, go_sem, setCells, setIn]
  refine (n_block (n_then ?_))
  refine vw_last rfl ?_; simp only [w3, go_sem, setCells, setIn]
  refine (n_then ?_)
  refine ⟨(m, i + 1, e, u, lg ++ [[]]), by simp only; omega, ⟨by simp only; omega, hg, hf2⟩, ?_⟩
  refine norm_to [(0, 0), (68610, 1)] rfl ?_ ?_ <;> simp only [go_sem]
def pickL : List ByteArray := [⟨#[]⟩, ⟨#[120]⟩, ⟨#[100, 97, 61, 49]⟩, ⟨#[102]⟩, ⟨#[100, 97, 61, 48]⟩]
def drawV (L : List UInt8) (c : Cur) : List ByteArray × Cur :=
  if belV L (drawRight L c).2 12 = 0 then ((drawRight L c).1.set (belV L (byteC L (drawRight L c).2) 12).toNat (pickV L (byteC L (byteC L (drawRight L c).2)) pickL ⟨#[]⟩), byteC L (byteC L (byteC L (drawRight L c).2)))
  else if belV L (drawRight L c).2 12 = 1 then ((drawRight L c).1.drop 1, byteC L (drawRight L c).2)
  else if belV L (drawRight L c).2 12 = 2 then ((drawRight L c).1 ++ [⟨#[]⟩], byteC L (drawRight L c).2)
  else ((drawRight L c).1, byteC L (drawRight L c).2)
theorem drawV_fit (L : List UInt8) (c : Cur) : (drawV L c).1.length ≤ 13 ∧ ∀ s ∈ (drawV L c).1, s.size ≤ 100 := by
  obtain ⟨h1, h2⟩ := drawRight_fit L c
  unfold drawV
  split
  · refine ⟨by simp only [List.length_set]; omega, fun s hs => ?_⟩
    rcases List.mem_or_eq_of_mem_set hs with h | h
    · exact h2 s h
    · have h3 : ∀ s ∈ pickL, s.size ≤ 100 := by decide
      rw [h]; exact h3 _ (pickV_mem (l := pickL) L _ ⟨#[]⟩ (by decide))
  · split
    · exact ⟨by simp only [List.length_drop]; omega, fun s hs => h2 s (List.mem_of_mem_drop hs)⟩
    · split
      · refine ⟨by simp only [List.length_append, List.length_cons, List.length_nil]; omega, fun s hs => ?_⟩
        rcases List.mem_append.1 hs with h | h
        · exact h2 s h
        · rw [List.mem_singleton] at h; rw [h]; exact Nat.zero_le _
      · exact ⟨by show (drawRight L c).1.length ≤ 13; omega, h2⟩
set_option maxHeartbeats 1000000 in
theorem runs_44 (v : Value) (L : List UInt8) (hL : L.length < 2 ^ 60) (c : Cur) (l : List ByteArray) (C : Cur) (hC : (l, C) = drawV L c) :
    Runs Tryz.prog 44 [.one (.box [.held v 1 (L.map bRow), .int .i64 c.i, .int .i64 c.h])] [.one (.v (.list true 1 (l.map sRow)))] [(0, ⟨true, 3, [[.held v 1 (L.map bRow), .int .i64 C.i, .int .i64 C.h]], []⟩)] := by
  refine runs_tabB (tab := [(0, .ptr 0 [] 0 0 0)]) (rts := [(0, some ⟨true, 3, [[.held v 1 (L.map bRow), .int .i64 c.i, .int .i64 c.h]], []⟩)]) (n := 27) (k := 1) Tryz.func44 rfl rfl (by simp) rfl (fun t => ?_) rfl ?_
  · rcases t with _ | t <;> rfl
  unfold drawV at hC
  have rR := runs_78 v L hL c (drawRight L c).1 (drawRight L c).2 rfl
  have hf := drawRight_fit L c
  generalize drawRight L c = r at rR hf hC
  obtain ⟨w, d⟩ := r
  simp only at rR hf hC
  have rB := runs_79 v L hL d 12 (by decide) (by decide)
  have hb := belV_in L d (n := 12) (by decide)
  generalize belV L d 12 = b at rB hC hb
  generalize byteC L d = e at rB hC
  have bw : List.take w.length (w.map sRow) = w.map sRow := List.take_of_length_le (by simp)
  refine vw_go rfl ?_; simp only [go_sem, setCells, setIn]
  refine vw_go rfl ?_; simp only [go_sem, setCells, setIn]
  refine ⟨_, _, call_pt [0] 0 Tryz.func78 (rR) rfl rfl rfl rfl rfl rfl rfl rfl (by simp [lendAll, lendC, seek, fresh, nav, rcells, RT.cells, VV.cells, tabE_cons, tabS_cons, St.put, ev, lit, take_map_len, sRow_r1, sRow_comp, sRow_clean, sRow_fine]) rfl rfl (by simp [rcells, RT.cells, CT.fine, T.fine, sRow_r1, sRow_comp, sRow_clean, sRow_fine]) (by exact ⟨.inr ⟨0, _, _, rfl, .head _, .head _⟩, trivial, trivial, trivial⟩) rfl rfl, ?_⟩
  simp only [runH, runX, bw, go_sem, setCells, setIn]
  refine vw_seq ?_
  refine vw_go rfl ?_; simp only [go_sem, setCells, setIn]
  refine ⟨_, _, call_pt [0, 0] 0 Tryz.func79 (rB) rfl rfl rfl rfl rfl rfl rfl rfl (by simp [lendAll, lendC, seek, fresh, nav, rcells, RT.cells, VV.cells, tabE_cons, tabS_cons, St.put, ev, lit, take_map_len]) rfl rfl (by simp [rcells, RT.cells, CT.fine, T.fine]) (by exact ⟨.inr ⟨0, _, _, rfl, .head _, .head _⟩, trivial, trivial, trivial⟩) rfl rfl, ?_⟩
  simp only [runH, runX, bw, go_sem, setCells, setIn]
  refine vw_block ?_
  by_cases h0 : b = 0
  · rw [if_pos h0] at hC
    have rB2 := runs_79 v L hL e 12 (by decide) (by decide)
    have hb2 := belV_in L e (n := 12) (by decide)
    generalize belV L e 12 = b2 at rB2 hC hb2
    generalize byteC L e = e2 at rB2 hC
    have rP := runs_80 v L hL e2 pickL (by decide) (by decide)
    generalize pickV L e2 pickL ⟨#[]⟩ = x at rP hC
    generalize byteC L e2 = e3 at rP hC
    obtain ⟨K, rfl⟩ : ∃ K : Nat, b2 = K := ⟨b2.toNat, by omega⟩
    rw [Int.toNat_natCast] at hC
    obtain ⟨rfl, rfl⟩ := hC
    have k0 : (0:Int) ≤ (K : Int) := by omega
    have k1 : (K : Int) < w.length := by rw [hf.1]; omega
    have k2 : K < w.length := by omega
    have q2 : (w.map sRow).getD K [] = [.str (w[K])] := by
      rw [List.getD_eq_getElem?_getD, List.getElem?_map, List.getElem?_eq_getElem k2]; rfl
    have q3 : (w.map sRow).set K [.str x] = (w.set K x).map sRow := by
      rw [List.map_set]; rfl
    have bs : List.take w.length ((w.set K x).map sRow) = (w.set K x).map sRow := List.take_of_length_le (by simp)
    have ls : w.length ≤ (w.set K x).length := by simp
    subst h0
    refine vw_go rfl ?_; simp only [go_sem, setCells, setIn]
    refine vw_cond (t := true) rfl (fun _ => ?_) (fun h => nomatch h)
    refine vw_last rfl ?_; simp only [range1, List.replicate_succ, List.replicate_zero, List.flatten_cons, List.flatten_nil, List.range_zero, gt_iff_lt, go_sem, setCells, setIn]
    refine ⟨_, _, call_pt [0, 0] 0 Tryz.func79 (rB2) rfl rfl rfl rfl rfl rfl rfl rfl (by simp [lendAll, lendC, seek, fresh, nav, rcells, RT.cells, VV.cells, tabE_cons, tabS_cons, St.put, ev, lit, take_map_len]) rfl rfl (by simp [rcells, RT.cells, CT.fine, T.fine]) (by exact ⟨.inr ⟨0, _, _, rfl, .head _, .head _⟩, trivial, trivial, trivial⟩) rfl rfl, ?_⟩
    simp only [runH, runX, bw, range1, List.replicate_succ, List.replicate_zero, List.flatten_cons, List.flatten_nil, List.range_zero, gt_iff_lt, go_sem, setCells, setIn]
    refine ⟨_, _, call_pt [0, 0] 0 Tryz.func80 (rP) rfl rfl rfl rfl rfl rfl rfl rfl (by simp [lendAll, lendC, seek, fresh, nav, rcells, RT.cells, VV.cells, tabE_cons, tabS_cons, St.put, ev, lit, take_map_len, sRow, pickL]) rfl rfl (by simp [rcells, RT.cells, CT.fine, T.fine, sRow, pickL]) (by exact ⟨.inr ⟨0, _, _, rfl, .head _, .head _⟩, trivial, trivial, trivial⟩) rfl rfl, ?_⟩
    simp only [runH, runX, bw, k0, k1, k2, q2, q3, Int.toNat_natCast, go_sem, setCells, setIn]
    refine (n_block (n_then ?_))
    refine vw_go rfl ?_; simp only [go_sem, setCells, setIn]
    exact vw_ret (e_ret (ret_b rfl rfl (by simp [RB]) rfl (by simp only [takeCs, takeC, bs, ls, List.drop_length, go_sem, setCells, setIn]; rfl) (by exact ⟨⟨by simp, _, rfl, rfl, rfl, rfl⟩, trivial⟩)))
  rw [if_neg h0] at hC
  refine vw_go rfl ?_; simp only [h0, go_sem, setCells, setIn]
  refine vw_cond (t := false) rfl (fun h => nomatch h) (fun _ => ?_)
  by_cases h1 : b = 1
  · rw [if_pos h1] at hC
    obtain ⟨rfl, rfl⟩ := hC
    subst h1
    refine vw_go rfl ?_; simp only [go_sem, setCells, setIn]
    refine vw_cond (t := true) rfl (fun _ => ?_) (fun h => nomatch h)
    have l1 : 1 ≤ w.length := by rw [hf.1]; decide
    refine vw_last rfl ?_; simp only [l1, go_sem, setCells, setIn]
    refine (n_block (n_then ?_))
    refine vw_go rfl ?_; simp only [go_sem, setCells, setIn]
    have l2 : 1 + (w.length - 1) ≤ w.length := by omega
    have bd : List.take (w.length - 1) (List.drop 1 (w.map sRow)) = (w.drop 1).map sRow := by rw [← List.map_drop]; exact List.take_of_length_le (by simp)
    exact vw_ret (e_ret (ret_b rfl rfl (by simp [RB]) rfl (by simp only [takeCs, takeC, bd, l2, List.drop_length, go_sem, setCells, setIn]; rfl) (by exact ⟨⟨by simp, _, rfl, rfl, rfl, rfl⟩, trivial⟩)))
  rw [if_neg h1] at hC
  refine vw_go rfl ?_; simp only [h1, go_sem, setCells, setIn]
  refine vw_cond (t := false) rfl (fun h => nomatch h) (fun _ => ?_)
  by_cases h2 : b = 2
  · rw [if_pos h2] at hC
    obtain ⟨rfl, rfl⟩ := hC
    subst h2
    refine vw_go rfl ?_; simp only [go_sem, setCells, setIn]
    refine vw_cond (t := true) rfl (fun _ => ?_) (fun h => nomatch h)
    have B1 : ¬ (w.length + 1 + 1) * (16 + 1) > bigRow := by rw [hf.1]; decide
    refine vw_last rfl ?_; simp only [B1, range1, List.replicate_succ, List.replicate_zero, List.flatten_cons, List.flatten_nil, List.range_zero, gt_iff_lt, List.drop_length, bw, go_sem, setCells, setIn]
    refine (n_block (n_then ?_))
    refine vw_go rfl ?_; simp only [go_sem, setCells, setIn]
    have l2 : w.length + 1 ≤ (w.map sRow ++ [[T.str (⟨#[]⟩ : ByteArray)]]).length := by simp
    have bd : List.take (w.length + 1) (w.map sRow ++ [[T.str (⟨#[]⟩ : ByteArray)]]) = (w ++ [(⟨#[]⟩ : ByteArray)]).map sRow := by rw [List.map_append]; exact List.take_of_length_le (by simp)
    exact vw_ret (e_ret (ret_b rfl rfl (by simp [RB]) rfl (by simp only [takeCs, takeC, bd, l2, List.drop_length, go_sem, setCells, setIn]; rfl) (by exact ⟨⟨by simp, _, rfl, rfl, rfl, rfl⟩, trivial⟩)))
  rw [if_neg h2] at hC
  obtain ⟨rfl, rfl⟩ := hC
  refine vw_go rfl ?_; simp only [h2, go_sem, setCells, setIn]
  refine vw_cond (t := false) rfl (fun h => nomatch h) (fun _ => ?_)
  refine vw_skip (n_block (n_then ?_))
  refine vw_go rfl ?_; simp only [go_sem, setCells, setIn]
  exact vw_ret (e_ret (ret_b rfl rfl (by simp [RB]) rfl (by simp only [takeCs, takeC, bw, List.drop_length, go_sem, setCells, setIn]; rfl) (by exact ⟨⟨by simp, _, rfl, rfl, rfl, rfl⟩, trivial⟩)))
end Go.Proofs.YtoenfbbadfcfpaaGreatDoor
namespace Go.Proofs.YtoenfbbadfcfpaaGreatDoor
open Go.VM Go
set_option maxRecDepth 100000
attribute [local congr] vw_congr runV_congr runH_congr runW_congr runX_congr stuckV_congr stuckX_congr
theorem iRow_noOwn (l : List It3) : ((l.map iRow).all fun r => r.all plainT) = true := by
  rw [List.all_map, List.all_eq_true]
  exact fun x _ => rfl
theorem big_41 {x : Nat} (h : x ≤ 2 ^ 22) : ¬ x * (40 + 1) > bigRow := by
  have h1 := Nat.mul_le_mul_right (40 + 1) h
  have h2 : (2 ^ 22 * (40 + 1) : Nat) ≤ bigRow := by decide
  omega
set_option maxHeartbeats 1000000 in
theorem runs_l12_0 (l : List ByteArray) (hl : l.length = 12) (hsz : ∀ s ∈ l, s.size ≤ 2 ^ 20) (f k : Nat) (hk : k < 12) (hd : deepOk l f k) (p : ByteArray) (hp : p.size + 10 * f ≤ 1000) (hf : lim f ≤ 2 ^ 20)
    (ih : ∀ g, f = g + 1 → ∀ (k : Nat) (p : ByteArray), k < 12 → deepOk l g k → p.size + 10 * g ≤ 1000 → lim g ≤ 2 ^ 20 →
      Runs Tryz.prog 47 [.one (.v (.list false 1 (l.map sRow))), .one (.v (.int .i64 k)), .one (.v (.str p))] [.one (.v (.list true 3 ((itemsG l g k p).map iRow)))] []) :
    Runs Tryz.prog 47 [.one (.v (.list false 1 (l.map sRow))), .one (.v (.int .i64 k)), .one (.v (.str p))] [.one (.v (.list true 3 ((itemsG l f k p).map iRow)))] [] := by
  refine runs_tab (tab := [(0, .c (.list false 1 (l.map sRow))), (1, .c (.int .i64 k)), (2, .c (.str p))]) (rts := []) (n := 70) (k := 3) Tryz.func47 rfl rfl (by simp) rfl (fun t => ?_) rfl ?_
  · rcases t with _ | _ | _ | t <;> rfl
  obtain ⟨g, rfl, hok, hkd⟩ := deep_step hd
  have hG : itemsG l (g + 1) k p = itemsK l (itemsG l g) (nodeRead (l.getD k ⟨#[]⟩)).1.names (nodeRead (l.getD k ⟨#[]⟩)).1.kids p := rfl
  rw [hG]
  have hnk := nodeOk_kids (nodeRead_ok hok)
  have hfew := nodeRead_few (l.getD k ⟨#[]⟩)
  have hnm : ∀ y ∈ (nodeRead (l.getD k ⟨#[]⟩)).1.names, y.size ≤ 6 ∧ 1 ≤ y.size := by
    intro y hy
    have hO := nodeRead_ok hok
    rcases hdd : (nodeRead (l.getD k ⟨#[]⟩)).1.dir with _ | _
    · obtain ⟨h1, _⟩ := nodeOk_file hdd hO
      rw [List.eq_nil_of_length_eq_zero h1] at hy; cases hy
    · obtain ⟨_, _, h3⟩ := nodeOk_dir hdd hO
      obtain ⟨i, hi, rfl⟩ := List.getElem_of_mem hy
      have := nodeAt_out (h3 i hi)
      rw [List.getD_eq_getElem?_getD, List.getElem?_eq_getElem hi] at this
      have h6 : ((nodeRead (l.getD k ⟨#[]⟩)).1.names[i]).size ≤ 6 ∧ 1 ≤ ((nodeRead (l.getD k ⟨#[]⟩)).1.names[i]).size := ⟨by simpa using this.1, by simpa using this.2.1⟩
      exact h6
  clear hG hd
  obtain ⟨s, hs⟩ : ∃ s, l[k]? = some s := ⟨_, List.getElem?_eq_getElem (by omega)⟩
  have rA := runs_81 s (hsz s (List.mem_of_getElem? hs)) _ rfl
  rw [getD_of hs] at hok hkd hnk hfew hnm ⊢
  generalize nodeRead s = r at rA hok hkd hnk hfew hnm ⊢
  obtain ⟨n, ok⟩ := r
  simp only at rA hok hkd hnk hfew hnm ⊢
  subst hok
  have c0 : (0:Int) ≤ (k : Int) := by omega
  have c1 : (k : Int) < (l.length : Int) := by omega
  have c3 : k < l.length := by omega
  have bn : List.take n.names.length (n.names.map sRow) = n.names.map sRow := List.take_of_length_le (by simp)
  have bk : List.take n.kids.length (n.kids.map nRow) = n.kids.map nRow := List.take_of_length_le (by simp)
  refine vw_go rfl ?_; simp only [go_sem, setCells, setIn]
  refine vw_go rfl ?_; simp only [range1, List.replicate_succ, List.replicate_zero, List.flatten_cons, List.flatten_nil, List.range_zero, gt_iff_lt, go_sem, setCells, setIn]
  refine vw_go rfl ?_; simp only [c0, c1, c3, Int.toNat_natCast, getD_map_of hs, sRow, go_sem, setCells, setIn]
  refine ⟨_, _, call_rx [0] Tryz.func81 (rA) rfl rfl rfl rfl rfl rfl rfl (by simp [lendAll, lendC, seek, fresh, nav, rcells, RT.cells, VV.cells, tabE_cons, tabS_cons, ev, take_map_len, sRow_r1, sRow_comp, sRow_clean, nRow_r1, nRow_comp, nRow_clean, iRow_clean, iRow_r1]) rfl (by simp [rcells, RT.cells, CT.clean, T.clean, sRow_r1, sRow_comp, sRow_clean, nRow_r1, nRow_comp, nRow_clean, iRow_clean, iRow_r1]) rfl rfl, ?_⟩
  simp only [runH, runX, bn, bk, go_sem, setCells, setIn]
  refine vw_seq ?_
  refine vw_go rfl ?_; simp only [go_sem, setCells, setIn]
  refine vw_block ?_
  refine vw_loop_tab (α := Nat × List It3 × List Path) (fun x => n.names.length - x.1) (fun x => ⟨tabE [(0, .c (.list false 1 (l.map sRow))), (2, .c (.str p)), (7, .al 4 [] 0 3 0 x.2.1.length), (8, .ptr 3 [] 0 0 0), (10, .c (.int .i64 x.1))],
      tabS [(3, some ⟨true, 4, [[.bool n.dir, .list true 1 (n.names.map sRow), .list true 1 (n.kids.map nRow), .str n.data]], [[(0, 1)], [(0, 2)]]⟩), (4, some ⟨false, 3, x.2.1.map iRow, x.2.2⟩)], 5⟩)
    (fun x => x.1 ≤ n.names.length ∧ x.2.1 ++ itemsK l (itemsG l g) (n.names.drop x.1) (n.kids.drop x.1) p = itemsK l (itemsG l g) n.names n.kids p ∧ x.2.1.length + (n.kids.length - x.1) * (1 + lim g) ≤ 2 ^ 20) (x := (0, [], [])) ?round ?h0 ?hn
  case h0 =>
    refine ⟨Nat.zero_le _, rfl, ?_⟩
    have := Nat.mul_le_mul_right (1 + lim g) hfew.1
    simp only [lim, Nat.sub_zero, List.length_nil] at hf ⊢
    omega
  case hn =>
    refine norm_to [(65539, 4), (139267, 3)] rfl ?_ ?_ <;> simp only [go_sem]
  rintro ⟨i, q, lg⟩ ⟨hi, hg, hlen⟩
  simp only at hi hg hlen
  refine vw_seq ?_
  by_cases hc : (i : Int) < n.names.length
  case neg =>
    rw [List.drop_eq_nil_of_le (by omega), List.drop_eq_nil_of_le (by omega)] at hg
    have e0 : itemsK l (itemsG l g) [] [] p = [] := by unfold itemsK; rfl
    rw [e0, List.append_nil] at hg
    rw [← hg]
    have bq : List.take q.length (q.map iRow) = q.map iRow := List.take_of_length_le (by simp)
    refine vw_go rfl ?_; simp only [hc, List.drop_length, go_sem, setCells, setIn]
    refine vw_cond (t := false) rfl (fun h => nomatch h) (fun _ => ?_)
    refine vw_exit (x_then (x_then (x_block (n_then ?_))))
    refine vw_go rfl ?_; simp only [go_sem, setCells, setIn]
    exact vw_ret (e_ret (ret_by rfl rfl (by simp [RB]) rfl (by simp only [takeCs, takeC, bq, go_sem, setCells, setIn])))
  have hin : i < n.names.length := by omega
  have hik : i < n.kids.length := by omega
  obtain ⟨a, ha⟩ : ∃ a, n.names[i]? = some a := ⟨_, List.getElem?_eq_getElem hin⟩
  obtain ⟨y, hy⟩ : ∃ y, n.kids[i]? = some y := ⟨_, List.getElem?_eq_getElem hik⟩
  have hda : n.names.drop i = a :: n.names.drop (i + 1) := by
    rw [List.drop_eq_getElem_cons hin]
    congr 1
    rw [List.getElem?_eq_getElem hin] at ha
    exact Option.some.inj ha
  have hdk : n.kids.drop i = y :: n.kids.drop (i + 1) := by
    rw [List.drop_eq_getElem_cons hik]
    congr 1
    rw [List.getElem?_eq_getElem hik] at hy
    exact Option.some.inj hy
  have hyr := hnk.1 y (List.mem_of_getElem? hy)
  have hyd := hkd y (List.mem_of_getElem? hy)
  have has := hnm a (List.mem_of_getElem? ha)
  obtain ⟨z, rfl⟩ : ∃ z : Nat, y = z := ⟨y.toNat, by omega⟩
  rw [Int.toNat_natCast] at hyd
  rw [hda, hdk, itemsK, Int.toNat_natCast] at hg
  obtain ⟨t, ht⟩ : ∃ s, l[z]? = some s := ⟨_, List.getElem?_eq_getElem (by omega)⟩
  rw [getD_of ht] at hg
  have rZ := runs_81 t (hsz t (List.mem_of_getElem? ht)) _ rfl
  generalize nodeRead t = zz at rZ hg
  obtain ⟨m, mok⟩ := zz
  simp only at rZ hg
  have d0 : (0:Int) ≤ (i : Int) := by omega
  have d1 : (i : Int) < n.kids.length := by omega
  have z0 : (0:Int) ≤ (z : Int) := by omega
  have z1 : (z : Int) < l.length := by omega
  have z2 : z < l.length := by omega
  have w3 : IntKind.wrap .i64 ((i:Int) + 1) = ((i + 1 : Nat) : Int) := by rw [wrap_i64 (by omega) (by omega)]; rfl
  have hown : (p ++ a).size ≤ p.size + 6 := by rw [ByteArray.size_append]; omega
  have A1 : p.size + a.size < 2 ^ 60 := by omega
  have A2 : (p ++ a).size + 1 < 2 ^ 60 := by omega
  have bn2 : List.take m.names.length (m.names.map sRow) = m.names.map sRow := List.take_of_length_le (by simp)
  have bk2 : List.take m.kids.length (m.kids.map nRow) = m.kids.map nRow := List.take_of_length_le (by simp)
  have bq : List.take q.length (q.map iRow) = q.map iRow := List.take_of_length_le (by simp)
  have hmul : (1 + lim g) ≤ (n.kids.length - i) * (1 + lim g) := Nat.le_mul_of_pos_left _ (by omega)
  have hmul2 : (n.kids.length - i) * (1 + lim g) = (n.kids.length - (i + 1)) * (1 + lim g) + (1 + lim g) := by
    rw [show n.kids.length - i = (n.kids.length - (i + 1)) + 1 from by omega, Nat.add_mul, Nat.one_mul]
  have B1 : ¬ (q.length + 1 + 1) * (40 + 1) > bigRow := big_41 (by omega)
  refine vw_go rfl ?_; simp only [hc, List.drop_length, go_sem, setCells, setIn]
  refine vw_cond (t := true) rfl (fun _ => ?_) (fun h => nomatch h)
  refine vw_skip (n_then ?_)
  refine vw_seq ?_
  refine vw_block ?_
  refine vw_go rfl ?_; simp only [d0, d1, hik, z0, z1, z2, Int.toNat_natCast, getD_map_of hy, getD_map_of ht, nRow, sRow, List.drop_length, go_sem, setCells, setIn]
  refine ⟨_, _, call_rx [0] Tryz.func81 (rZ) rfl rfl rfl rfl rfl rfl rfl (by simp [lendAll, lendC, seek, fresh, nav, rcells, RT.cells, VV.cells, tabE_cons, tabS_cons, ev, take_map_len, sRow_r1, sRow_comp, sRow_clean, nRow_r1, nRow_comp, nRow_clean, iRow_clean, iRow_r1]) rfl (by simp [rcells, RT.cells, CT.clean, T.clean, sRow_r1, sRow_comp, sRow_clean, nRow_r1, nRow_comp, nRow_clean, iRow_clean, iRow_r1]) rfl rfl, ?_⟩
  simp only [runH, runX, bn2, bk2, go_sem, setCells, setIn]
  refine vw_go rfl ?_; simp only [d0, hc, hin, Int.toNat_natCast, getD_map_of ha, sRow, List.drop_length, A1, go_sem, setCells, setIn]
  generalize p ++ a = own at hg hown A2 ⊢
  refine vw_go rfl ?_; simp only [bq, B1, List.drop_length, List.length_append, range1, List.replicate_succ, List.replicate_zero, List.flatten_cons, List.flatten_nil, List.range_zero, gt_iff_lt, take_snocI, go_sem, setCells, setIn]
  have e4 : q.map iRow ++ [[.str own, .bool m.dir, .str m.data]] = (q ++ [((own, m.dir, m.data) : It3)]).map iRow := by simp [iRow]
  have e5 : q.length + 1 = (q ++ [((own, m.dir, m.data) : It3)]).length := by simp
  rw [e4, e5]
  have hq1 : (q ++ [((own, m.dir, m.data) : It3)]).length = q.length + 1 := by simp
  have hg' : (q ++ [((own, m.dir, m.data) : It3)]) ++ (itemsG l g z (own ++ ⟨#[47]⟩) ++ itemsK l (itemsG l g) (n.names.drop (i + 1)) (n.kids.drop (i + 1)) p) = itemsK l (itemsG l g) n.names n.kids p := by
    rw [← hg]; simp
  generalize q ++ [((own, m.dir, m.data) : It3)] = q1 at hq1 hg' ⊢
  have hsl : (own ++ (⟨#[47]⟩ : ByteArray)).size = own.size + 1 := by rw [ByteArray.size_append]; rfl
  have rI := ih g rfl z (own ++ ⟨#[47]⟩) (by omega) hyd (by omega) (by simp only [lim] at hf; omega)
  have hgl := itemsG_len l g z (own ++ ⟨#[47]⟩)
  generalize itemsG l g z (own ++ ⟨#[47]⟩) = it at rI hg' hgl
  have bq1 : List.take q1.length (q1.map iRow) = q1.map iRow := List.take_of_length_le (by simp)
  have bit : List.take it.length (it.map iRow) = it.map iRow := List.take_of_length_le (by simp)
  have B2 : ¬ (q1.length + it.length + 1) * (40 + 1) > bigRow := big_41 (by clear rI rA rZ ih hg hg'; omega)
  refine vw_last rfl ?_; simp only [d0, d1, hik, Int.toNat_natCast, getD_map_of hy, nRow, List.drop_length, A2, ByteArray.size_append, sz_lit, List.size_toArray, List.length_cons, List.length_nil, go_sem, setCells, setIn]
  refine ⟨_, _, call_rx [0, 0, 0] Tryz.func47 (rI) rfl rfl rfl rfl rfl rfl rfl (by simp [lendAll, lendC, seek, fresh, nav, rcells, RT.cells, VV.cells, tabE_cons, tabS_cons, ev, take_map_len, sRow_r1, sRow_comp, sRow_clean, nRow_r1, nRow_comp, nRow_clean, iRow_clean, iRow_r1]) rfl (by simp [rcells, RT.cells, CT.clean, T.clean, sRow_r1, sRow_comp, sRow_clean, nRow_r1, nRow_comp, nRow_clean, iRow_clean, iRow_r1]) rfl rfl, ?_⟩
  simp only [runH, runX, bq1, bit, B2, List.drop_length, List.length_append, range1, List.replicate_succ, List.replicate_zero, List.flatten_cons, List.flatten_nil, List.range_zero, gt_iff_lt, iRow_noOwn, go_sem, setCells, setIn]
  refine (n_block (n_then ?_))
  refine vw_last rfl ?_; simp only [w3, go_sem, setCells, setIn]
  refine (n_then ?_)
  have e6 : q1.map iRow ++ it.map iRow = (q1 ++ it).map iRow := by simp
  have e7 : q1.length + it.length = (q1 ++ it).length := by simp
  rw [← List.append_assoc] at hg'
  have hq2 : (q1 ++ it).length ≤ q.length + 1 + lim g := by rw [List.length_append]; omega
  rw [e6, e7]
  generalize q1 ++ it = q2 at hg' hq2 ⊢
  refine ⟨(i + 1, q2, []), by simp only; omega, ⟨by simp only; omega, hg', by simp only; omega⟩, ?_⟩
  refine norm_to [(272389, 4), (3, 3)] rfl ?_ ?_ <;> simp only [go_sem]
theorem runs_47 (l : List ByteArray) (hl : l.length = 12) (hsz : ∀ s ∈ l, s.size ≤ 2 ^ 20) : ∀ (f k : Nat) (p : ByteArray), k < 12 → deepOk l f k → p.size + 10 * f ≤ 1000 → lim f ≤ 2 ^ 20 →
    Runs Tryz.prog 47 [.one (.v (.list false 1 (l.map sRow))), .one (.v (.int .i64 k)), .one (.v (.str p))] [.one (.v (.list true 3 ((itemsG l f k p).map iRow)))] []
  | 0, k, p, hk, hd, hp, ho => runs_l12_0 l hl hsz 0 k hk hd p hp ho (fun g e => by omega)
  | f + 1, k, p, hk0, hd0, hp0, ho0 => runs_l12_0 l hl hsz (f + 1) k hk0 hd0 p hp0 ho0 (fun g e k p hk hd hp ho => by
      have e' : g = f := by omega
      subst e'
      exact runs_47 l hl hsz g k p hk hd hp ho)
theorem runs_18 (l : List ByteArray) (hl : l.length < 2 ^ 60) (hsz : ∀ s ∈ l, s.size ≤ 2 ^ 20) : Runs Tryz.prog 18 [.one (.v (.list false 1 (l.map sRow)))] [.one (.v (.list true 3 ((itemsV l).map iRow)))] [] := by
  refine runs_tab (tab := [(0, .c (.list false 1 (l.map sRow)))]) (rts := []) (n := 9) (k := 1) Tryz.func18 rfl rfl (by simp) rfl (fun t => ?_) rfl ?_
  · rcases t with _ | t <;> rfl
  have rV := runs_46 l hl hsz
  unfold itemsV
  refine vw_go rfl ?_; simp only [go_sem, setCells, setIn]
  refine vw_seq ?_
  refine vw_go rfl ?_; simp only [go_sem, setCells, setIn]
  refine ⟨_, _, call_rx [0] Tryz.func46 (rV) rfl rfl rfl rfl rfl rfl rfl (by simp [lendAll, lendC, seek, fresh, nav, rcells, RT.cells, VV.cells, tabE_cons, tabS_cons, ev, take_map_len, sRow_r1, sRow_comp, sRow_clean, nRow_r1, nRow_comp, nRow_clean, iRow_clean, iRow_r1]) rfl (by simp [rcells, RT.cells, CT.clean, T.clean, sRow_r1, sRow_comp, sRow_clean, nRow_r1, nRow_comp, nRow_clean, iRow_clean, iRow_r1]) rfl rfl, ?_⟩
  cases hv : volOk l
  · simp only [runH, runX, go_sem, setCells, setIn]
    refine vw_cond (t := true) rfl (fun _ => ?_) (fun h => nomatch h)
    refine vw_go rfl ?_; simp only [range1, List.replicate_succ, List.replicate_zero, List.flatten_cons, List.flatten_nil, List.range_zero, gt_iff_lt, go_sem, setCells, setIn]
    exact vw_ret (r_then (e_ret (ret_of rfl rfl (by simp [RB]) rfl rfl)))
  obtain ⟨h12, hd⟩ := volOk_deep hv
  have rI := runs_47 l h12 hsz 5 0 ⟨#[]⟩ (by decide) hd (by decide) (by decide)
  have bi : List.take (itemsG l 5 0 ⟨#[]⟩).length ((itemsG l 5 0 ⟨#[]⟩).map iRow) = (itemsG l 5 0 ⟨#[]⟩).map iRow := List.take_of_length_le (by simp)
  simp only [runH, runX, go_sem, setCells, setIn]
  refine vw_cond (t := false) rfl (fun h => nomatch h) (fun _ => ?_)
  refine vw_skip (n_then ?_)
  refine vw_go rfl ?_; simp only [go_sem, setCells, setIn]
  refine ⟨_, _, call_rx [0, 0, 0] Tryz.func47 (rI) rfl rfl rfl rfl rfl rfl rfl (by simp [lendAll, lendC, seek, fresh, nav, rcells, RT.cells, VV.cells, tabE_cons, tabS_cons, ev, take_map_len, lit, sRow_r1, sRow_comp, sRow_clean, nRow_r1, nRow_comp, nRow_clean, iRow_clean, iRow_r1]) rfl (by simp [rcells, RT.cells, CT.clean, T.clean, lit, sRow_r1, sRow_comp, sRow_clean, nRow_r1, nRow_comp, nRow_clean, iRow_clean, iRow_r1]) rfl rfl, ?_⟩
  simp only [runH, runX, go_sem, setCells, setIn]
  exact vw_ret (e_ret (ret_by rfl rfl (by simp [RB]) rfl (by simp only [takeCs, takeC, go_sem, setCells, setIn])))
end Go.Proofs.YtoenfbbadfcfpaaGreatDoor
namespace Go.Proofs.YtoenfbbadfcfpaaGreatDoor
open Go.VM Go
/-- What is between i and j of a text, as bytes. -/
theorem cut_bytes (s : ByteArray) (i j : Nat) : (s.extract i j).data.toList = (s.data.toList.take j).drop i := by
  rw [ByteArray.data_extract, Array.toList_extract, List.extract_eq_take_drop, List.drop_take]
theorem cut_join (s : ByteArray) {fr i : Nat} (h : fr ≤ i) (hi : i < s.size) (h47 : s.data.toList.getD i 0 = 47) : s.extract fr i ++ ⟨#[47]⟩ ++ s.extract (i + 1) s.size = s.extract fr s.size := by
  refine ba_eq ?_
  rw [add_bytes, add_bytes, cut_bytes, cut_bytes, cut_bytes]
  have hl : s.data.toList.length = s.size := bs_len s
  have e : s.data.toList.take s.size = s.data.toList := List.take_of_length_le (by omega)
  rw [e]
  obtain ⟨b, hb⟩ : ∃ b, s.data.toList[i]? = some b := ⟨_, List.getElem?_eq_getElem (by omega)⟩
  rw [getD_of hb] at h47
  subst h47
  have e2 : s.data.toList.drop fr = (s.data.toList.drop fr).take (i - fr) ++ (s.data.toList.drop fr).drop (i - fr) := (List.take_append_drop _ _).symm
  rw [e2, List.drop_drop, show fr + (i - fr) = i from by omega, drop_of hb, List.drop_take, List.append_assoc]
  rfl
def jn : ByteArray → List ByteArray → ByteArray
  | acc, [] => acc
  | acc, x :: xs => jn (acc ++ ⟨#[47]⟩ ++ x) xs
def joinF : List ByteArray → ByteArray
  | [] => ⟨#[]⟩
  | x :: xs => jn x xs
theorem app_assoc (a b c : ByteArray) : a ++ b ++ c = a ++ (b ++ c) := ba_eq (by rw [add_bytes, add_bytes, add_bytes, add_bytes, List.append_assoc])
theorem app_nil (a : ByteArray) : a ++ ⟨#[]⟩ = a := ba_eq (by rw [add_bytes]; exact List.append_nil _)
theorem nil_app (a : ByteArray) : ⟨#[]⟩ ++ a = a := ba_eq (by rw [add_bytes]; rfl)
theorem pcs_join (s : ByteArray) : ∀ (n fr i : Nat) (acc : ByteArray), fr ≤ i → i + n = s.size → ∃ p ps, pcs 47 s n fr i = p :: ps ∧ jn (acc ++ p) ps = acc ++ s.extract fr s.size
  | 0, fr, i, acc, h, hi => by
    obtain rfl : i = s.size := by omega
    exact ⟨_, _, rfl, rfl⟩
  | n + 1, fr, i, acc, h, hi => by
    rw [pcs]
    split
    · rename_i h47
      obtain ⟨p, ps, e, ej⟩ := pcs_join s n (i + 1) (i + 1) (acc ++ s.extract fr i ++ ⟨#[47]⟩) (Nat.le_refl _) (by omega)
      refine ⟨_, _, rfl, ?_⟩
      rw [e, jn, ej, app_assoc (acc ++ s.extract fr i), app_assoc acc, ← app_assoc (s.extract fr i), cut_join s h (by omega) h47]
    · exact pcs_join s n fr (i + 1) acc (by omega) (by omega)
theorem names_join (s : ByteArray) : joinF (names s) = s := by
  obtain ⟨p, ps, e, ej⟩ := pcs_join s s.size 0 0 ⟨#[]⟩ (Nat.le_refl _) (by omega)
  unfold names
  rw [e, joinF]
  rw [nil_app, nil_app] at ej
  rw [ej]
  refine ba_eq ?_
  rw [cut_bytes, List.drop_zero, List.take_of_length_le (by rw [bs_len]; omega)]
/-! ### what is split -/
theorem pcs_none (s : ByteArray) : ∀ (n fr i : Nat), i + n = s.size → (∀ j, i ≤ j → j < s.size → ¬ s.data.toList.getD j 0 = 47) → pcs 47 s n fr i = [s.extract fr s.size]
  | 0, fr, i, hi, _ => by obtain rfl : i = s.size := by omega
                          rfl
  | n + 1, fr, i, hi, h => by
    rw [pcs, if_neg (h i (Nat.le_refl _) (by omega))]
    exact pcs_none s n fr (i + 1) (by omega) (fun j h1 h2 => h j (by omega) h2)
theorem head_getD (s : ByteArray) {k i : Nat} (h : i < k) (hk : k ≤ s.size) : (s.extract 0 k).data.toList.getD i 0 = s.data.toList.getD i 0 := by
  rw [head_bytes, List.getD_eq_getElem?_getD, List.getD_eq_getElem?_getD, List.getElem?_take_of_lt h]
theorem head_cut (s : ByteArray) {k fr i : Nat} (h : i ≤ k) : (s.extract 0 k).extract fr i = s.extract fr i := by
  refine ba_eq ?_
  rw [cut_bytes, cut_bytes, cut_bytes, List.drop_zero, List.take_take, Nat.min_eq_left h]
theorem pcs_cut (s : ByteArray) (k : Nat) (hk : k < s.size) (h47 : s.data.toList.getD k 0 = 47) : ∀ (m fr i : Nat), i + m = k → pcs 47 s (s.size - i) fr i = pcs 47 (s.extract 0 k) m fr i ++ pcs 47 s (s.size - (k + 1)) (k + 1) (k + 1)
  | 0, fr, i, hi => by
    obtain rfl : i = k := by omega
    rw [pcs_hit hk h47, pcs, head_cut s (Nat.le_refl _)]
    rfl
  | m + 1, fr, i, hi => by
    rw [pcs, head_getD s (by omega) (by omega)]
    split
    · rename_i h
      rw [pcs_hit (by omega) h, pcs_cut s k hk h47 m (i + 1) (i + 1) (by omega), head_cut s (by omega)]
      rfl
    · rename_i h
      rw [pcs_miss (by omega) h]
      exact pcs_cut s k hk h47 m fr (i + 1) (by omega)
theorem lastCut_none {l : List UInt8} : ∀ n, lastCut l n = 0 → ∀ j, j < n → ¬ l.getD j 0 = 47
  | 0, _, j, hj => absurd hj (Nat.not_lt_zero _)
  | n + 1, h, j, hj => by
    rw [lastCut] at h
    split at h
    · cases h
    · rename_i h1
      by_cases e : j = n
      · rw [e]; exact h1
      · exact lastCut_none n h j (by omega)
theorem lastCut_some {l : List UInt8} {k : Nat} : ∀ n, lastCut l n = k + 1 → k < n ∧ l.getD k 0 = 47 ∧ ∀ j, k < j → j < n → ¬ l.getD j 0 = 47
  | 0, h => nomatch h
  | n + 1, h => by
    rw [lastCut] at h
    split at h
    · rename_i h1
      obtain rfl : n = k := by omega
      exact ⟨by omega, h1, fun j h2 h3 => absurd h2 (by omega)⟩
    · rename_i h1
      obtain ⟨a, b, c⟩ := lastCut_some n h
      refine ⟨by omega, b, fun j h2 h3 => ?_⟩
      by_cases e : j = n
      · rw [e]; exact h1
      · exact c j h2 (by omega)
theorem extract_size {s : ByteArray} {i j : Nat} (h : j ≤ s.size) : (s.extract i j).size = j - i := by
  rw [ByteArray.size_extract]; omega
theorem nameOk_nil : nameOk ⟨#[]⟩ = false := by decide
/-- What is split well is its names, and the last of them. -/
theorem split_names {s : ByteArray} (h : (splitF s).2.2 = true) : pathOk s = true ∧ namesZ s = namesZ (splitF s).1 ++ [(splitF s).2.1] ∧ pathOk (splitF s).1 = true ∧ underB s (splitF s).1 = true := by
  have h0 : ¬ s = ⟨#[]⟩ := fun e => by rw [splitF_nil e] at h; cases h
  have h1 : pathOk s = true := by
    cases hp : pathOk s
    · rw [splitF_bad hp] at h; cases h
    · rfl
  have hz : namesZ s = names s := by unfold namesZ; rw [if_neg h0]
  have hall : pathOk s = true → ∀ st : List ByteArray, (∃ x, namesZ s = st ++ x) → (st.all nameOk && decide ((st.length : Int) ≤ 4)) = true := by
    intro hp st hx
    obtain ⟨x, hx⟩ := hx
    unfold pathOk at hp
    rw [hx] at hp
    simp only [Bool.and_eq_true, decide_eq_true_eq, List.all_append, List.length_append] at hp ⊢
    exact ⟨hp.1.1, by omega⟩
  have hE : pathOk ⟨#[]⟩ = true := by decide
  cases hc : lastCut s.data.toList s.size with
  | zero =>
    rw [splitF_top h0 h1 hc]
    have hn : names s = [s] := by
      unfold names
      rw [pcs_none s s.size 0 0 (by omega) (fun j _ h2 => lastCut_none s.size hc j h2)]
      congr 1
      refine ba_eq ?_
      rw [cut_bytes, List.drop_zero, List.take_of_length_le (by rw [bs_len]; omega)]
    refine ⟨h1, ?_, hE, ?_⟩
    · rw [hz, hn]; rfl
    · unfold underB; rw [h1, hE]; rfl
  | succ k =>
    obtain ⟨k1, k2, k3⟩ := lastCut_some s.size hc
    rw [splitF_cut h0 h1 hc]
    have hn : names s = names (s.extract 0 k) ++ [s.extract (k + 1) s.size] := by
      have e1 : (s.extract 0 k).size = k := by rw [extract_size (by omega), Nat.sub_zero]
      have e := pcs_cut s k k1 k2 k 0 0 (by omega)
      rw [Nat.sub_zero] at e
      unfold names
      rw [e, e1, pcs_none s (s.size - (k + 1)) (k + 1) (k + 1) (by omega) (fun j h2 h3 => k3 j (by omega) h3)]
    have hk : ¬ s.extract 0 k = ⟨#[]⟩ := by
      intro e
      have := h1
      unfold pathOk at this
      rw [hz, hn, e] at this
      have e2 : names ⟨#[]⟩ = [⟨#[]⟩] := rfl
      rw [e2] at this
      simp only [List.cons_append, List.nil_append, List.all_cons, nameOk_nil, Bool.false_and] at this
      cases this
    have hu : namesZ (s.extract 0 k) = names (s.extract 0 k) := by unfold namesZ; rw [if_neg hk]
    have hup : pathOk (s.extract 0 k) = true := by
      unfold pathOk
      exact hall h1 _ ⟨[s.extract (k + 1) s.size], by rw [hz, hn, hu]⟩
    refine ⟨h1, by rw [hz, hn, hu], hup, ?_⟩
    have e1 : (s.extract 0 k).size = k := by rw [extract_size (by omega), Nat.sub_zero]
    unfold underB preB
    rw [h1, hup, e1, k2]
    have : (k : Int) < s.size := by omega
    simp [this]
end Go.Proofs.YtoenfbbadfcfpaaGreatDoor
namespace Go.Proofs.YtoenfbbadfcfpaaGreatDoor
open Go.VM
set_option maxRecDepth 100000
attribute [local congr] vw_congr runV_congr runH_congr runW_congr runX_congr stuckV_congr stuckX_congr
def zI : List T := [.str ⟨#[]⟩, .bool false, .str ⟨#[]⟩]
end Go.Proofs.YtoenfbbadfcfpaaGreatDoor
