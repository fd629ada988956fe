/- The reader of the program: number, text, done, unsummed; RecRead of the program. -/
import Derived.Test.YtppbonbghmdhhaaGreatPFRec
namespace Go.Proofs.YtppbonbghmdhhaaGreat
open Go.VM Go
set_option maxRecDepth 100000
set_option linter.unusedSimpArgs false
set_option linter.unusedVariables false
attribute [local congr] vw_congr runV_congr runH_congr runW_congr runX_congr
theorem bRow_fine (H : Value → Nat → List (List T) → Prop) (l : List UInt8) : fineRs H (l.map bRow) = True := eq_true (fineRs_of (bRow_clean l))

def numR (b : List UInt8) (a : Int) (bad : Bool) : Int × Int × Bool := if (bad || !(getNum b a).2.2) = true then (0, a, true) else ((getNum b a).1, (getNum b a).2.1, false)
def txtR (b : List UInt8) (a : Int) (bad : Bool) : ByteArray × Int × Bool := if (bad || !(getText b a).2.2) = true then (⟨#[]⟩, a, true) else ((getText b a).1, (getText b a).2.1, false)

theorem runs_184 (b : List UInt8) (hb : b.length < 2 ^ 62) (a : Int) (bad : Bool) (R : Int × Int × Bool) (hR : R = numR b a bad) :
    Runs Tryz.prog 184 [.one (.box [.list true 1 (b.map bRow), .int .i64 a, .bool bad])] [.one (.v (.int .i64 R.1))] [(0, ⟨true, 3, [[.list true 1 (b.map bRow), .int .i64 R.2.1, .bool R.2.2]], []⟩)] := by
  refine runs_tabB (tab := [(0, .ptr 0 [] 0 0 0)]) (rts := [(0, some ⟨true, 3, [[.list true 1 (b.map bRow), .int .i64 a, .bool bad]], []⟩)]) (n := 35) (k := 1) Tryz.func184 rfl rfl (by simp) rfl (fun t => ?_) rfl ?_
  · rcases t with _ | t <;> rfl
  have rG := runs_223 b hb a _ rfl
  unfold numR at hR
  generalize getNum b a = g at rG hR
  obtain ⟨v, n, ok⟩ := g
  (try simp only at rG)
  (refine vw_go rfl ?_; simp only [go_sem, setCells, setIn])
  (refine vw_draw mixed rfl rfl ?_; simp only [go_sem, setCells, setIn])
  (refine ⟨_, _, _, call_rx_at [0, 0] [0] Tryz.func223 (rG) rfl rfl rfl rfl rfl rfl rfl (fun st1 hst1 => by (try simp only [List.mem_cons, List.not_mem_nil, or_false, false_or, forall_eq_or_imp, forall_eq] at hst1); simp [lendAll, lendC, seek, fresh, nav, rcells, RT.cells, VV.cells, tabE_cons, tabS_cons, ev, take_map_len, hst1, bRow_r1, bRow_comp, bRow_clean]) rfl (by simp [rcells, RT.cells, CT.clean, T.clean, bRow_r1, bRow_comp, bRow_clean]) rfl rfl, ?_⟩)
  simp only [runH, runX, go_sem, setCells, setIn]
  refine ⟨by unfold allOk; kernel_rfl, ?_⟩
  refine vw_seq ?_
  cases bad
  · cases ok
    · subst hR
      (refine vw_go rfl ?_; simp only [go_sem, setCells, setIn])
      (refine vw_cond (t := true) rfl (fun _ => ?_) (fun h => nomatch h))
      (refine vw_go rfl ?_; simp only [go_sem, setCells, setIn])
      (refine vw_go rfl ?_; simp only [go_sem, setCells, setIn])
      exact vw_ret (r_then (e_ret (ret_b rfl rfl (by simp [RB]) rfl rfl ⟨⟨by simp, _, rfl, rfl, rfl, rfl⟩, trivial⟩)))
    · subst hR
      (refine vw_go rfl ?_; simp only [go_sem, setCells, setIn])
      (refine vw_cond (t := false) rfl (fun h => nomatch h) (fun _ => ?_))
      refine vw_skip (n_then ?_)
      (refine vw_go rfl ?_; simp only [go_sem, setCells, setIn])
      (refine vw_go rfl ?_; simp only [go_sem, setCells, setIn])
      exact vw_ret (e_ret (ret_b rfl rfl (by simp [RB]) rfl rfl ⟨⟨by simp, _, rfl, rfl, rfl, rfl⟩, trivial⟩))
  · subst hR
    (refine vw_go rfl ?_; simp only [go_sem, setCells, setIn])
    (refine vw_cond (t := true) rfl (fun _ => ?_) (fun h => nomatch h))
    (refine vw_go rfl ?_; simp only [go_sem, setCells, setIn])
    (refine vw_go rfl ?_; simp only [go_sem, setCells, setIn])
    exact vw_ret (r_then (e_ret (ret_b rfl rfl (by simp [RB]) rfl rfl ⟨⟨by simp, _, rfl, rfl, rfl, rfl⟩, trivial⟩)))

theorem runs_185 (b : List UInt8) (hb : b.length < 2 ^ 62) (a : Int) (bad : Bool) (R : ByteArray × Int × Bool) (hR : R = txtR b a bad) :
    Runs Tryz.prog 185 [.one (.box [.list true 1 (b.map bRow), .int .i64 a, .bool bad])] [.one (.v (.str R.1))] [(0, ⟨true, 3, [[.list true 1 (b.map bRow), .int .i64 R.2.1, .bool R.2.2]], []⟩)] := by
  refine runs_tabB (tab := [(0, .ptr 0 [] 0 0 0)]) (rts := [(0, some ⟨true, 3, [[.list true 1 (b.map bRow), .int .i64 a, .bool bad]], []⟩)]) (n := 35) (k := 1) Tryz.func185 rfl rfl (by simp) rfl (fun t => ?_) rfl ?_
  · rcases t with _ | t <;> rfl
  have rG := runs_224 b hb a _ rfl
  unfold txtR at hR
  generalize getText b a = g at rG hR
  obtain ⟨v, n, ok⟩ := g
  (try simp only at rG)
  (refine vw_go rfl ?_; simp only [go_sem, setCells, setIn])
  (refine vw_draw mixed rfl rfl ?_; simp only [go_sem, setCells, setIn])
  (refine ⟨_, _, _, call_rx_at [0, 0] [0] Tryz.func224 (rG) rfl rfl rfl rfl rfl rfl rfl (fun st1 hst1 => by (try simp only [List.mem_cons, List.not_mem_nil, or_false, false_or, forall_eq_or_imp, forall_eq] at hst1); simp [lendAll, lendC, seek, fresh, nav, rcells, RT.cells, VV.cells, tabE_cons, tabS_cons, ev, take_map_len, hst1, bRow_r1, bRow_comp, bRow_clean]) rfl (by simp [rcells, RT.cells, CT.clean, T.clean, bRow_r1, bRow_comp, bRow_clean]) rfl rfl, ?_⟩)
  simp only [runH, runX, go_sem, setCells, setIn]
  refine ⟨by unfold allOk; kernel_rfl, ?_⟩
  refine vw_seq ?_
  cases bad
  · cases ok
    · subst hR
      (refine vw_go rfl ?_; simp only [go_sem, setCells, setIn])
      (refine vw_cond (t := true) rfl (fun _ => ?_) (fun h => nomatch h))
      (refine vw_go rfl ?_; simp only [go_sem, setCells, setIn])
      (refine vw_go rfl ?_; simp only [go_sem, setCells, setIn])
      exact vw_ret (r_then (e_ret (ret_b rfl rfl (by simp [RB]) rfl rfl ⟨⟨by simp, _, rfl, rfl, rfl, rfl⟩, trivial⟩)))
    · subst hR
      (refine vw_go rfl ?_; simp only [go_sem, setCells, setIn])
      (refine vw_cond (t := false) rfl (fun h => nomatch h) (fun _ => ?_))
      refine vw_skip (n_then ?_)
      (refine vw_go rfl ?_; simp only [go_sem, setCells, setIn])
      (refine vw_go rfl ?_; simp only [go_sem, setCells, setIn])
      exact vw_ret (e_ret (ret_b rfl rfl (by simp [RB]) rfl rfl ⟨⟨by simp, _, rfl, rfl, rfl, rfl⟩, trivial⟩))
  · subst hR
    (refine vw_go rfl ?_; simp only [go_sem, setCells, setIn])
    (refine vw_cond (t := true) rfl (fun _ => ?_) (fun h => nomatch h))
    (refine vw_go rfl ?_; simp only [go_sem, setCells, setIn])
    (refine vw_go rfl ?_; simp only [go_sem, setCells, setIn])
    exact vw_ret (r_then (e_ret (ret_b rfl rfl (by simp [RB]) rfl rfl ⟨⟨by simp, _, rfl, rfl, rfl, rfl⟩, trivial⟩)))

theorem runs_186 (b : List UInt8) (hb : b.length < 2 ^ 62) (a : Int) (bad : Bool) :
    Runs Tryz.prog 186 [.one (.ref [.list false 1 (b.map bRow), .int .i64 a, .bool bad])] [.one (.v (.bool (!bad && decide (a = b.length))))] [] := by
  refine runs_tab (tab := [(0, .rop [.list false 1 (b.map bRow), .int .i64 a, .bool bad])]) (rts := []) (n := 20) (k := 1) Tryz.func186 rfl rfl (by simp) rfl (fun t => ?_) rfl ?_
  · rcases t with _ | t <;> rfl
  (refine vw_go rfl ?_; simp only [go_sem, setCells, setIn])
  cases bad
  · (refine vw_draw mixed rfl rfl ?_; simp only [List.length_map, go_sem, setCells, setIn])
    refine ⟨by unfold allOk; kernel_rfl, ?_⟩
    exact vw_ret (e_ret (ret_of rfl rfl (by simp [RB]) rfl rfl))
  · (refine vw_draw mixed rfl rfl ?_; simp only [go_sem, setCells, setIn])
    refine ⟨by unfold allOk; kernel_rfl, ?_⟩
    exact vw_ret (e_ret (ret_of rfl rfl (by simp [RB]) rfl rfl))

def unsF (b : List UInt8) : Int × Bool := ((numR b 0 false).2.1, (numR b 0 false).2.2 || !decide ((numR b 0 false).1 = (sumB (b.drop (numR b 0 false).2.1.toNat) : Nat)))
theorem numR_or (b : List UInt8) (a : Int) : (∃ v n : Nat, numR b a false = ((v : Int), (n : Int), false) ∧ n ≤ b.length) ∨ numR b a false = (0, a, true) := by
  unfold numR
  rcases getNum_or b a with h | ⟨n, c, h, h1, h2, h3⟩
  · rw [h]; exact .inr rfl
  · rw [h]; exact .inl ⟨n, c, rfl, h1⟩

theorem runs_183 (s : ByteArray) (hs : s.size < 2 ^ 62) (U : Int × Bool) (hU : U = unsF s.data.toList) :
    Runs Tryz.prog 183 [.one (.v (.str s))] [.one (.box [.list true 1 (s.data.toList.map bRow), .int .i64 U.1, .bool U.2])] [] := by
  refine runs_tab (tab := [(0, .c (.str s))]) (rts := []) (n := 33) (k := 1) Tryz.func183 rfl rfl (by simp) rfl (fun t => ?_) rfl ?_
  · rcases t with _ | t <;> rfl
  have hz : s.data.toList.length = s.size := Array.length_toList
  generalize hb : s.data.toList = b at hU hz
  have hl : b.length < 2 ^ 62 := by omega
  have rN := runs_184 b hl 0 false _ rfl
  have qb : (b.map bRow).take s.size = b.map bRow := by rw [List.take_of_length_le (by simp [hz])]
  have hor := numR_or b 0
  unfold unsF at hU
  generalize numR b 0 false = g at rN hU hor
  obtain ⟨v, a, bad⟩ := g
  (try simp only at rN)
  (try simp only at hU)
  (refine vw_go rfl ?_; simp only [go_sem, setCells, setIn])
  have hz2 : s.size ≤ b.length := by omega
  (refine vw_go rfl ?_; simp only [hb, qb, hz2, go_sem, setCells, setIn])
  (refine vw_go rfl ?_; simp only [go_sem, setCells, setIn])
  have e2 : ∀ H : Value → Nat → List (List T) → Prop, fineRs H (b.map bRow) = True := fun H => bRow_fine H b
  (refine ⟨_, _, call_pt [0] 68609 Tryz.func184 (rN) rfl rfl rfl rfl rfl rfl rfl rfl (by simp [lendAll, lendC, seek, fresh, nav, rcells, RT.cells, VV.cells, tabE_cons, tabS_cons, St.put, ev, lit, take_map_len, e2, qb]) rfl rfl (by simp [rcells, RT.cells, CT.fine, T.fine, e2, qb]) (by simp [fineR, T.fine, e2, qb]) rfl rfl, ?_⟩)
  simp only [runH, runX, go_sem, setCells, setIn]
  rcases hor with ⟨v', n, h, hn⟩ | h
  · simp only [Prod.mk.injEq] at h
    obtain ⟨rfl, rfl, rfl⟩ := h
    have rS := runs_222 (b.drop n) (by simp; omega)
    have c1 : (0:Int) ≤ (n : Int) := by omega
    have c2 : n ≤ b.length := hn
    have c3 : n ≤ s.size := by omega
    have qs : ((b.map bRow).drop n).take (s.size - n) = (b.map bRow).drop n := by rw [List.take_of_length_le (by simp; omega)]
    have c4 : n + (b.length - n) ≤ b.length := by omega
    (try simp only [Int.toNat_natCast, Bool.false_or] at hU)
    subst hU
    (refine vw_draw mixed rfl rfl ?_; simp only [c1, c2, c3, hz, Int.toNat_natCast, List.length_map, Nat.le_refl, go_sem, setCells, setIn])
    (refine ⟨_, _, _, call_rx_at [0] [68609] Tryz.func222 (rS) rfl rfl rfl rfl rfl rfl rfl (fun st1 hst1 => by (try simp only [List.mem_cons, List.not_mem_nil, or_false, false_or, forall_eq_or_imp, forall_eq] at hst1); simp [lendAll, lendC, seek, fresh, nav, rcells, RT.cells, VV.cells, tabE_cons, tabS_cons, ev, take_map_len, hst1, bRow_r1, bRow_comp, bRow_clean, hz, c3, c4, qs]) rfl (by simp [rcells, RT.cells, CT.clean, T.clean, bRow_r1, bRow_comp, bRow_clean, hz, c3, c4, qs]) rfl rfl, ?_⟩)
    simp only [runH, runX, go_sem, setCells, setIn]
    refine ⟨by unfold allOk; kernel_rfl, ?_⟩
    (refine vw_go rfl ?_; simp only [go_sem, setCells, setIn])
    exact vw_ret (e_ret (ret_by rfl rfl (by simp [RB]) rfl (by simp only [takeCs, takeC, go_sem, setCells, setIn])))
  · simp only [Prod.mk.injEq] at h
    obtain ⟨rfl, rfl, rfl⟩ := h
    (try simp only [Bool.true_or] at hU)
    subst hU
    (refine vw_draw mixed rfl rfl ?_; simp only [go_sem, setCells, setIn])
    refine ⟨by unfold allOk; kernel_rfl, ?_⟩
    (refine vw_go rfl ?_; simp only [go_sem, setCells, setIn])
    exact vw_ret (e_ret (ret_by rfl rfl (by simp [RB]) rfl (by simp only [takeCs, takeC, go_sem, setCells, setIn])))

theorem runs_140 (n : Int) : Runs Tryz.prog 140 [.one (.v (.int .i64 n))] [.one (.v (.bool (inB n 0 25)))] [] := by
  refine runs_tab (tab := [(0, .c (.int .i64 n))]) (rts := []) (n := 5) (k := 1) Tryz.func140 rfl rfl (by simp) rfl (fun t => ?_) rfl ?_
  · rcases t with _ | t <;> rfl
  have r1 := runs_45 n 0 25
  (refine vw_go rfl ?_; simp only [go_sem, setCells, setIn])
  (refine vw_go rfl ?_; simp only [go_sem, setCells, setIn])
  (refine ⟨_, _, call_rd [0, 0, 0] Tryz.func45 (r1) rfl rfl rfl rfl rfl rfl rfl rfl rfl rfl rfl rfl rfl, ?_⟩)
  simp only [runH, runX, go_sem, setCells, setIn]
  exact vw_ret (e_ret (ret_of rfl rfl (by simp [RB]) rfl rfl))
theorem runs_187 (s q : Int) (d : ByteArray) : Runs Tryz.prog 187 [.agg [.v (.int .i64 s), .v (.int .i64 q), .v (.str d)]] [.one (.v (.bool (recOkB s q d)))] [] := by
  refine runs_tab (tab := [(0, .agg [.c (.int .i64 s), .c (.int .i64 q), .c (.str d)])]) (rts := []) (n := 17) (k := 3) Tryz.func187 rfl rfl (by simp) rfl (fun t => ?_) rfl ?_
  · rcases t with _ | t <;> rfl
  have r1 := runs_140 s
  have r2 := runs_45 q 1 1000000000
  (refine vw_go rfl ?_; simp only [go_sem, setCells, setIn])
  (refine vw_go rfl ?_; simp only [go_sem, setCells, setIn])
  (refine ⟨_, _, call_rd [0] Tryz.func140 (r1) rfl rfl rfl rfl rfl rfl rfl rfl rfl rfl rfl rfl rfl, ?_⟩)
  cases h1 : inB s 0 25
  · simp only [runH, runX, go_sem, setCells, setIn]
    rw [show recOkB s q d = false from by rw [recOkB, h1]; rfl]
    exact vw_ret (e_ret (ret_of rfl rfl (by simp [RB]) rfl rfl))
  simp only [runH, runX, go_sem, setCells, setIn]
  (refine ⟨_, _, call_rd [0, 0, 0] Tryz.func45 (r2) rfl rfl rfl rfl rfl rfl rfl rfl rfl rfl rfl rfl rfl, ?_⟩)
  cases h2 : inB q 1 1000000000
  · simp only [runH, runX, go_sem, setCells, setIn]
    rw [show recOkB s q d = false from by rw [recOkB, h1, h2]; rfl]
    exact vw_ret (e_ret (ret_of rfl rfl (by simp [RB]) rfl rfl))
  simp only [runH, runX, go_sem, setCells, setIn]
  rw [show recOkB s q d = decide ((d.size : Int) ≤ 400) from by rw [recOkB, h1, h2]; rfl]
  exact vw_ret (e_ret (ret_of rfl rfl (by simp [RB]) rfl rfl))

/-- What the program reads. -/
def recH (b : List UInt8) (n1 n2 : Int × Int × Bool) (t : ByteArray × Int × Bool) : RecV × Bool :=
  if ((!t.2.2 && decide (t.2.1 = b.length)) && recOkB n1.1 n2.1 t.1) = true then ((n1.1, n2.1, t.1), true) else (zRec, false)
def recReadN (b : List UInt8) (u : Int × Bool) : RecV × Bool :=
  recH b (numR b u.1 u.2) (numR b (numR b u.1 u.2).2.1 (numR b u.1 u.2).2.2)
    (txtR b (numR b (numR b u.1 u.2).2.1 (numR b u.1 u.2).2.2).2.1 (numR b (numR b u.1 u.2).2.1 (numR b u.1 u.2).2.2).2.2)
def recReadI (s : ByteArray) : RecV × Bool := recReadN s.data.toList (unsF s.data.toList)

theorem runs_141.raw (s : ByteArray) (hs : s.size < 2 ^ 62) (R : RecV × Bool) (hR : R = recReadI s) : Runs Tryz.prog 141 [.one (.v (.str s))] [.agg [.v (.int .i64 R.1.1), .v (.int .i64 R.1.2.1), .v (.str R.1.2.2)], .one (.v (.bool R.2))] [] := by
  refine runs_tab (tab := [(0, .c (.str s))]) (rts := []) (n := 27) (k := 1) Tryz.func141 rfl rfl (by simp) rfl (fun t => ?_) rfl ?_
  · rcases t with _ | t <;> rfl
  have r0 := runs_183 s hs _ rfl
  have hz : s.data.toList.length = s.size := Array.length_toList
  unfold recReadI at hR
  generalize s.data.toList = b at r0 hR hz
  have hl : b.length < 2 ^ 62 := by omega
  generalize unsF b = u at r0 hR
  unfold recReadN at hR
  obtain ⟨a0, b0⟩ := u
  have r1 := runs_184 b hl a0 b0 _ rfl
  (try simp only at r0)
  (try simp only at hR)
  generalize numR b a0 b0 = g1 at r1 hR
  obtain ⟨v1, a1, b1⟩ := g1
  have r2 := runs_184 b hl a1 b1 _ rfl
  (try simp only at r1)
  (try simp only at hR)
  generalize numR b a1 b1 = g2 at r2 hR
  obtain ⟨v2, a2, b2⟩ := g2
  have r3 := runs_185 b hl a2 b2 _ rfl
  (try simp only at r2)
  (try simp only at hR)
  generalize txtR b a2 b2 = g3 at r3 hR
  obtain ⟨v3, a3, b3⟩ := g3
  have r4 := runs_186 b hl a3 b3
  have r5 := runs_187 v1 v2 v3
  (try simp only at r3)
  simp only [recH] at hR
  have e2 : ∀ H : Value → Nat → List (List T) → Prop, fineRs H (b.map bRow) = True := fun H => bRow_fine H b
  have e3 : cleanRs (b.map bRow) = true := bRow_clean b
  (refine vw_go rfl ?_; simp only [go_sem, setCells, setIn])
  (refine vw_go rfl ?_; simp only [go_sem, setCells, setIn])
  (refine ⟨_, _, call_rx [0] Tryz.func183 (r0) rfl rfl rfl rfl rfl rfl rfl (by simp [lendAll, lendC, seek, fresh, nav, rcells, RT.cells, VV.cells, tabE_cons, tabS_cons, ev, take_map_len, bRow_r1, bRow_comp, bRow_clean, cleanR, T.clean, e3]) rfl (by simp [rcells, RT.cells, CT.clean, T.clean, bRow_r1, bRow_comp, bRow_clean, cleanR, T.clean, e3]) rfl rfl, ?_⟩)
  simp only [runH, runX, go_sem, setCells, setIn]
  (refine vw_go rfl ?_; simp only [go_sem, setCells, setIn])
  (refine ⟨_, _, call_pt [0] 66561 Tryz.func184 (r1) rfl rfl rfl rfl rfl rfl rfl rfl (by simp [lendAll, lendC, seek, fresh, nav, rcells, RT.cells, VV.cells, tabE_cons, tabS_cons, St.put, ev, lit, take_map_len, e2]) rfl rfl (by simp [rcells, RT.cells, CT.fine, T.fine, e2]) (by simp [fineR, T.fine, e2]) rfl rfl, ?_⟩)
  simp only [runH, runX, go_sem, setCells, setIn]
  (refine vw_go rfl ?_; simp only [go_sem, setCells, setIn])
  (refine ⟨_, _, call_pt [0] 66561 Tryz.func184 (r2) rfl rfl rfl rfl rfl rfl rfl rfl (by simp [lendAll, lendC, seek, fresh, nav, rcells, RT.cells, VV.cells, tabE_cons, tabS_cons, St.put, ev, lit, take_map_len, e2]) rfl rfl (by simp [rcells, RT.cells, CT.fine, T.fine, e2]) (by simp [fineR, T.fine, e2]) rfl rfl, ?_⟩)
  simp only [runH, runX, go_sem, setCells, setIn]
  (refine vw_go rfl ?_; simp only [go_sem, setCells, setIn])
  (refine ⟨_, _, call_pt [0] 66561 Tryz.func185 (r3) rfl rfl rfl rfl rfl rfl rfl rfl (by simp [lendAll, lendC, seek, fresh, nav, rcells, RT.cells, VV.cells, tabE_cons, tabS_cons, St.put, ev, lit, take_map_len, e2]) rfl rfl (by simp [rcells, RT.cells, CT.fine, T.fine, e2]) (by simp [fineR, T.fine, e2]) rfl rfl, ?_⟩)
  simp only [runH, runX, go_sem, setCells, setIn]
  refine vw_seq ?_
  (refine vw_go rfl ?_; simp only [go_sem, setCells, setIn])
  (refine ⟨_, _, call_rx [0] Tryz.func186 (r4) rfl rfl rfl rfl rfl rfl rfl (by simp [lendAll, lendC, seek, fresh, nav, rcells, RT.cells, VV.cells, tabE_cons, tabS_cons, ev, take_map_len, bRow_r1, bRow_comp, bRow_clean]) rfl (by simp [rcells, RT.cells, CT.clean, T.clean, bRow_r1, bRow_comp, bRow_clean]) rfl rfl, ?_⟩)
  cases hd : (!b3 && decide (a3 = b.length))
  · simp only [runH, runX, go_sem, setCells, setIn]
    rw [hd] at hR
    subst hR
    (refine vw_cond (t := true) rfl (fun _ => ?_) (fun h => nomatch h))
    (refine vw_go rfl ?_; simp only [go_sem, setCells, setIn])
    exact vw_ret (r_then (e_ret (ret_of rfl rfl (by simp [RB]) rfl rfl)))
  simp only [runH, runX, go_sem, setCells, setIn]
  (refine ⟨_, _, call_rd [0] Tryz.func187 (r5) rfl rfl rfl rfl rfl rfl rfl rfl rfl rfl rfl rfl rfl, ?_⟩)
  cases hk : recOkB v1 v2 v3
  · simp only [runH, runX, go_sem, setCells, setIn]
    rw [hd, hk] at hR
    subst hR
    (refine vw_cond (t := true) rfl (fun _ => ?_) (fun h => nomatch h))
    (refine vw_go rfl ?_; simp only [go_sem, setCells, setIn])
    exact vw_ret (r_then (e_ret (ret_of rfl rfl (by simp [RB]) rfl rfl)))
  simp only [runH, runX, go_sem, setCells, setIn]
  rw [hd, hk] at hR
  subst hR
  (refine vw_cond (t := false) rfl (fun h => nomatch h) (fun _ => ?_))
  refine vw_skip (n_then ?_)
  (refine vw_go rfl ?_; simp only [go_sem, setCells, setIn])
  exact vw_ret (e_ret (ret_of rfl rfl (by simp [RB]) rfl rfl))
end Go.Proofs.YtppbonbghmdhhaaGreat
