/- The reader of the program: number, text, done, unsummed; RecRead of the program. Plain law: the program and the reference read the same records. -/
import Derived.Test.YtkijdbljnefeaaaGreatDoorPFRec
set_option linter.unusedSimpArgs false
set_option linter.unusedVariables false
namespace Go.Proofs.YtkijdbljnefeaaaGreatDoor
open Go.VM Go
set_option maxRecDepth 100000
attribute [local congr] vw_congr runV_congr runH_congr runW_congr runX_congr stuckV_congr stuckX_congr
theorem bRow_fine (H : Value → Nat → List (List T) → Prop) (l : List UInt8) : fineRs H (l.map bRow) = True := eq_true (fineRs_of (bRow_clean l))
def numR (b : List UInt8) (a : Int) (bad : Bool) : Int × Int × Bool := if (bad || !(getNum b a).2.2) = true then (0, a, true) else ((getNum b a).1, (getNum b a).2.1, false)
def txtR (b : List UInt8) (a : Int) (bad : Bool) : ByteArray × Int × Bool := if (bad || !(getText b a).2.2) = true then (⟨#[]⟩, a, true) else ((getText b a).1, (getText b a).2.1, false)
theorem runs_102 (b : List UInt8) (hb : b.length < 2 ^ 62) (a : Int) (bad : Bool) (R : Int × Int × Bool) (hR : R = numR b a bad) :
    Runs Tryz.prog 102 [.one (.box [.list true 1 (b.map bRow), .int .i64 a, .bool bad])] [.one (.v (.int .i64 R.1))] [(0, ⟨true, 3, [[.list true 1 (b.map bRow), .int .i64 R.2.1, .bool R.2.2]], []⟩)] := by
  refine runs_tabB (tab := [(0, .ptr 0 [] 0 0 0)]) (rts := [(0, some ⟨true, 3, [[.list true 1 (b.map bRow), .int .i64 a, .bool bad]], []⟩)]) (n := 35) (k := 1) Tryz.func102 rfl rfl (by simp) rfl (fun t => ?_) rfl ?_
  · rcases t with _ | t <;> rfl
  have rG := runs_137 b hb a _ rfl
  unfold numR at hR
  generalize getNum b a = g at rG hR
  obtain ⟨v, n, ok⟩ := g
  (try simp only at rG)
  refine vw_go rfl ?_; simp only [go_sem,setCells,setIn]
  refine vw_draw mixed rfl rfl ?_; simp only [go_sem,setCells,setIn]
  refine ⟨_, _, _, call_rx_at [0, 0] [0] Tryz.func137 (rG) rfl rfl rfl rfl rfl rfl rfl (fun st1 hst1 => by (try simp only [List.mem_cons,List.not_mem_nil,or_false,false_or,forall_eq_or_imp,forall_eq] at hst1); simp [lendAll,lendC,seek,fresh,nav,rcells,RT.cells,VV.cells,tabE_cons,tabS_cons,ev,take_map_len,hst1,bRow_r1,bRow_comp,bRow_clean]) rfl (by simp [rcells,RT.cells,CT.clean,T.clean,bRow_r1,bRow_comp,bRow_clean]) rfl rfl, ?_⟩
  simp only [runH,runX,go_sem,setCells,setIn]
  refine ⟨by unfold allOk; kernel_rfl, ?_⟩
  refine vw_seq ?_
  cases bad
  · cases ok
    · subst hR
      refine vw_go rfl ?_; simp only [go_sem,setCells,setIn]
      refine vw_cond (t := true) rfl (fun _ => ?_) (fun h => nomatch h)
      refine vw_go rfl ?_; simp only [go_sem,setCells,setIn]
      refine vw_go rfl ?_; simp only [go_sem,setCells,setIn]
      exact vw_ret (r_then (e_ret (ret_b rfl rfl (by simp [RB]) rfl rfl ⟨⟨by simp, _, rfl, rfl, rfl, rfl⟩, trivial⟩)))
    · subst hR
      refine vw_go rfl ?_; simp only [go_sem,setCells,setIn]
      refine vw_cond (t := false) rfl (fun h => nomatch h) (fun _ => ?_)
      refine vw_skip (n_then ?_)
      refine vw_go rfl ?_; simp only [go_sem,setCells,setIn]
      refine vw_go rfl ?_; simp only [go_sem,setCells,setIn]
      exact vw_ret (e_ret (ret_b rfl rfl (by simp [RB]) rfl rfl ⟨⟨by simp, _, rfl, rfl, rfl, rfl⟩, trivial⟩))
  · subst hR
    refine vw_go rfl ?_; simp only [go_sem,setCells,setIn]
    refine vw_cond (t := true) rfl (fun _ => ?_) (fun h => nomatch h)
    refine vw_go rfl ?_; simp only [go_sem,setCells,setIn]
    refine vw_go rfl ?_; simp only [go_sem,setCells,setIn]
    exact vw_ret (r_then (e_ret (ret_b rfl rfl (by simp [RB]) rfl rfl ⟨⟨by simp, _, rfl, rfl, rfl, rfl⟩, trivial⟩)))
theorem runs_103 (b : List UInt8) (hb : b.length < 2 ^ 62) (a : Int) (bad : Bool) (R : ByteArray × Int × Bool) (hR : R = txtR b a bad) :
    Runs Tryz.prog 103 [.one (.box [.list true 1 (b.map bRow), .int .i64 a, .bool bad])] [.one (.v (.str R.1))] [(0, ⟨true, 3, [[.list true 1 (b.map bRow), .int .i64 R.2.1, .bool R.2.2]], []⟩)] := by
  refine runs_tabB (tab := [(0, .ptr 0 [] 0 0 0)]) (rts := [(0, some ⟨true, 3, [[.list true 1 (b.map bRow), .int .i64 a, .bool bad]], []⟩)]) (n := 35) (k := 1) Tryz.func103 rfl rfl (by simp) rfl (fun t => ?_) rfl ?_
  · rcases t with _ | t <;> rfl
  have rG := runs_138 b hb a _ rfl
  unfold txtR at hR
  generalize getText b a = g at rG hR
  obtain ⟨v, n, ok⟩ := g
  (try simp only at rG)
  refine vw_go rfl ?_; simp only [go_sem,setCells,setIn]
  refine vw_draw mixed rfl rfl ?_; simp only [go_sem,setCells,setIn]
  refine ⟨_, _, _, call_rx_at [0, 0] [0] Tryz.func138 (rG) rfl rfl rfl rfl rfl rfl rfl (fun st1 hst1 => by (try simp only [List.mem_cons,List.not_mem_nil,or_false,false_or,forall_eq_or_imp,forall_eq] at hst1); simp [lendAll,lendC,seek,fresh,nav,rcells,RT.cells,VV.cells,tabE_cons,tabS_cons,ev,take_map_len,hst1,bRow_r1,bRow_comp,bRow_clean]) rfl (by simp [rcells,RT.cells,CT.clean,T.clean,bRow_r1,bRow_comp,bRow_clean]) rfl rfl, ?_⟩
  simp only [runH,runX,go_sem,setCells,setIn]
  refine ⟨by unfold allOk; kernel_rfl, ?_⟩
  refine vw_seq ?_
  cases bad
  · cases ok
    · subst hR
      refine vw_go rfl ?_; simp only [go_sem,setCells,setIn]
      refine vw_cond (t := true) rfl (fun _ => ?_) (fun h => nomatch h)
      refine vw_go rfl ?_; simp only [go_sem,setCells,setIn]
      refine vw_go rfl ?_; simp only [go_sem,setCells,setIn]
      exact vw_ret (r_then (e_ret (ret_b rfl rfl (by simp [RB]) rfl rfl ⟨⟨by simp, _, rfl, rfl, rfl, rfl⟩, trivial⟩)))
    · subst hR
      refine vw_go rfl ?_; simp only [go_sem,setCells,setIn]
      refine vw_cond (t := false) rfl (fun h => nomatch h) (fun _ => ?_)
      refine vw_skip (n_then ?_)
      refine vw_go rfl ?_; simp only [go_sem,setCells,setIn]
      refine vw_go rfl ?_; simp only [go_sem,setCells,setIn]
      exact vw_ret (e_ret (ret_b rfl rfl (by simp [RB]) rfl rfl ⟨⟨by simp, _, rfl, rfl, rfl, rfl⟩, trivial⟩))
  · subst hR
    refine vw_go rfl ?_; simp only [go_sem,setCells,setIn]
    refine vw_cond (t := true) rfl (fun _ => ?_) (fun h => nomatch h)
    refine vw_go rfl ?_; simp only [go_sem,setCells,setIn]
    refine vw_go rfl ?_; simp only [go_sem,setCells,setIn]
    exact vw_ret (r_then (e_ret (ret_b rfl rfl (by simp [RB]) rfl rfl ⟨⟨by simp, _, rfl, rfl, rfl, rfl⟩, trivial⟩)))
theorem runs_104 (b : List UInt8) (hb : b.length < 2 ^ 62) (a : Int) (bad : Bool) :
    Runs Tryz.prog 104 [.one (.ref [.list false 1 (b.map bRow), .int .i64 a, .bool bad])] [.one (.v (.bool (!bad && decide (a = b.length))))] [] := by
  refine runs_tab (tab := [(0, .rop [.list false 1 (b.map bRow), .int .i64 a, .bool bad])]) (rts := []) (n := 20) (k := 1) Tryz.func104 rfl rfl (by simp) rfl (fun t => ?_) rfl ?_
  · rcases t with _ | t <;> rfl
  refine vw_go rfl ?_; simp only [go_sem,setCells,setIn]
  cases bad
  · (refine vw_draw mixed rfl rfl ?_; simp only [List.length_map,go_sem,setCells,setIn])
    refine ⟨by unfold allOk; kernel_rfl, ?_⟩
    exact vw_ret (e_ret (ret_of rfl rfl (by simp [RB]) rfl rfl))
  · (refine vw_draw mixed rfl rfl ?_; simp only [go_sem,setCells,setIn])
    refine ⟨by unfold allOk; kernel_rfl, ?_⟩
    exact vw_ret (e_ret (ret_of rfl rfl (by simp [RB]) rfl rfl))
def unsF (b : List UInt8) : Int × Bool := ((numR b 0 false).2.1, (numR b 0 false).2.2 || !decide ((numR b 0 false).1 = (sumB (b.drop (numR b 0 false).2.1.toNat) : Nat)))
theorem numR_or (b : List UInt8) (a : Int) : (∃ v n : Nat, numR b a false = ((v : Int), (n : Int), false) ∧ n ≤ b.length) ∨ numR b a false = (0, a, true) := by
  unfold numR
  rcases getNum_or b a with h | ⟨n, c, h, h1, h2, h3⟩
  · rw [h]; exact .inr rfl
  · rw [h]; exact .inl ⟨n, c, rfl, h1⟩
theorem runs_101 (s : ByteArray) (hs : s.size < 2 ^ 62) (U : Int × Bool) (hU : U = unsF s.data.toList) :
    Runs Tryz.prog 101 [.one (.v (.str s))] [.one (.box [.list true 1 (s.data.toList.map bRow), .int .i64 U.1, .bool U.2])] [] := by
  refine runs_tab (tab := [(0, .c (.str s))]) (rts := []) (n := 33) (k := 1) Tryz.func101 rfl rfl (by simp) rfl (fun t => ?_) rfl ?_
  · rcases t with _ | t <;> rfl
  have hz : s.data.toList.length = s.size := Array.length_toList
  generalize hb : s.data.toList = b at hU hz
  have hl : b.length < 2 ^ 62 := by omega
  have rN := runs_102 b hl 0 false _ rfl
  have qb : (b.map bRow).take s.size = b.map bRow := by rw [List.take_of_length_le (by simp [hz])]
  have hor := numR_or b 0
  unfold unsF at hU
  generalize numR b 0 false = g at rN hU hor
  obtain ⟨v, a, bad⟩ := g
  (try simp only at rN)
  (try simp only at hU)
  refine vw_go rfl ?_; simp only [go_sem,setCells,setIn]
  have hz2 : s.size ≤ b.length := by omega
  refine vw_go rfl ?_; simp only [hb,qb,hz2,go_sem,setCells,setIn]
  refine vw_go rfl ?_; simp only [go_sem,setCells,setIn]
  have e2 : ∀ H : Value → Nat → List (List T) → Prop, fineRs H (b.map bRow) = True := fun H => bRow_fine H b
  refine ⟨_, _, call_pt [0] 68609 Tryz.func102 (rN) rfl rfl rfl rfl rfl rfl rfl rfl (by simp [lendAll,lendC,seek,fresh,nav,rcells,RT.cells,VV.cells,tabE_cons,tabS_cons,St.put,ev,lit,take_map_len,e2,qb]) rfl rfl (by simp [rcells,RT.cells,CT.fine,T.fine,e2,qb]) (by simp [fineR,T.fine,e2,qb]) rfl rfl, ?_⟩
  simp only [runH,runX,go_sem,setCells,setIn]
  rcases hor with ⟨v', n, h, hn⟩ | h
  · simp only [Prod.mk.injEq] at h
    obtain ⟨rfl, rfl, rfl⟩ := h
    have rS := runs_136 (b.drop n) (by simp; omega)
    have c1 : (0:Int) ≤ (n : Int) := by omega
    have c2 : n ≤ b.length := hn
    have c3 : n ≤ s.size := by omega
    have qs : ((b.map bRow).drop n).take (s.size - n) = (b.map bRow).drop n := by rw [List.take_of_length_le (by simp; omega)]
    have c4 : n + (b.length - n) ≤ b.length := by omega
    (try simp only [Int.toNat_natCast,Bool.false_or] at hU)
    subst hU
    refine vw_draw mixed rfl rfl ?_; simp only [c1,c2,c3,hz,Int.toNat_natCast,List.length_map,Nat.le_refl,go_sem,setCells,setIn]
    refine ⟨_, _, _, call_rx_at [0] [68609] Tryz.func136 (rS) rfl rfl rfl rfl rfl rfl rfl (fun st1 hst1 => by (try simp only [List.mem_cons,List.not_mem_nil,or_false,false_or,forall_eq_or_imp,forall_eq] at hst1); simp [lendAll,lendC,seek,fresh,nav,rcells,RT.cells,VV.cells,tabE_cons,tabS_cons,ev,take_map_len,hst1,bRow_r1,bRow_comp,bRow_clean,hz,c3,c4,qs]) rfl (by simp [rcells,RT.cells,CT.clean,T.clean,bRow_r1,bRow_comp,bRow_clean,hz,c3,c4,qs]) rfl rfl, ?_⟩
    simp only [runH,runX,go_sem,setCells,setIn]
    refine ⟨by unfold allOk; kernel_rfl, ?_⟩
    refine vw_go rfl ?_; simp only [go_sem,setCells,setIn]
    exact vw_ret (e_ret (ret_by rfl rfl (by simp [RB]) rfl (by simp only [takeCs,takeC,go_sem,setCells,setIn])))
  · simp only [Prod.mk.injEq] at h
    obtain ⟨rfl, rfl, rfl⟩ := h
    (try simp only [Bool.true_or] at hU)
    subst hU
    refine vw_draw mixed rfl rfl ?_; simp only [go_sem,setCells,setIn]
    refine ⟨by unfold allOk; kernel_rfl, ?_⟩
    refine vw_go rfl ?_; simp only [go_sem,setCells,setIn]
    exact vw_ret (e_ret (ret_by rfl rfl (by simp [RB]) rfl (by simp only [takeCs,takeC,go_sem,setCells,setIn])))
theorem runs_139 (n : Int) : Runs Tryz.prog 139 [.one (.v (.int .i64 n))] [.one (.v (.bool (inB n 0 25)))] [] := by
  refine runs_tab (tab := [(0, .c (.int .i64 n))]) (rts := []) (n := 5) (k := 1) Tryz.func139 rfl rfl (by simp) rfl (fun t => ?_) rfl ?_
  · rcases t with _ | t <;> rfl
  have r1 := runs_24 n 0 25
  refine vw_go rfl ?_; simp only [go_sem,setCells,setIn]
  refine vw_go rfl ?_; simp only [go_sem,setCells,setIn]
  refine ⟨_, _, call_rd [0, 0, 0] Tryz.func24 (r1) rfl rfl rfl rfl rfl rfl rfl rfl rfl rfl rfl rfl rfl, ?_⟩
  simp only [runH,runX,go_sem,setCells,setIn]
  exact vw_ret (e_ret (ret_of rfl rfl (by simp [RB]) rfl rfl))
theorem runs_105 (s q : Int) (d : ByteArray) : Runs Tryz.prog 105 [.agg [.v (.int .i64 s), .v (.int .i64 q), .v (.str d)]] [.one (.v (.bool (recOkB s q d)))] [] := by
  refine runs_tab (tab := [(0, .agg [.c (.int .i64 s), .c (.int .i64 q), .c (.str d)])]) (rts := []) (n := 17) (k := 3) Tryz.func105 rfl rfl (by simp) rfl (fun t => ?_) rfl ?_
  · rcases t with _ | t <;> rfl
  have r1 := runs_139 s
  have r2 := runs_24 q 1 1000000000
  refine vw_go rfl ?_; simp only [go_sem,setCells,setIn]
  refine vw_go rfl ?_; simp only [go_sem,setCells,setIn]
  refine ⟨_, _, call_rd [0] Tryz.func139 (r1) rfl rfl rfl rfl rfl rfl rfl rfl rfl rfl rfl rfl rfl, ?_⟩
  cases h1 : inB s 0 25
  · simp only [runH,runX,go_sem,setCells,setIn]
    rw [show recOkB s q d = false from by rw [recOkB, h1]; rfl]
    exact vw_ret (e_ret (ret_of rfl rfl (by simp [RB]) rfl rfl))
  simp only [runH,runX,go_sem,setCells,setIn]
  refine ⟨_, _, call_rd [0, 0, 0] Tryz.func24 (r2) rfl rfl rfl rfl rfl rfl rfl rfl rfl rfl rfl rfl rfl, ?_⟩
  cases h2 : inB q 1 1000000000
  · simp only [runH,runX,go_sem,setCells,setIn]
    rw [show recOkB s q d = false from by rw [recOkB, h1, h2]; rfl]
    exact vw_ret (e_ret (ret_of rfl rfl (by simp [RB]) rfl rfl))
  simp only [runH,runX,go_sem,setCells,setIn]
  rw [show recOkB s q d = decide ((d.size : Int) ≤ 400) from by rw [recOkB, h1, h2]; rfl]
  exact vw_ret (e_ret (ret_of rfl rfl (by simp [RB]) rfl rfl))
/-- What the program reads. -/
def recH (b : List UInt8) (n1 n2 : Int × Int × Bool) (t : ByteArray × Int × Bool) : RecV × Bool :=
  if ((!t.2.2 && decide (t.2.1 = b.length)) && recOkB n1.1 n2.1 t.1) = true then ((n1.1, n2.1, t.1), true) else (zRec, false)
def recReadN (b : List UInt8) (u : Int × Bool) : RecV × Bool :=
  recH b (numR b u.1 u.2) (numR b (numR b u.1 u.2).2.1 (numR b u.1 u.2).2.2)
    (txtR b (numR b (numR b u.1 u.2).2.1 (numR b u.1 u.2).2.2).2.1 (numR b (numR b u.1 u.2).2.1 (numR b u.1 u.2).2.2).2.2)
def recReadI (s : ByteArray) : RecV × Bool := recReadN s.data.toList (unsF s.data.toList)
theorem runs_74.raw (s : ByteArray) (hs : s.size < 2 ^ 62) (R : RecV × Bool) (hR : R = recReadI s) : Runs Tryz.prog 74 [.one (.v (.str s))] [.agg [.v (.int .i64 R.1.1), .v (.int .i64 R.1.2.1), .v (.str R.1.2.2)], .one (.v (.bool R.2))] [] := by
  refine runs_tab (tab := [(0, .c (.str s))]) (rts := []) (n := 27) (k := 1) Tryz.func74 rfl rfl (by simp) rfl (fun t => ?_) rfl ?_
  · rcases t with _ | t <;> rfl
  have r0 := runs_101 s hs _ rfl
  have hz : s.data.toList.length = s.size := Array.length_toList
  unfold recReadI at hR
  generalize s.data.toList = b at r0 hR hz
  have hl : b.length < 2 ^ 62 := by omega
  generalize unsF b = u at r0 hR
  unfold recReadN at hR
  obtain ⟨a0, b0⟩ := u
  have r1 := runs_102 b hl a0 b0 _ rfl
  (try simp only at r0)
  (try simp only at hR)
  generalize numR b a0 b0 = g1 at r1 hR
  obtain ⟨v1, a1, b1⟩ := g1
  have r2 := runs_102 b hl a1 b1 _ rfl
  (try simp only at r1)
  (try simp only at hR)
  generalize numR b a1 b1 = g2 at r2 hR
  obtain ⟨v2, a2, b2⟩ := g2
  have r3 := runs_103 b hl a2 b2 _ rfl
  (try simp only at r2)
  (try simp only at hR)
  generalize txtR b a2 b2 = g3 at r3 hR
  obtain ⟨v3, a3, b3⟩ := g3
  have r4 := runs_104 b hl a3 b3
  have r5 := runs_105 v1 v2 v3
  (try simp only at r3)
  simp only [recH] at hR
  have e2 : ∀ H : Value → Nat → List (List T) → Prop, fineRs H (b.map bRow) = True := fun H => bRow_fine H b
  have e3 : cleanRs (b.map bRow) = true := bRow_clean b
  refine vw_go rfl ?_; simp only [go_sem,setCells,setIn]
  refine vw_go rfl ?_; simp only [go_sem,setCells,setIn]
  refine ⟨_, _, call_rx [0] Tryz.func101 (r0) rfl rfl rfl rfl rfl rfl rfl (by simp [lendAll,lendC,seek,fresh,nav,rcells,RT.cells,VV.cells,tabE_cons,tabS_cons,ev,take_map_len,bRow_r1,bRow_comp,bRow_clean,cleanR,T.clean,e3]) rfl (by simp [rcells,RT.cells,CT.clean,T.clean,bRow_r1,bRow_comp,bRow_clean,cleanR,T.clean,e3]) rfl rfl, ?_⟩
  simp only [runH,runX,go_sem,setCells,setIn]
  refine vw_go rfl ?_; simp only [go_sem,setCells,setIn]
  refine ⟨_, _, call_pt [0] 66561 Tryz.func102 (r1) rfl rfl rfl rfl rfl rfl rfl rfl (by simp [lendAll,lendC,seek,fresh,nav,rcells,RT.cells,VV.cells,tabE_cons,tabS_cons,St.put,ev,lit,take_map_len,e2]) rfl rfl (by simp [rcells,RT.cells,CT.fine,T.fine,e2]) (by simp [fineR,T.fine,e2]) rfl rfl, ?_⟩
  simp only [runH,runX,go_sem,setCells,setIn]
  refine vw_go rfl ?_; simp only [go_sem,setCells,setIn]
  refine ⟨_, _, call_pt [0] 66561 Tryz.func102 (r2) rfl rfl rfl rfl rfl rfl rfl rfl (by simp [lendAll,lendC,seek,fresh,nav,rcells,RT.cells,VV.cells,tabE_cons,tabS_cons,St.put,ev,lit,take_map_len,e2]) rfl rfl (by simp [rcells,RT.cells,CT.fine,T.fine,e2]) (by simp [fineR,T.fine,e2]) rfl rfl, ?_⟩
  simp only [runH,runX,go_sem,setCells,setIn]
  refine vw_go rfl ?_; simp only [go_sem,setCells,setIn]
  refine ⟨_, _, call_pt [0] 66561 Tryz.func103 (r3) rfl rfl rfl rfl rfl rfl rfl rfl (by simp [lendAll,lendC,seek,fresh,nav,rcells,RT.cells,VV.cells,tabE_cons,tabS_cons,St.put,ev,lit,take_map_len,e2]) rfl rfl (by simp [rcells,RT.cells,CT.fine,T.fine,e2]) (by simp [fineR,T.fine,e2]) rfl rfl, ?_⟩
  simp only [runH,runX,go_sem,setCells,setIn]
  refine vw_seq ?_
  refine vw_go rfl ?_; simp only [go_sem,setCells,setIn]
  refine ⟨_, _, call_rx [0] Tryz.func104 (r4) rfl rfl rfl rfl rfl rfl rfl (by simp [lendAll,lendC,seek,fresh,nav,rcells,RT.cells,VV.cells,tabE_cons,tabS_cons,ev,take_map_len,bRow_r1,bRow_comp,bRow_clean]) rfl (by simp [rcells,RT.cells,CT.clean,T.clean,bRow_r1,bRow_comp,bRow_clean]) rfl rfl, ?_⟩
  cases hd : (!b3 && decide (a3 = b.length))
  · simp only [runH,runX,go_sem,setCells,setIn]
    rw [hd] at hR
    subst hR
    refine vw_cond (t := true) rfl (fun _ => ?_) (fun h => nomatch h)
    refine vw_go rfl ?_; simp only [go_sem,setCells,setIn]
    exact vw_ret (r_then (e_ret (ret_of rfl rfl (by simp [RB]) rfl rfl)))
  simp only [runH,runX,go_sem,setCells,setIn]
  refine ⟨_, _, call_rd [0] Tryz.func105 (r5) rfl rfl rfl rfl rfl rfl rfl rfl rfl rfl rfl rfl rfl, ?_⟩
  cases hk : recOkB v1 v2 v3
  · simp only [runH,runX,go_sem,setCells,setIn]
    rw [hd, hk] at hR
    subst hR
    refine vw_cond (t := true) rfl (fun _ => ?_) (fun h => nomatch h)
    refine vw_go rfl ?_; simp only [go_sem,setCells,setIn]
    exact vw_ret (r_then (e_ret (ret_of rfl rfl (by simp [RB]) rfl rfl)))
  simp only [runH,runX,go_sem,setCells,setIn]
  rw [hd, hk] at hR
  subst hR
  refine vw_cond (t := false) rfl (fun h => nomatch h) (fun _ => ?_)
  refine vw_skip (n_then ?_)
  refine vw_go rfl ?_; simp only [go_sem,setCells,setIn]
  exact vw_ret (e_ret (ret_of rfl rfl (by simp [RB]) rfl rfl))
end Go.Proofs.YtkijdbljnefeaaaGreatDoor
namespace Go.Proofs.YtkijdbljnefeaaaGreatDoor
open Go.VM Go
theorem putL_ne (n : Nat) : putL n ≠ [] := by
  by_cases h : 127 < n
  · rw [putL_more h]; simp
  · rw [putL_last h]; simp
theorem u8_inj {a b : Nat} (ha : a < 256) (hb : b < 256) (h : UInt8.ofNat a = UInt8.ofNat b) : a = b := by
  have := congrArg UInt8.toNat h
  simp at this; omega
theorem putL_inj : ∀ (a b : Nat) {X Y : List UInt8}, putL a ++ X = putL b ++ Y → a = b ∧ X = Y := by
  intro a
  induction a using Nat.strongRecOn with
  | _ a ih =>
    intro b X Y h
    by_cases ha : 127 < a
    · by_cases hb : 127 < b
      · rw [putL_more ha, putL_more hb, List.cons_append, List.cons_append, List.cons.injEq] at h
        have h1 := u8_inj (by omega) (by omega) h.1
        obtain ⟨h2, h3⟩ := ih (a / 128) (by omega) (b / 128) h.2
        exact ⟨by omega, h3⟩
      · rw [putL_more ha, putL_last hb, List.cons_append, List.cons_append, List.cons.injEq] at h
        have h1 := u8_inj (by omega) (by omega) h.1
        omega
    · by_cases hb : 127 < b
      · rw [putL_last ha, putL_more hb, List.cons_append, List.cons_append, List.cons.injEq] at h
        have h1 := u8_inj (by omega) (by omega) h.1
        omega
      · rw [putL_last ha, putL_last hb, List.cons_append, List.cons_append, List.cons.injEq] at h
        have h1 := u8_inj (by omega) (by omega) h.1
        exact ⟨h1, by simpa using h.2⟩
theorem u8_back (d : UInt8) : UInt8.ofNat d.toNat = d := by simp
theorem getF_cut : ∀ (f : Nat) (l : List UInt8) (k n : Nat) {p : Nat × Nat}, getF f l k n = some p →
    ∃ M rest, l = putL M ++ rest ∧ p.1 = n + M * 2 ^ (7 * k) ∧ p.2 = k + (putL M).length ∧ (0 < k → 0 < M)
  | 0, _, _, _, _, h => by cases h
  | f + 1, [], _, _, _, h => by cases h
  | f + 1, d :: l, k, n, p, h => by
    rw [getF] at h
    have hd := d.toNat_lt
    split at h
    · rename_i hlt
      split at h
      · cases h
      · rename_i hb
        cases h
        refine ⟨d.toNat, l, ?_, ?_, ?_, ?_⟩
        · rw [putL_last (by omega), u8_back]; rfl
        · simp only; rw [Nat.mod_eq_of_lt hlt]
        · rw [putL_last (by omega)]; rfl
        · intro hk; omega
    · rename_i hge
      obtain ⟨M, rest, h1, h2, h3, h4⟩ := getF_cut f l (k + 1) _ h
      have hM : 0 < M := h4 (by omega)
      have e1 : putL (d.toNat % 128 + 128 * M) = d :: putL M := by
        rw [putL_more (by omega), show (d.toNat % 128 + 128 * M) % 128 + 128 = d.toNat from by omega, show (d.toNat % 128 + 128 * M) / 128 = M from by omega, u8_back]
      refine ⟨d.toNat % 128 + 128 * M, rest, ?_, ?_, ?_, ?_⟩
      · rw [e1, h1]; rfl
      · rw [h2, show 7 * (k + 1) = 7 * k + 7 from by omega, Nat.pow_add, Nat.add_mul, Nat.add_assoc]
        congr 2
        rw [Nat.mul_comm (2 ^ (7 * k)), ← Nat.mul_assoc, Nat.mul_comm 128 M]
      · rw [h3, e1, List.length_cons]; omega
      · intro _; omega
theorem getNum_cut (l : List UInt8) (a : Nat) : getNum l a = (0, 0, false) ∨ ∃ (n : Nat) (rest : List UInt8), l.drop a = putL n ++ rest ∧ n ≤ 1000000000 ∧
    getNum l a = ((n : Int), ((a + (putL n).length : Nat) : Int), true) ∧ l.drop (a + (putL n).length) = rest := by
  unfold getNum
  split
  · rename_i h
    cases hg : getF 5 (l.drop (a : Int).toNat) 0 0 with
    | none => exact .inl rfl
    | some p =>
      obtain ⟨_, _, h3⟩ := getF_some _ _ _ _ hg
      obtain ⟨M, rest, h1, h2, h4, _⟩ := getF_cut _ _ _ _ hg
      simp only [Int.toNat_natCast] at h1 hg
      simp only [Nat.mul_zero,Nat.pow_zero,Nat.mul_one,Nat.zero_add] at h2 h4
      refine .inr ⟨M, rest, h1, by omega, ?_, ?_⟩
      · simp only [resF,Int.toNat_natCast,h2,h4]
      · rw [← List.drop_drop, h1, List.drop_left]
  · exact .inl rfl
theorem getText_cut (l : List UInt8) (a : Nat) : getText l a = (⟨#[]⟩, 0, false) ∨ ∃ (d : ByteArray) (rest : List UInt8), l.drop a = (putL d.size ++ d.data.toList) ++ rest ∧ d.size ≤ 400 ∧
    getText l a = (d, ((a + ((putL d.size).length + d.size) : Nat) : Int), true) ∧ l.drop (a + ((putL d.size).length + d.size)) = rest := by
  unfold getText
  rcases getNum_cut l a with h | ⟨n, rest, h1, h2, h3, h4⟩
  · rw [h]; exact .inl rfl
  · rw [h3]
    split
    · rename_i hc
      simp only [Int.toNat_natCast] at hc ⊢
      have hlen : (rest.take n).length = n := by
        rw [List.length_take]
        have h5 : rest.length = l.length - (a + (putL n).length) := by rw [← h4, List.length_drop]
        omega
      have hs : ByteArray.size ⟨(rest.take n).toArray⟩ = n := by simp [ByteArray.size,hlen]
      rw [h4]
      refine .inr ⟨⟨(rest.take n).toArray⟩, rest.drop n, ?_, by rw [hs]; omega, ?_, ?_⟩
      · rw [hs, h1, List.append_assoc]
        simp [List.take_append_drop]
      · rw [hs]
        simp only [Prod.mk.injEq,true_and,and_true]
        omega
      · rw [hs, ← Nat.add_assoc, ← List.drop_drop, h4]
    · exact .inl rfl
theorem numR_ok {b : List UInt8} {a : Int} {v n : Int} (h : getNum b a = (v, n, true)) : numR b a false = (v, n, false) := by unfold numR; rw [h]; rfl
theorem numR_no {b : List UInt8} {a : Int} (h : getNum b a = (0, 0, false)) (bad : Bool) : numR b a bad = (0, a, true) := by
  unfold numR; rw [h]
  cases bad <;> rfl
theorem numR_bad {b : List UInt8} {a : Int} : numR b a true = (0, a, true) := rfl
theorem txtR_bad {b : List UInt8} {a : Int} : txtR b a true = (⟨#[]⟩, a, true) := rfl
theorem txtR_ok {b : List UInt8} {a : Int} {v : ByteArray} {n : Int} (h : getText b a = (v, n, true)) : txtR b a false = (v, n, false) := by unfold txtR; rw [h]; rfl
theorem txtR_no {b : List UInt8} {a : Int} (h : getText b a = (⟨#[]⟩, 0, false)) (bad : Bool) : txtR b a bad = (⟨#[]⟩, a, true) := by
  unfold txtR; rw [h]
  cases bad <;> rfl
theorem recReadN_bad (b : List UInt8) (a : Int) : recReadN b (a, true) = (zRec, false) := by
  simp only [recReadN,numR_bad,txtR_bad,recH]
  rfl
theorem putNum_nat {n : Nat} (h : n ≤ 1000000000) : putNum n = putL n := by
  have : inB (n : Int) 0 1000000000 = true := by simp [inB]; omega
  rw [putNum, this]; rfl
theorem rec_same (s : ByteArray) : recReadI s = recReadS s := by
  have hsb : s = ⟨s.data.toList.toArray⟩ := by cases s; simp
  unfold recReadI recReadS
  generalize s.data.toList = b at hsb
  unfold recReadL
  rcases getNum_cut b 0 with h0 | ⟨S, r0, e0, f0, g0, d0⟩
  · have : unsF b = (0, true) := by
      have h0' : getNum b 0 = (0, 0, false) := h0
      simp only [unsF,numR_no h0' false,Bool.true_or]
    rw [this, recReadN_bad]
    have h0' : getNum b 0 = (0, 0, false) := h0
    rw [h0']; rfl
  rw [List.drop_zero] at e0
  simp only [Nat.zero_add] at g0 d0
  have g0' : getNum b 0 = ((S : Int), (((putL S).length : Nat) : Int), true) := g0
  have hu : unsF b = ((((putL S).length : Nat) : Int), !decide ((S : Int) = (sumB r0 : Nat))) := by
    simp only [unsF,numR_ok g0',Bool.false_or,Int.toNat_natCast,d0]
  rw [hu, g0']
  simp only
  have hS : decide ((S : Int) = (sumB r0 : Nat)) = decide (S = sumB r0) := decide_eq_decide.2 (by omega)
  rw [hS]
  -- whatever is read, the sum must be right
  have wrong : ∀ (v1 v2 : Nat) (d : ByteArray) (r4 : List UInt8), v1 ≤ 1000000000 → v2 ≤ 1000000000 → d.size ≤ 400 → r0 = (putL v1 ++ putL v2) ++ (putL d.size ++ d.data.toList) ++ r4 →
      (recText v1 v2 d = s ↔ r4 = [] ∧ S = sumB r0 ∧ recOkB v1 v2 d = true) := by
    intro v1 v2 d r4 hv1 hv2 hd he
    have hbody : recBody v1 v2 d = (putL v1 ++ putL v2) ++ (putL d.size ++ d.data.toList) := by
      unfold recBody putText
      rw [putNum_nat hv1, putNum_nat hv2, if_neg (by omega), putNum_nat (by omega)]
    unfold recText
    by_cases hk : recOkB v1 v2 d = true
    · rw [if_pos hk, hbody]
      have hlt := sumB_lt ((putL v1 ++ putL v2) ++ (putL d.size ++ d.data.toList))
      rw [putNum_nat (by omega), hsb]
      constructor
      · intro h
        have h' := congrArg (fun x => x.data.toList) h
        simp only [List.toList_toArray] at h'
        rw [e0, he] at h'
        obtain ⟨q1, q2⟩ := putL_inj _ _ h'
        have hr : r4 = [] := by
          have := congrArg List.length q2
          simp only [List.length_append] at this
          exact List.length_eq_zero_iff.1 (by omega)
        refine ⟨hr, ?_, hk⟩
        rw [he, hr, List.append_nil, q1]
      · rintro ⟨h1, h2, _⟩
        rw [h1, List.append_nil] at he
        rw [e0, ← he, ← h2]
    · rw [if_neg hk]
      constructor
      · intro h
        exfalso
        have h' := congrArg (fun x => x.data.toList) h
        rw [hsb] at h'
        simp only [List.toList_toArray] at h'
        rw [e0] at h'
        exact putL_ne S (List.append_eq_nil_iff.1 h'.symm).1
      · rintro ⟨_, _, h⟩; exact absurd h hk
  have hlen : b.length = (putL S).length + r0.length := by rw [e0, List.length_append]
  rcases getNum_cut b (putL S).length with h1 | ⟨v1, r1, e1, f1, g1, d1⟩
  · rw [h1]
    simp only [recReadN,numR_no h1,numR_bad,txtR_bad,recH,recG]
    rfl
  rw [d0] at e1
  rw [g1]
  rcases getNum_cut b ((putL S).length + (putL v1).length) with h2 | ⟨v2, r2, e2, f2, g2, d2⟩
  · rw [h2]
    cases hb : decide (S = sumB r0)
    · simp only [Bool.not_false,recReadN_bad,recG]; rfl
    · simp only [Bool.not_true,recReadN,numR_ok g1,numR_no h2,txtR_bad,recH,recG]; rfl
  rw [d1] at e2
  rw [g2]
  rcases getText_cut b ((putL S).length + (putL v1).length + (putL v2).length) with h3 | ⟨d, r4, e3, f3, g3, d3⟩
  · rw [h3]
    cases hb : decide (S = sumB r0)
    · simp only [Bool.not_false,recReadN_bad,recG]; rfl
    · simp only [Bool.not_true,recReadN,numR_ok g1,numR_ok g2,txtR_no h3,recH,recG]; rfl
  rw [d2] at e3
  rw [g3]
  have hr0 : r0 = (putL v1 ++ putL v2) ++ (putL d.size ++ d.data.toList) ++ r4 := by
    rw [e1, e2, e3]; simp only [List.append_assoc]
  have W := wrong v1 v2 d r4 f1 f2 f3 hr0
  have hdl : d.data.toList.length = d.size := Array.length_toList
  have hend : decide (((((putL S).length + (putL v1).length + (putL v2).length + ((putL d.size).length + d.size) : Nat)) : Int) = (b.length : Int)) = decide (r4 = []) := by
    refine decide_eq_decide.2 ?_
    rw [hlen, hr0]
    simp only [List.length_append,hdl]
    constructor
    · intro h; exact List.length_eq_zero_iff.1 (by omega)
    · intro h; rw [h]; simp only [List.length_nil]; omega
  cases hb : decide (S = sumB r0)
  · have hb' : ¬ S = sumB r0 := of_decide_eq_false hb
    have : decide (recText v1 v2 d = s) = false := decide_eq_false (fun h => hb' (W.1 h).2.1)
    simp only [Bool.not_false,recReadN_bad,recG,this]
    rfl
  · have hb' : S = sumB r0 := of_decide_eq_true hb
    have : decide (recText v1 v2 d = s) = (decide (r4 = []) && recOkB v1 v2 d) := by
      by_cases h4 : r4 = []
      · cases hk : recOkB v1 v2 d
        · rw [decide_eq_false (fun h => by have := (W.1 h).2.2; rw [hk] at this; cases this)]; simp
        · rw [decide_eq_true (W.2 ⟨h4, hb', hk⟩), decide_eq_true h4]; rfl
      · rw [decide_eq_false (fun h => h4 (W.1 h).1), decide_eq_false h4]; rfl
    simp only [Bool.not_true,recReadN,numR_ok g1,numR_ok g2,txtR_ok g3,recH,recG,this,hend,Bool.not_false,Bool.true_and]
theorem recRead_ok {s : ByteArray} (h : (recReadS s).2 = true) : recOkB (recReadS s).1.1 (recReadS s).1.2.1 (recReadS s).1.2.2 = true := by
  rw [← rec_same] at h ⊢
  unfold recReadI recReadN recH at h ⊢
  split
  · rename_i hc
    simp only [Bool.and_eq_true] at hc
    exact hc.2
  · rename_i hc
    rw [if_neg hc] at h
    cases h
theorem recRead_nil : recReadS ⟨#[]⟩ = (zRec, false) := by
  unfold recReadS recReadL recG
  have : getNum (ByteArray.data ⟨#[]⟩).toList 0 = (0, 0, false) := rfl
  rw [this]; rfl
theorem runs_74 (s : ByteArray) (hs : s.size < 2 ^ 62) (R : RecV × Bool) (hR : R = recReadS s) : Runs Tryz.prog 74 [.one (.v (.str s))] [.agg [.v (.int .i64 R.1.1), .v (.int .i64 R.1.2.1), .v (.str R.1.2.2)], .one (.v (.bool R.2))] [] :=
  runs_74.raw s hs R (by rw [hR, rec_same])
end Go.Proofs.YtkijdbljnefeaaaGreatDoor
