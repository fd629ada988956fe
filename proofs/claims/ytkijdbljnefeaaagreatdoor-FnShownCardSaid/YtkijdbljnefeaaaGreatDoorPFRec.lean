/- Texts and records as bytes: PutText, GetText, RecOk, RecText, RecRead of the reference. -/
import Derived.Test.YtkijdbljnefeaaaGreatDoorPFOp
set_option linter.unusedSimpArgs false
set_option linter.unusedVariables false
namespace Go.Proofs.YtkijdbljnefeaaaGreatDoor
open Go.VM Go
set_option maxRecDepth 100000
attribute [local congr] vw_congr runV_congr runH_congr runW_congr runX_congr stuckV_congr stuckX_congr
theorem ro_bytes (l : List UInt8) : (l.map bRow).map (List.map T.toRO) = l.map bRow := ro_map bRow_r1 l
theorem putL_short : ∀ (k n : Nat), n < 128 ^ (k + 1) → (putL n).length ≤ k + 1
  | 0, n, h => by rw [putL_last (by omega)]; simp
  | k + 1, n, h => by
    by_cases hn : 127 < n
    · rw [putL_more hn, List.length_cons]
      have := putL_short k (n / 128) (by rw [Nat.div_lt_iff_lt_mul (by decide)]; rw [Nat.pow_succ] at h; omega)
      omega
    · rw [putL_last hn]; simp
theorem putNum_len (n : Int) : (putNum n).length ≤ 5 := by
  unfold putNum; split
  · rename_i h
    have : 0 ≤ n ∧ n ≤ 1000000000 := by simpa [inB] using h
    exact putL_short 4 _ (by omega)
  · exact Nat.zero_le _
def putText (s : ByteArray) : List UInt8 := if 400 < s.size then [] else putNum s.size ++ s.data.toList
theorem putText_len (s : ByteArray) : (putText s).length ≤ 405 := by
  unfold putText; split
  · exact Nat.zero_le _
  · have := putNum_len s.size
    rw [List.length_append]
    have : s.data.toList.length = s.size := Array.length_toList
    omega
theorem runs_141 (s : ByteArray) (hs : s.size < 2 ^ 62) : Runs Tryz.prog 141 [.one (.v (.str s))] [.one (.v (.list true 1 ((putText s).map bRow)))] [] := by
  refine runs_tab (tab := [(0, .c (.str s))]) (rts := []) (n := 13) (k := 1) Tryz.func141 rfl rfl (by simp) rfl (fun t => ?_) rfl ?_
  · rcases t with _ | t <;> rfl
  refine vw_go rfl ?_; simp only [go_sem,setCells,setIn]
  refine vw_seq ?_
  by_cases h : (400 : Int) < s.size
  · (refine vw_go rfl ?_; simp only [h,go_sem,setCells,setIn])
    refine vw_cond (t := true) rfl (fun _ => ?_) (fun h => nomatch h)
    refine vw_go rfl ?_; simp only [range1,List.replicate_succ,List.replicate_zero,List.flatten_cons,List.flatten_nil,List.range_zero,gt_iff_lt,go_sem,setCells,setIn]
    rw [show putText s = [] from by rw [putText, if_pos (by omega)]]
    exact vw_ret (r_then (e_ret (ret_by rfl rfl (by simp [RB]) rfl (by simp only [takeCs,takeC,go_sem,setCells,setIn]))))
  refine vw_go rfl ?_; simp only [h,go_sem,setCells,setIn]
  refine vw_cond (t := false) rfl (fun h => nomatch h) (fun _ => ?_)
  refine vw_skip (n_then ?_)
  have rN := runs_140 s.size
  have hN := putNum_len s.size
  have hD : s.data.toList.length = s.size := Array.length_toList
  rw [show putText s = putNum s.size ++ s.data.toList from by rw [putText, if_neg (by omega)]]
  generalize putNum s.size = A at rN hN
  refine vw_go rfl ?_; simp only [go_sem,setCells,setIn]
  refine ⟨_, _, call_rx [0] Tryz.func140 (rN) rfl rfl rfl rfl rfl rfl rfl (by simp [lendAll,lendC,seek,fresh,nav,rcells,RT.cells,VV.cells,tabE_cons,tabS_cons,ev,take_map_len,bRow_r1,bRow_comp,bRow_clean]) rfl (by simp [rcells,RT.cells,CT.clean,T.clean,bRow_r1,bRow_comp,bRow_clean]) rfl rfl, ?_⟩
  have hB : ¬ (A.length + s.size + 1) * (1 + 1) > bigRow := by simp only [bigRow]; omega
  have qt : (A.map bRow).take A.length = A.map bRow := by rw [List.take_of_length_le (by simp)]
  have qd : (List.map (fun b : UInt8 => [T.int .u8 b.toNat]) s.data.toList).take s.size = s.data.toList.map bRow := by rw [List.take_of_length_le (by simp [hD])]
  simp only [runH,runX,hB,hD,qt,qd,List.length_map,Nat.le_refl,bRow_noOwn,go_sem,setCells,setIn]
  have q2 : (A.map bRow ++ s.data.toList.map bRow).take (A.length + s.size) = (A ++ s.data.toList).map bRow := by
    rw [List.take_of_length_le (by simp [hD]), List.map_append]
  exact vw_ret (e_ret (ret_by rfl rfl (by simp [RB]) rfl (by simp only [takeCs,takeC,go_sem,q2,setCells,setIn]; simp [hD])))
theorem getF_some : ∀ (f : Nat) (l : List UInt8) (k n : Nat) {p : Nat × Nat}, getF f l k n = some p → k < p.2 ∧ p.2 ≤ k + l.length ∧ p.1 ≤ 1000000000
  | 0, _, _, _, _, h => by cases h
  | f + 1, [], _, _, _, h => by cases h
  | f + 1, d :: l, k, n, p, h => by
    rw [getF] at h
    split at h
    · split at h
      · cases h
      · rename_i hb
        cases h
        exact ⟨by simp, by simp, by simp only; omega⟩
    · have := getF_some f l (k + 1) _ h
      simp only [List.length_cons]
      omega
theorem getNum_or (l : List UInt8) (a : Int) : getNum l a = (0, 0, false) ∨ ∃ n b : Nat, getNum l a = ((n : Int), (b : Int), true) ∧ b ≤ l.length ∧ n ≤ 1000000000 ∧ a < b := by
  unfold getNum
  split
  · rename_i h
    cases hg : getF 5 (l.drop a.toNat) 0 0 with
    | none => exact .inl rfl
    | some p =>
      obtain ⟨h1, h2, h3⟩ := getF_some _ _ _ _ hg
      rw [List.length_drop] at h2
      exact .inr ⟨p.1, a.toNat + p.2, rfl, by omega, h3, by omega⟩
  · exact .inl rfl
def getText (l : List UInt8) (a : Int) : ByteArray × Int × Bool :=
  if (getNum l a).2.2 = true ∧ (getNum l a).1 ≤ 400 ∧ (getNum l a).1 ≤ l.length - (getNum l a).2.1 then
    (⟨((l.drop (getNum l a).2.1.toNat).take (getNum l a).1.toNat).toArray⟩, (getNum l a).2.1 + (getNum l a).1, true) else (⟨#[]⟩, 0, false)
theorem runs_107 (l : List UInt8) (hl : l.length < 2 ^ 62) (a : Int) (R : ByteArray × Int × Bool) (hR : R = getText l a) : Runs Tryz.prog 107 [.one (.v (.list false 1 (l.map bRow))), .one (.v (.int .i64 a))] [.one (.v (.str R.1)), .one (.v (.int .i64 R.2.1)), .one (.v (.bool R.2.2))] [] := by
  refine runs_tab (tab := [(0, .c (.list false 1 (l.map bRow))), (1, .c (.int .i64 a))]) (rts := []) (n := 41) (k := 2) Tryz.func107 rfl rfl (by simp) rfl (fun t => ?_) rfl ?_
  · rcases t with _ | _ | t <;> rfl
  have rG := runs_106 l hl a _ rfl
  unfold getText at hR
  refine vw_go rfl ?_; simp only [go_sem,setCells,setIn]
  refine vw_go rfl ?_; simp only [go_sem,setCells,setIn]
  rcases getNum_or l a with h | ⟨n, b, h, h1, h2, h3⟩
  · rw [h] at rG hR
    obtain rfl : R = (⟨#[]⟩, 0, false) := hR
    refine ⟨_, _, call_rx [0, 0] Tryz.func106 (rG) rfl rfl rfl rfl rfl rfl rfl (by simp [lendAll,lendC,seek,fresh,nav,rcells,RT.cells,VV.cells,tabE_cons,tabS_cons,ev,take_map_len,bRow_r1,bRow_comp,bRow_clean]) rfl (by simp [rcells,RT.cells,CT.clean,T.clean,bRow_r1,bRow_comp,bRow_clean]) rfl rfl, ?_⟩
    simp only [runH,runX,go_sem,setCells,setIn]
    refine vw_seq ?_
    refine vw_go rfl ?_; simp only [go_sem,setCells,setIn]
    refine vw_cond (t := true) rfl (fun _ => ?_) (fun h => nomatch h)
    refine vw_go rfl ?_; simp only [go_sem,setCells,setIn]
    exact vw_ret (r_then (e_ret (ret_of rfl rfl (by simp [RB]) rfl rfl)))
  rw [h] at rG hR
  simp only at rG hR
  refine ⟨_, _, call_rx [0, 0] Tryz.func106 (rG) rfl rfl rfl rfl rfl rfl rfl (by simp [lendAll,lendC,seek,fresh,nav,rcells,RT.cells,VV.cells,tabE_cons,tabS_cons,ev,take_map_len,bRow_r1,bRow_comp,bRow_clean]) rfl (by simp [rcells,RT.cells,CT.clean,T.clean,bRow_r1,bRow_comp,bRow_clean]) rfl rfl, ?_⟩
  simp only [runH,runX,go_sem,setCells,setIn]
  refine vw_seq ?_
  have w1 : IntKind.wrap .i64 ((l.length : Int) - (b : Int)) = (l.length : Int) - b := wrap_i64 (by omega) (by omega)
  by_cases h4 : (400 : Int) < (n : Int)
  · rw [if_neg (by omega)] at hR
    subst hR
    refine vw_go rfl ?_; simp only [h4,go_sem,setCells,setIn]
    refine vw_cond (t := true) rfl (fun _ => ?_) (fun h => nomatch h)
    refine vw_go rfl ?_; simp only [go_sem,setCells,setIn]
    exact vw_ret (r_then (e_ret (ret_of rfl rfl (by simp [RB]) rfl rfl)))
  by_cases h5 : (l.length : Int) - (b : Int) < (n : Int)
  · rw [if_neg (by omega)] at hR
    subst hR
    refine vw_go rfl ?_; simp only [h4,w1,h5,go_sem,setCells,setIn]
    refine vw_cond (t := true) rfl (fun _ => ?_) (fun h => nomatch h)
    refine vw_go rfl ?_; simp only [go_sem,setCells,setIn]
    exact vw_ret (r_then (e_ret (ret_of rfl rfl (by simp [RB]) rfl rfl)))
  rw [if_pos (by refine ⟨?_, ?_, ?_⟩ <;> first | trivial | omega)] at hR
  subst hR
  refine vw_go rfl ?_; simp only [h4,w1,h5,go_sem,setCells,setIn]
  refine vw_cond (t := false) rfl (fun h => nomatch h) (fun _ => ?_)
  refine vw_skip (n_then ?_)
  have w2 : IntKind.wrap .i64 ((b : Int) + (n : Int)) = ((b + n : Nat) : Int) := by rw [wrap_i64 (by omega) (by omega)]; omega
  have c1 : (0:Int) ≤ (b : Int) := by omega
  have c2 : (0:Int) ≤ ((b + n : Nat) : Int) := by omega
  have c3 : b ≤ b + n ∧ b + n ≤ l.length := by omega
  have c4 : b ≤ b + n := by omega
  have bv : bytesV (((l.map bRow).drop b).take (b + n - b)) = some ⟨((l.drop b).take n).toArray⟩ := by
    rw [← List.map_drop, ← List.map_take, bytesV_map, show b + n - b = n from by omega]
  refine vw_go rfl ?_; simp only [w2,c1,c2,c3,c4,List.length_map,Int.toNat_natCast,bv,go_sem,setCells,setIn]
  exact vw_ret (e_ret (ret_of rfl rfl (by simp [RB]) rfl rfl))
theorem runs_138 (l : List UInt8) (hl : l.length < 2 ^ 62) (a : Int) (R : ByteArray × Int × Bool) (hR : R = getText l a) : Runs Tryz.prog 138 [.one (.v (.list false 1 (l.map bRow))), .one (.v (.int .i64 a))] [.one (.v (.str R.1)), .one (.v (.int .i64 R.2.1)), .one (.v (.bool R.2.2))] [] := by
  refine runs_tab (tab := [(0, .c (.list false 1 (l.map bRow))), (1, .c (.int .i64 a))]) (rts := []) (n := 41) (k := 2) Tryz.func138 rfl rfl (by simp) rfl (fun t => ?_) rfl ?_
  · rcases t with _ | _ | t <;> rfl
  have rG := runs_137 l hl a _ rfl
  unfold getText at hR
  refine vw_go rfl ?_; simp only [go_sem,setCells,setIn]
  refine vw_go rfl ?_; simp only [go_sem,setCells,setIn]
  rcases getNum_or l a with h | ⟨n, b, h, h1, h2, h3⟩
  · rw [h] at rG hR
    obtain rfl : R = (⟨#[]⟩, 0, false) := hR
    refine ⟨_, _, call_rx [0, 0] Tryz.func137 (rG) rfl rfl rfl rfl rfl rfl rfl (by simp [lendAll,lendC,seek,fresh,nav,rcells,RT.cells,VV.cells,tabE_cons,tabS_cons,ev,take_map_len,bRow_r1,bRow_comp,bRow_clean]) rfl (by simp [rcells,RT.cells,CT.clean,T.clean,bRow_r1,bRow_comp,bRow_clean]) rfl rfl, ?_⟩
    simp only [runH,runX,go_sem,setCells,setIn]
    refine vw_seq ?_
    refine vw_go rfl ?_; simp only [go_sem,setCells,setIn]
    refine vw_cond (t := true) rfl (fun _ => ?_) (fun h => nomatch h)
    refine vw_go rfl ?_; simp only [go_sem,setCells,setIn]
    exact vw_ret (r_then (e_ret (ret_of rfl rfl (by simp [RB]) rfl rfl)))
  rw [h] at rG hR
  simp only at rG hR
  refine ⟨_, _, call_rx [0, 0] Tryz.func137 (rG) rfl rfl rfl rfl rfl rfl rfl (by simp [lendAll,lendC,seek,fresh,nav,rcells,RT.cells,VV.cells,tabE_cons,tabS_cons,ev,take_map_len,bRow_r1,bRow_comp,bRow_clean]) rfl (by simp [rcells,RT.cells,CT.clean,T.clean,bRow_r1,bRow_comp,bRow_clean]) rfl rfl, ?_⟩
  simp only [runH,runX,go_sem,setCells,setIn]
  refine vw_seq ?_
  have w1 : IntKind.wrap .i64 ((l.length : Int) - (b : Int)) = (l.length : Int) - b := wrap_i64 (by omega) (by omega)
  by_cases h4 : (400 : Int) < (n : Int)
  · rw [if_neg (by omega)] at hR
    subst hR
    refine vw_go rfl ?_; simp only [h4,go_sem,setCells,setIn]
    refine vw_cond (t := true) rfl (fun _ => ?_) (fun h => nomatch h)
    refine vw_go rfl ?_; simp only [go_sem,setCells,setIn]
    exact vw_ret (r_then (e_ret (ret_of rfl rfl (by simp [RB]) rfl rfl)))
  by_cases h5 : (l.length : Int) - (b : Int) < (n : Int)
  · rw [if_neg (by omega)] at hR
    subst hR
    refine vw_go rfl ?_; simp only [h4,w1,h5,go_sem,setCells,setIn]
    refine vw_cond (t := true) rfl (fun _ => ?_) (fun h => nomatch h)
    refine vw_go rfl ?_; simp only [go_sem,setCells,setIn]
    exact vw_ret (r_then (e_ret (ret_of rfl rfl (by simp [RB]) rfl rfl)))
  rw [if_pos (by refine ⟨?_, ?_, ?_⟩ <;> first | trivial | omega)] at hR
  subst hR
  refine vw_go rfl ?_; simp only [h4,w1,h5,go_sem,setCells,setIn]
  refine vw_cond (t := false) rfl (fun h => nomatch h) (fun _ => ?_)
  refine vw_skip (n_then ?_)
  have w2 : IntKind.wrap .i64 ((b : Int) + (n : Int)) = ((b + n : Nat) : Int) := by rw [wrap_i64 (by omega) (by omega)]; omega
  have c1 : (0:Int) ≤ (b : Int) := by omega
  have c2 : (0:Int) ≤ ((b + n : Nat) : Int) := by omega
  have c3 : b ≤ b + n ∧ b + n ≤ l.length := by omega
  have c4 : b ≤ b + n := by omega
  have bv : bytesV (((l.map bRow).drop b).take (b + n - b)) = some ⟨((l.drop b).take n).toArray⟩ := by
    rw [← List.map_drop, ← List.map_take, bytesV_map, show b + n - b = n from by omega]
  refine vw_go rfl ?_; simp only [w2,c1,c2,c3,c4,List.length_map,Int.toNat_natCast,bv,go_sem,setCells,setIn]
  exact vw_ret (e_ret (ret_of rfl rfl (by simp [RB]) rfl rfl))
def recOkB (s q : Int) (d : ByteArray) : Bool := inB s 0 25 && (inB q 1 1000000000 && decide ((d.size : Int) ≤ 400))
theorem runs_90 (s q : Int) (d : ByteArray) : Runs Tryz.prog 90 [.agg [.v (.int .i64 s), .v (.int .i64 q), .v (.str d)]] [.one (.v (.bool (recOkB s q d)))] [] := by
  refine runs_tab (tab := [(0, .agg [.c (.int .i64 s), .c (.int .i64 q), .c (.str d)])]) (rts := []) (n := 17) (k := 3) Tryz.func90 rfl rfl (by simp) rfl (fun t => ?_) rfl ?_
  · rcases t with _ | t <;> rfl
  have r1 := runs_26 s 0 25
  have r2 := runs_26 q 1 1000000000
  refine vw_go rfl ?_; simp only [go_sem,setCells,setIn]
  refine vw_go rfl ?_; simp only [go_sem,setCells,setIn]
  refine ⟨_, _, call_rd [0, 0, 0] Tryz.func26 (r1) rfl rfl rfl rfl rfl rfl rfl rfl rfl rfl rfl rfl rfl, ?_⟩
  cases h1 : inB s 0 25
  · simp only [runH,runX,go_sem,setCells,setIn]
    rw [show recOkB s q d = false from by rw [recOkB, h1]; rfl]
    exact vw_ret (e_ret (ret_of rfl rfl (by simp [RB]) rfl rfl))
  simp only [runH,runX,go_sem,setCells,setIn]
  refine ⟨_, _, call_rd [0, 0, 0] Tryz.func26 (r2) rfl rfl rfl rfl rfl rfl rfl rfl rfl rfl rfl rfl rfl, ?_⟩
  cases h2 : inB q 1 1000000000
  · simp only [runH,runX,go_sem,setCells,setIn]
    rw [show recOkB s q d = false from by rw [recOkB, h1, h2]; rfl]
    exact vw_ret (e_ret (ret_of rfl rfl (by simp [RB]) rfl rfl))
  simp only [runH,runX,go_sem,setCells,setIn]
  rw [show recOkB s q d = decide ((d.size : Int) ≤ 400) from by rw [recOkB, h1, h2]; rfl]
  exact vw_ret (e_ret (ret_of rfl rfl (by simp [RB]) rfl rfl))
def recBody (s q : Int) (d : ByteArray) : List UInt8 := (putNum s ++ putNum q) ++ putText d
def recText (s q : Int) (d : ByteArray) : ByteArray := if recOkB s q d = true then ⟨(putNum (sumB (recBody s q d)) ++ recBody s q d).toArray⟩ else ⟨#[]⟩
theorem runs_108 (s q : Int) (d : ByteArray) : Runs Tryz.prog 108 [.agg [.v (.int .i64 s), .v (.int .i64 q), .v (.str d)]] [.one (.v (.str (recText s q d)))] [] := by
  refine runs_tab (tab := [(0, .agg [.c (.int .i64 s), .c (.int .i64 q), .c (.str d)])]) (rts := []) (n := 25) (k := 3) Tryz.func108 rfl rfl (by simp) rfl (fun t => ?_) rfl ?_
  · rcases t with _ | t <;> rfl
  have r0 := runs_90 s q d
  refine vw_go rfl ?_; simp only [go_sem,setCells,setIn]
  refine vw_seq ?_
  refine vw_go rfl ?_; simp only [go_sem,setCells,setIn]
  refine ⟨_, _, call_rd [0] Tryz.func90 (r0) rfl rfl rfl rfl rfl rfl rfl rfl rfl rfl rfl rfl rfl, ?_⟩
  cases hk : recOkB s q d
  · simp only [runH,runX,go_sem,setCells,setIn]
    refine vw_cond (t := true) rfl (fun _ => ?_) (fun h => nomatch h)
    refine vw_go rfl ?_; simp only [go_sem,setCells,setIn]
    rw [show recText s q d = ⟨#[]⟩ from by rw [recText, hk]; rfl]
    exact vw_ret (r_then (e_ret (ret_of rfl rfl (by simp [RB]) rfl rfl)))
  simp only [runH,runX,go_sem,setCells,setIn]
  refine vw_cond (t := false) rfl (fun h => nomatch h) (fun _ => ?_)
  refine vw_skip (n_then ?_)
  rw [show recText s q d = ⟨(putNum (sumB (recBody s q d)) ++ recBody s q d).toArray⟩ from by rw [recText, hk]; rfl]
  have hd : d.size ≤ 400 := by
    simp only [recOkB,Bool.and_eq_true,decide_eq_true_eq] at hk; omega
  have r1 := runs_140 s
  have r2 := runs_140 q
  have r3 := runs_141 d (by omega)
  have l1 := putNum_len s
  have l2 := putNum_len q
  have l3 := putText_len d
  unfold recBody
  generalize putNum s = A at r1 l1
  generalize putNum q = B at r2 l2
  generalize putText d = C at r3 l3
  have r4 := runs_142 ((A ++ B) ++ C) (by simp only [List.length_append]; omega)
  have r5 := runs_140 (sumB ((A ++ B) ++ C))
  have l5 := putNum_len (sumB ((A ++ B) ++ C))
  generalize putNum (sumB ((A ++ B) ++ C)) = D at r5 l5
  refine vw_draw mixed rfl rfl ?_; simp only [go_sem,setCells,setIn]
  refine ⟨_, _, _, call_rx_at [0] [] Tryz.func140 (r1) rfl rfl rfl rfl rfl rfl rfl (fun st1 hst1 => by (try simp only [List.mem_cons,List.not_mem_nil,or_false,false_or,forall_eq_or_imp,forall_eq] at hst1); simp [lendAll,lendC,seek,fresh,nav,rcells,RT.cells,VV.cells,tabE_cons,tabS_cons,ev,take_map_len,hst1,bRow_r1,bRow_comp,bRow_clean]) rfl (by simp [rcells,RT.cells,CT.clean,T.clean,bRow_r1,bRow_comp,bRow_clean]) rfl rfl, ?_⟩
  simp only [runH,runX,go_sem,setCells,setIn]
  refine ⟨_, _, _, call_rx_at [0] [] Tryz.func140 (r2) rfl rfl rfl rfl rfl rfl rfl (fun st1 hst1 => by (try simp only [List.mem_cons,List.not_mem_nil,or_false,false_or,forall_eq_or_imp,forall_eq] at hst1); simp [lendAll,lendC,seek,fresh,nav,rcells,RT.cells,VV.cells,tabE_cons,tabS_cons,ev,take_map_len,hst1,bRow_r1,bRow_comp,bRow_clean]) rfl (by simp [rcells,RT.cells,CT.clean,T.clean,bRow_r1,bRow_comp,bRow_clean]) rfl rfl, ?_⟩
  have hB : ¬ (A.length + B.length + 1) * (1 + 1) > bigRow := by simp only [bigRow]; omega
  have qa : (A.map bRow).take A.length = A.map bRow := by rw [List.take_of_length_le (by simp)]
  have qb : (B.map bRow).take B.length = B.map bRow := by rw [List.take_of_length_le (by simp)]
  have qc : (C.map bRow).take C.length = C.map bRow := by rw [List.take_of_length_le (by simp)]
  have qd : (D.map bRow).take D.length = D.map bRow := by rw [List.take_of_length_le (by simp)]
  simp only [runH,runX,hB,qa,qb,List.length_map,Nat.le_refl,bRow_noOwn,go_sem,setCells,setIn]
  refine ⟨by unfold allOk; kernel_rfl, ?_⟩
  simp only [← List.map_append]
  have qe : ((A ++ B).map bRow).take (A.length + B.length) = (A ++ B).map bRow := by rw [List.take_of_length_le (by simp)]
  have hB2 : ¬ (A.length + B.length + C.length + 1) * (1 + 1) > bigRow := by simp only [bigRow]; omega
  refine vw_go rfl ?_; simp only [go_sem,setCells,setIn]
  refine ⟨_, _, call_rx [0] Tryz.func141 (r3) rfl rfl rfl rfl rfl rfl rfl (by simp [lendAll,lendC,seek,fresh,nav,rcells,RT.cells,VV.cells,tabE_cons,tabS_cons,ev,take_map_len,bRow_r1,bRow_comp,bRow_clean]) rfl (by simp [rcells,RT.cells,CT.clean,T.clean,bRow_r1,bRow_comp,bRow_clean]) rfl rfl, ?_⟩
  simp only [runH,runX,hB2,qc,qe,List.length_map,List.length_append,Nat.le_refl,bRow_noOwn,go_sem,setCells,setIn]
  simp only [← List.map_append]
  have qf : ((A ++ B ++ C).map bRow).take (A.length + B.length + C.length) = (A ++ B ++ C).map bRow := by rw [List.take_of_length_le (by simp; omega)]
  have hB3 : ¬ (D.length + (A.length + B.length + C.length) + 1) * (1 + 1) > bigRow := by simp only [bigRow]; omega
  have qg : ((A ++ B ++ C).map bRow).length = A.length + B.length + C.length := by simp; omega
  have rg := ro_bytes (A ++ B ++ C)
  generalize hE : A ++ B ++ C = E at r4 r5 qf qg rg
  refine vw_go rfl ?_; simp only [go_sem,setCells,setIn]
  refine ⟨_, _, call_rx [0] Tryz.func142 r4 rfl rfl rfl rfl rfl rfl rfl (by simp [lendAll,lendC,seek,fresh,nav,rcells,RT.cells,VV.cells,tabE_cons,tabS_cons,ev,qf,qg,bRow_r1]) rfl (by simp [rcells,RT.cells,CT.clean,T.clean]) rfl rfl, ?_⟩
  simp only [runH,runX,go_sem,setCells,setIn]
  refine ⟨_, _, call_rx [0] Tryz.func140 (r5) rfl rfl rfl rfl rfl rfl rfl (by simp [lendAll,lendC,seek,fresh,nav,rcells,RT.cells,VV.cells,tabE_cons,tabS_cons,ev,take_map_len,bRow_r1,bRow_comp,bRow_clean]) rfl (by simp [rcells,RT.cells,CT.clean,T.clean,bRow_r1,bRow_comp,bRow_clean]) rfl rfl, ?_⟩
  have hL : D.length + (A.length + B.length + C.length) ≤ D.length + E.length := by rw [← hE]; simp only [List.length_append]; omega
  have qh : ((D ++ E).map bRow).take (D.length + (A.length + B.length + C.length)) = (D ++ E).map bRow := by rw [List.take_of_length_le (by rw [← hE]; simp only [List.length_map,List.length_append]; omega)]
  simp only [runH,runX,hB3,qd,qf,qg,hL,qh,bytesV_map,List.length_map,List.length_append,Nat.le_refl,bRow_noOwn,← List.map_append,go_sem,setCells,setIn]
  exact vw_ret (e_ret (ret_of rfl rfl (by simp [RB]) rfl rfl))
/-! ### records that are read -/
abbrev RecV := Int × Int × ByteArray
def zRec : RecV := (0, 0, ⟨#[]⟩)
/-- What the reference makes of what it read. -/
def recG (s : ByteArray) (g0 g1 g2 : Int × Int × Bool) (g3 : ByteArray × Int × Bool) : RecV × Bool :=
  if (g0.2.2 && (g1.2.2 && (g2.2.2 && (g3.2.2 && decide (recText g1.1 g2.1 g3.1 = s))))) = true then ((g1.1, g2.1, g3.1), true) else (zRec, false)
def recReadL (s : ByteArray) (b : List UInt8) : RecV × Bool :=
  recG s (getNum b 0) (getNum b (getNum b 0).2.1) (getNum b (getNum b (getNum b 0).2.1).2.1) (getText b (getNum b (getNum b (getNum b 0).2.1).2.1).2.1)
def recReadS (s : ByteArray) : RecV × Bool := recReadL s s.data.toList
theorem runs_76 (s : ByteArray) (hs : s.size < 2 ^ 62) (R : RecV × Bool) (hR : R = recReadS s) : Runs Tryz.prog 76 [.one (.v (.str s))] [.agg [.v (.int .i64 R.1.1), .v (.int .i64 R.1.2.1), .v (.str R.1.2.2)], .one (.v (.bool R.2))] [] := by
  refine runs_tab (tab := [(0, .c (.str s))]) (rts := []) (n := 73) (k := 1) Tryz.func76 rfl rfl (by simp) rfl (fun t => ?_) rfl ?_
  · rcases t with _ | t <;> rfl
  unfold recReadS at hR
  have hl : s.data.toList.length < 2 ^ 62 := by
    have : s.data.toList.length = s.size := Array.length_toList
    omega
  have hz : s.data.toList.length = s.size := Array.length_toList
  generalize hb : s.data.toList = b at hR hl hz
  unfold recReadL at hR
  have r0 := runs_106 b hl 0 _ rfl
  generalize getNum b 0 = g0 at r0 hR
  obtain ⟨v0, a0, o0⟩ := g0
  have r1 := runs_106 b hl a0 _ rfl
  (try simp only at hR)
  generalize getNum b a0 = g1 at r1 hR
  obtain ⟨v1, a1, o1⟩ := g1
  have r2 := runs_106 b hl a1 _ rfl
  (try simp only at hR)
  generalize getNum b a1 = g2 at r2 hR
  obtain ⟨v2, a2, o2⟩ := g2
  have r3 := runs_107 b hl a2 _ rfl
  (try simp only at hR)
  generalize getText b a2 = g3 at r3 hR
  obtain ⟨v3, a3, o3⟩ := g3
  have r4 := runs_108 v1 v2 v3
  (try simp only at hR)
  (try simp only at r0)
  (try simp only at r1)
  (try simp only at r2)
  (try simp only at r3)
  simp only [recG] at hR
  generalize recText v1 v2 v3 = X at r4 hR
  have qb : (b.map bRow).take s.size = b.map bRow := by rw [List.take_of_length_le (by simp [hz])]
  refine vw_go rfl ?_; simp only [go_sem,setCells,setIn]
  refine vw_go rfl ?_; simp only [hb,go_sem,setCells,setIn]
  refine vw_go rfl ?_; simp only [go_sem,setCells,setIn]
  refine vw_go rfl ?_; simp only [go_sem,setCells,setIn]
  refine ⟨_, _, call_rx [0, 0] Tryz.func106 (r0) rfl rfl rfl rfl rfl rfl rfl (by simp [lendAll,lendC,seek,fresh,nav,rcells,RT.cells,VV.cells,tabE_cons,tabS_cons,ev,take_map_len,bRow_r1,bRow_comp,bRow_clean,lit,qb,hz]) rfl (by simp [rcells,RT.cells,CT.clean,T.clean,bRow_r1,bRow_comp,bRow_clean,lit,qb,hz]) rfl rfl, ?_⟩
  simp only [runH,runX,go_sem,setCells,setIn]
  refine vw_seq ?_
  cases o0
  · subst hR
    refine vw_go rfl ?_; simp only [go_sem,setCells,setIn]
    refine vw_cond (t := true) rfl (fun _ => ?_) (fun h => nomatch h)
    refine vw_go rfl ?_; simp only [go_sem,setCells,setIn]
    exact vw_ret (r_then (e_ret (ret_of rfl rfl (by simp [RB]) rfl rfl)))
  refine vw_go rfl ?_; simp only [go_sem,setCells,setIn]
  refine vw_cond (t := false) rfl (fun h => nomatch h) (fun _ => ?_)
  refine vw_skip (n_then ?_)
  refine vw_go rfl ?_; simp only [go_sem,setCells,setIn]
  refine ⟨_, _, call_rx [0, 0] Tryz.func106 (r1) rfl rfl rfl rfl rfl rfl rfl (by simp [lendAll,lendC,seek,fresh,nav,rcells,RT.cells,VV.cells,tabE_cons,tabS_cons,ev,take_map_len,bRow_r1,bRow_comp,bRow_clean,lit,qb,hz]) rfl (by simp [rcells,RT.cells,CT.clean,T.clean,bRow_r1,bRow_comp,bRow_clean,lit,qb,hz]) rfl rfl, ?_⟩
  simp only [runH,runX,go_sem,setCells,setIn]
  refine vw_seq ?_
  cases o1
  · subst hR
    refine vw_go rfl ?_; simp only [go_sem,setCells,setIn]
    refine vw_cond (t := true) rfl (fun _ => ?_) (fun h => nomatch h)
    refine vw_go rfl ?_; simp only [go_sem,setCells,setIn]
    exact vw_ret (r_then (e_ret (ret_of rfl rfl (by simp [RB]) rfl rfl)))
  refine vw_go rfl ?_; simp only [go_sem,setCells,setIn]
  refine vw_cond (t := false) rfl (fun h => nomatch h) (fun _ => ?_)
  refine vw_skip (n_then ?_)
  refine vw_go rfl ?_; simp only [go_sem,setCells,setIn]
  refine ⟨_, _, call_rx [0, 0] Tryz.func106 (r2) rfl rfl rfl rfl rfl rfl rfl (by simp [lendAll,lendC,seek,fresh,nav,rcells,RT.cells,VV.cells,tabE_cons,tabS_cons,ev,take_map_len,bRow_r1,bRow_comp,bRow_clean,lit,qb,hz]) rfl (by simp [rcells,RT.cells,CT.clean,T.clean,bRow_r1,bRow_comp,bRow_clean,lit,qb,hz]) rfl rfl, ?_⟩
  simp only [runH,runX,go_sem,setCells,setIn]
  refine vw_seq ?_
  cases o2
  · subst hR
    refine vw_go rfl ?_; simp only [go_sem,setCells,setIn]
    refine vw_cond (t := true) rfl (fun _ => ?_) (fun h => nomatch h)
    refine vw_go rfl ?_; simp only [go_sem,setCells,setIn]
    exact vw_ret (r_then (e_ret (ret_of rfl rfl (by simp [RB]) rfl rfl)))
  refine vw_go rfl ?_; simp only [go_sem,setCells,setIn]
  refine vw_cond (t := false) rfl (fun h => nomatch h) (fun _ => ?_)
  refine vw_skip (n_then ?_)
  refine vw_go rfl ?_; simp only [go_sem,setCells,setIn]
  refine ⟨_, _, call_rx [0, 0] Tryz.func107 (r3) rfl rfl rfl rfl rfl rfl rfl (by simp [lendAll,lendC,seek,fresh,nav,rcells,RT.cells,VV.cells,tabE_cons,tabS_cons,ev,take_map_len,bRow_r1,bRow_comp,bRow_clean,lit,qb,hz]) rfl (by simp [rcells,RT.cells,CT.clean,T.clean,bRow_r1,bRow_comp,bRow_clean,lit,qb,hz]) rfl rfl, ?_⟩
  simp only [runH,runX,go_sem,setCells,setIn]
  refine vw_go rfl ?_; simp only [go_sem,setCells,setIn]
  refine vw_go rfl ?_; simp only [go_sem,setCells,setIn]
  refine vw_go rfl ?_; simp only [go_sem,setCells,setIn]
  refine vw_seq ?_
  cases o3
  · subst hR
    refine vw_go rfl ?_; simp only [go_sem,setCells,setIn]
    refine vw_cond (t := true) rfl (fun _ => ?_) (fun h => nomatch h)
    refine vw_go rfl ?_; simp only [go_sem,setCells,setIn]
    exact vw_ret (r_then (e_ret (ret_of rfl rfl (by simp [RB]) rfl rfl)))
  refine vw_go rfl ?_; simp only [go_sem,setCells,setIn]
  refine ⟨_, _, call_rd [0] Tryz.func108 (r4) rfl rfl rfl rfl rfl rfl rfl rfl rfl rfl rfl rfl rfl, ?_⟩
  simp only [runH,runX,go_sem,setCells,setIn]
  by_cases hX : X = s
  · have hX' : decide (X = s) = true := decide_eq_true hX
    rw [hX'] at hR
    subst hR
    refine vw_cond (t := false) (by simp [ev,tabE_cons,hX']) (fun h => nomatch h) (fun _ => ?_)
    refine vw_skip (n_then ?_)
    refine vw_go rfl ?_; simp only [go_sem,setCells,setIn]
    exact vw_ret (e_ret (ret_of rfl rfl (by simp [RB]) rfl rfl))
  · have hX' : decide (X = s) = false := decide_eq_false hX
    rw [hX'] at hR
    subst hR
    refine vw_cond (t := true) (by simp [ev,tabE_cons,hX']) (fun _ => ?_) (fun h => nomatch h)
    refine vw_go rfl ?_; simp only [go_sem,setCells,setIn]
    exact vw_ret (r_then (e_ret (ret_of rfl rfl (by simp [RB]) rfl rfl)))
end Go.Proofs.YtkijdbljnefeaaaGreatDoor
