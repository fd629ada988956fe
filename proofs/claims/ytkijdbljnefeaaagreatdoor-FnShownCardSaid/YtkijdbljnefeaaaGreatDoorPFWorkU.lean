/- What is planned by the reference: l5Done, l5Room, Plan. -/
import Derived.Test.YtkijdbljnefeaaaGreatDoorPFCallL
set_option linter.unusedSimpArgs false
set_option linter.unusedVariables false
namespace Go.Proofs.YtkijdbljnefeaaaGreatDoor
open Go.VM Go
set_option maxRecDepth 100000
attribute [-go_sem] runW_cons
attribute [local congr] vw_congr runV_congr runH_congr runW_congr runX_congr stuckV_congr stuckX_congr
def doneB (W : WorkV) : T := if W.ok = true then .dead else .list true 3 (W.acts.map actRow)
theorem runs_93 (f : FtlV) (hf : FShape f) (W : WorkV) (hs : FShape W.f) (D : List ActV × FtlV × Bool) (hD : D = doneW f W) :
    Runs Tryz.prog 93 [.agg [.v (.list false 1 (f.pages.map sRow)), .v (.list false 1 (f.wear.map nRow)), .v (.list false 1 (f.map.map nRow)), .v (.int .i64 f.seq)], .one (.box [.list true 1 (W.f.pages.map sRow), .list true 1 (W.f.wear.map nRow), .list true 1 (W.f.map.map nRow), .int .i64 W.f.seq, .list true 3 (W.acts.map actRow), .bool W.ok])] [.one (.v (.list true 3 (D.1.map actRow))), .agg [.v (.list true 1 (D.2.1.pages.map sRow)), .v (.list true 1 (D.2.1.wear.map nRow)), .v (.list true 1 (D.2.1.map.map nRow)), .v (.int .i64 D.2.1.seq)], .one (.v (.bool D.2.2))] [(4, ⟨true, 6, [[.list true 1 (W.f.pages.map sRow), .list true 1 (W.f.wear.map nRow), .list true 1 (W.f.map.map nRow), .int .i64 W.f.seq, doneB W, .bool W.ok]], []⟩)] := by
  refine runs_tabB (tab := [(0, .agg [.c (.list false 1 (f.pages.map sRow)), .c (.list false 1 (f.wear.map nRow)), .c (.list false 1 (f.map.map nRow)), .c (.int .i64 f.seq)]), (1, .ptr 4 [] 0 0 0)]) (rts := [(4, some ⟨true, 6, [[.list true 1 (W.f.pages.map sRow), .list true 1 (W.f.wear.map nRow), .list true 1 (W.f.map.map nRow), .int .i64 W.f.seq, .list true 3 (W.acts.map actRow), .bool W.ok]], []⟩)]) (n := 25) (k := 5) Tryz.func93 rfl rfl (by simp) rfl (fun t => ?_) rfl ?_
  · rcases t with _ | _ | t <;> rfl
  have rC := runs_89 f hf
  have rM := runs_50 W.f.pages W.f.wear (by rw [hs.pl]; decide) (by rw [hs.wl]; decide) (fun s h => Nat.lt_of_le_of_lt (hs.ps s h) (by decide)) _ rfl
  unfold doneW at hD
  unfold doneB
  generalize mountC W.f.pages W.f.wear = Z at rM hD
  have bp : List.take W.f.pages.length (W.f.pages.map sRow) = W.f.pages.map sRow := List.take_of_length_le (by simp)
  have bw : List.take W.f.wear.length (W.f.wear.map nRow) = W.f.wear.map nRow := List.take_of_length_le (by simp)
  have bm : List.take W.f.map.length (W.f.map.map nRow) = W.f.map.map nRow := List.take_of_length_le (by simp)
  have ba : List.take W.acts.length (W.acts.map actRow) = W.acts.map actRow := List.take_of_length_le (by simp)
  have fp : List.take f.pages.length (f.pages.map sRow) = f.pages.map sRow := List.take_of_length_le (by simp)
  have fw : List.take f.wear.length (f.wear.map nRow) = f.wear.map nRow := List.take_of_length_le (by simp)
  have fm : List.take f.map.length (f.map.map nRow) = f.map.map nRow := List.take_of_length_le (by simp)
  have zp : List.take Z.pages.length (Z.pages.map sRow) = Z.pages.map sRow := List.take_of_length_le (by simp)
  have zw : List.take Z.wear.length (Z.wear.map nRow) = Z.wear.map nRow := List.take_of_length_le (by simp)
  have zm : List.take Z.map.length (Z.map.map nRow) = Z.map.map nRow := List.take_of_length_le (by simp)
  refine vw_go rfl ?_; simp only [go_sem,setCells,setIn]
  refine vw_seq ?_
  cases hok : W.ok
  case false =>
    rw [if_pos hok] at hD
    subst hD
    refine vw_go rfl ?_; simp only [hok,go_sem,setCells,setIn]
    refine vw_cond (t := true) rfl (fun _ => ?_) (fun h => nomatch h)
    refine vw_go rfl ?_; simp only [range1,List.replicate_succ,List.replicate_zero,List.flatten_cons,List.flatten_nil,List.range_zero,gt_iff_lt,go_sem,setCells,setIn]
    refine ⟨_, _, call_rx [0] Tryz.func89 (rC) rfl rfl rfl rfl rfl rfl rfl (by simp [lendAll,lendC,seek,fresh,nav,rcells,RT.cells,VV.cells,tabE_cons,tabS_cons,ev,take_map_len,sRow_r1,sRow_comp,sRow_clean,nRow_r1,nRow_comp,nRow_clean,actRow_r1,actRow_clean]) rfl (by simp [rcells,RT.cells,CT.clean,T.clean,sRow_r1,sRow_comp,sRow_clean,nRow_r1,nRow_comp,nRow_clean,actRow_r1,actRow_clean]) rfl rfl, ?_⟩
    simp only [runH,runX,fp,fw,fm,List.drop_length,go_sem,setCells,setIn]
    exact vw_ret (r_then (e_ret (ret_b rfl rfl (by simp [RB]) rfl (by simp only [takeCs,takeC,bp,bw,bm,ba,fp,fw,fm,List.drop_length,go_sem,setCells,setIn]; rfl) (by exact ⟨⟨by simp, _, rfl, rfl, rfl, rfl⟩, trivial⟩))))
  rw [if_neg (by rw [hok]; simp)] at hD
  subst hD
  refine vw_go rfl ?_; simp only [hok,go_sem,setCells,setIn]
  refine vw_cond (t := false) rfl (fun h => nomatch h) (fun _ => ?_)
  refine vw_skip (n_then ?_)
  refine vw_drawA mixed rfl rfl ?_; intro A hAA
  simp (maxSteps := 1000000) only [bp, bw, bm, ba, zp, zw, zm, List.drop_length, go_sem, setCells, setIn, runW_step]
  refine ⟨_, _, _, call_rx_at [0] [4] Tryz.func50 (rM) rfl rfl rfl rfl rfl rfl rfl (fun st1 hst1 => by (try simp only [List.mem_cons,List.not_mem_nil,or_false,false_or,forall_eq_or_imp,forall_eq] at hst1); simp [lendAll,lendC,seek,fresh,nav,rcells,RT.cells,VV.cells,tabE_cons,tabS_cons,ev,take_map_len,hst1,sRow_r1,sRow_comp,sRow_clean,nRow_r1,nRow_comp,nRow_clean,actRow_r1,actRow_clean,bp,bw]) rfl (by simp [rcells,RT.cells,CT.clean,T.clean,sRow_r1,sRow_comp,sRow_clean,nRow_r1,nRow_comp,nRow_clean,actRow_r1,actRow_clean,bp,bw]) rfl rfl, ?_⟩
  (unfold runX; simp (maxSteps := 1000000) only [bp, bw, bm, ba, zp, zw, zm, List.drop_length, go_sem, setCells, setIn, runW_step])
  refine ⟨by subst hAA; unfold allOk; kernel_rfl, ?_⟩
  exact vw_ret (e_ret (ret_b rfl rfl (by simp [RB]) rfl (by simp only [takeCs,takeC,bp,bw,bm,ba,zp,zw,zm,List.drop_length,go_sem,setCells,setIn]; rfl) (by exact ⟨⟨by simp, _, rfl, rfl, rfl, rfl⟩, trivial⟩)))
set_option maxHeartbeats 2000000 in
theorem runs_91 (W : WorkV) (hs : FShape W.f) (hg0 : W.ok = true → FGood W.f) (ha : W.acts.length ≤ 100) (V : WorkV) (hV : V = roomGo 10 W) :
    Runs Tryz.prog 91 [.one (.box [.list true 1 (W.f.pages.map sRow), .list true 1 (W.f.wear.map nRow), .list true 1 (W.f.map.map nRow), .int .i64 W.f.seq, .list true 3 (W.acts.map actRow), .bool W.ok])] [] [(0, ⟨true, 6, [[.list true 1 (V.f.pages.map sRow), .list true 1 (V.f.wear.map nRow), .list true 1 (V.f.map.map nRow), .int .i64 V.f.seq, .list true 3 (V.acts.map actRow), .bool V.ok]], []⟩)] := by
  refine runs_tabB (tab := [(0, .ptr 0 [] 0 0 0)]) (rts := [(0, some ⟨true, 6, [[.list true 1 (W.f.pages.map sRow), .list true 1 (W.f.wear.map nRow), .list true 1 (W.f.map.map nRow), .int .i64 W.f.seq, .list true 3 (W.acts.map actRow), .bool W.ok]], []⟩)]) (n := 50) (k := 1) Tryz.func91 rfl rfl (by simp) rfl (fun t => ?_) rfl ?_
  · rcases t with _ | t <;> rfl
  refine vw_go rfl ?_; simp only [go_sem,setCells,setIn]
  refine vw_block ?_
  refine vw_loop_tab (α := Nat × WorkV × List Path) (fun x => 10 - x.1) (fun x => ⟨tabE [(0, .ptr 0 [] 0 0 0), (2, .c (.int .i64 x.1))],
      tabS [(0, some ⟨true, 6, [[.list true 1 (x.2.1.f.pages.map sRow), .list true 1 (x.2.1.f.wear.map nRow), .list true 1 (x.2.1.f.map.map nRow), .int .i64 x.2.1.f.seq, .list true 3 (x.2.1.acts.map actRow), .bool x.2.1.ok]], x.2.2⟩)], 1⟩)
    (fun x => x.1 ≤ 10 ∧ roomGo (10 - x.1) x.2.1 = V ∧ FShape x.2.1.f ∧ (x.2.1.ok = true → FGood x.2.1.f) ∧ x.2.1.acts.length ≤ 100 + 7 * x.1) (x := (0, W, [])) ?round ?h0 ?hn
  case h0 => exact ⟨Nat.zero_le _, hV.symm, hs, hg0, ha⟩
  case hn =>
    refine norm_to [(0, 0)] rfl ?_ ?_ <;> simp only [go_sem]
  rintro ⟨k, X, lg⟩ ⟨hk, hg, hX, hXg, hXa⟩
  simp only at hk hg hX hXg hXa
  have bp : List.take X.f.pages.length (X.f.pages.map sRow) = X.f.pages.map sRow := List.take_of_length_le (by simp)
  have bw : List.take X.f.wear.length (X.f.wear.map nRow) = X.f.wear.map nRow := List.take_of_length_le (by simp)
  have bm : List.take X.f.map.length (X.f.map.map nRow) = X.f.map.map nRow := List.take_of_length_le (by simp)
  have ba : List.take X.acts.length (X.acts.map actRow) = X.acts.map actRow := List.take_of_length_le (by simp)
  refine vw_seq ?_
  by_cases hc : (k : Int) < 10
  case neg =>
    obtain rfl : k = 10 := by omega
    rw [Nat.sub_self, roomGo] at hg
    subst hg
    refine vw_go rfl ?_; simp only [hc,go_sem,setCells,setIn]
    refine vw_cond (t := false) rfl (fun h => nomatch h) (fun _ => ?_)
    refine vw_exit (x_then (x_then (x_block ?_)))
    exact e_normal (ret_b rfl rfl (by simp [RB]) rfl (by simp only [takeCs,takeC,bp,bw,bm,ba,List.drop_length,go_sem,setCells,setIn]; rfl) (by exact ⟨⟨by simp, _, rfl, rfl, rfl, rfl⟩, trivial⟩))
  obtain ⟨m, hm⟩ : ∃ m, 10 - k = m + 1 := ⟨9 - k, by omega⟩
  have hm2 : 10 - (k + 1) = m := by omega
  rw [hm, roomGo] at hg
  cases hok : X.ok
  case false =>
    rw [if_pos hok] at hg
    subst hg
    refine vw_go rfl ?_; simp only [hc,hok,go_sem,setCells,setIn]
    refine vw_cond (t := false) rfl (fun h => nomatch h) (fun _ => ?_)
    refine vw_exit (x_then (x_then (x_block ?_)))
    exact e_normal (ret_b rfl rfl (by simp [RB]) rfl (by simp only [takeCs,takeC,bp,bw,bm,ba,List.drop_length,go_sem,setCells,setIn]; rfl) (by exact ⟨⟨by simp, _, rfl, rfl, rfl, rfl⟩, trivial⟩))
  rw [if_neg (by rw [hok]; simp)] at hg
  have hG := hXg hok
  have rF := runs_125 X.f.pages X.f.wear (by rw [hX.pl]; decide) (by rw [hX.wl]; decide)
  have rN := runs_126 X.f.pages X.f.wear hX.pl hX.wl
  have rW := runs_127 X.f hX
  have hwi := worstF_in X.f
  have hfl := freeB_len X.f.pages X.f.wear
  generalize hfb : freeB X.f.pages X.f.wear = fb at rF hfl hg
  generalize openF X.f.pages X.f.wear = op at rN hg
  have bf : List.take fb.length (fb.map nRow) = fb.map nRow := List.take_of_length_le (by simp)
  have w1 : IntKind.wrap .i64 ((k:Int) + 1) = ((k + 1 : Nat) : Int) := by rw [wrap_i64 (by omega) (by omega)]; rfl
  refine vw_go rfl ?_; simp only [hc,hok,go_sem,setCells,setIn]
  refine vw_cond (t := true) rfl (fun _ => ?_) (fun h => nomatch h)
  refine vw_skip (n_then ?_)
  refine vw_seq ?_
  refine vw_block ?_
  refine vw_go rfl ?_; simp only [bp,bw,List.drop_length,go_sem,setCells,setIn]
  refine ⟨_, _, call_rx [0] Tryz.func125 (rF) rfl rfl rfl rfl rfl rfl rfl (by simp [lendAll,lendC,seek,fresh,nav,rcells,RT.cells,VV.cells,tabE_cons,tabS_cons,ev,take_map_len,sRow_r1,sRow_comp,sRow_clean,nRow_r1,nRow_comp,nRow_clean,actRow_r1,actRow_clean,bp,bw]) rfl (by simp [rcells,RT.cells,CT.clean,T.clean,sRow_r1,sRow_comp,sRow_clean,nRow_r1,nRow_comp,nRow_clean,actRow_r1,actRow_clean,bp,bw]) rfl rfl, ?_⟩
  simp only [runH,runX,bf,go_sem,setCells,setIn]
  refine vw_join (α := Unit) (fun _ => ⟨tabE [(0, .ptr 0 [] 0 0 0), (2, .c (.int .i64 k))],
      tabS [(0, some ⟨true, 6, [[.list true 1 (X.f.pages.map sRow), .list true 1 (X.f.wear.map nRow), .list true 1 (X.f.map.map nRow), .int .i64 X.f.seq, .list true 3 (X.acts.map actRow), .bool true]], lg⟩)], 1⟩)
    (fun _ => ¬ (2 < fb.length ∨ (fb.length = 2 ∧ 0 ≤ op))) ?_ ?_
  · by_cases h1 : 2 < fb.length
    · rw [if_pos (.inl h1)] at hg
      subst hg
      have q1 : (2 : Int) < (fb.length : Int) := by omega
      refine vw_go rfl ?_; simp only [q1,go_sem,setCells,setIn]
      refine vw_cond (t := true) rfl (fun _ => ?_) (fun h => nomatch h)
      refine vw_ret ?_
      repeat (first | refine r_then ?_ | refine r_block ?_)
      simp only [hok]
      exact e_ret (ret_b rfl rfl (by simp [RB]) rfl (by simp only [takeCs,takeC,bp,bw,bm,ba,List.drop_length,go_sem,setCells,setIn]; rfl) (by exact ⟨⟨by simp, _, rfl, rfl, rfl, rfl⟩, trivial⟩))
    have q1 : ¬ (2 : Int) < (fb.length : Int) := by omega
    by_cases h2 : fb.length = 2
    case neg =>
      have q2 : ¬ (fb.length : Int) = 2 := by omega
      refine vw_go rfl ?_; simp only [q1,q2,go_sem,setCells,setIn]
      refine vw_cond (t := false) rfl (fun h => nomatch h) (fun _ => ?_)
      refine vw_skip (n_then ⟨(), by omega, ?_⟩)
      refine norm_to [(0, 0)] rfl ?_ ?_ <;> simp only [go_sem]
    have q2 : (fb.length : Int) = 2 := by omega
    refine vw_go rfl ?_; simp only [q1,q2,bp,bw,List.drop_length,go_sem,setCells,setIn]
    refine ⟨_, _, call_rx [0] Tryz.func126 (rN) rfl rfl rfl rfl rfl rfl rfl (by simp [lendAll,lendC,seek,fresh,nav,rcells,RT.cells,VV.cells,tabE_cons,tabS_cons,ev,take_map_len,sRow_r1,sRow_comp,sRow_clean,nRow_r1,nRow_comp,nRow_clean,actRow_r1,actRow_clean,bp,bw]) rfl (by simp [rcells,RT.cells,CT.clean,T.clean,sRow_r1,sRow_comp,sRow_clean,nRow_r1,nRow_comp,nRow_clean,actRow_r1,actRow_clean,bp,bw]) rfl rfl, ?_⟩
    by_cases h3 : 0 ≤ op
    · rw [if_pos (.inr ⟨h2, h3⟩)] at hg
      subst hg
      simp only [runH,runX,h3,go_sem,setCells,setIn]
      refine vw_cond (t := true) rfl (fun _ => ?_) (fun h => nomatch h)
      refine vw_ret ?_
      repeat (first | refine r_then ?_ | refine r_block ?_)
      simp only [hok]
      exact e_ret (ret_b rfl rfl (by simp [RB]) rfl (by simp only [takeCs,takeC,bp,bw,bm,ba,List.drop_length,go_sem,setCells,setIn]; rfl) (by exact ⟨⟨by simp, _, rfl, rfl, rfl, rfl⟩, trivial⟩))
    · simp only [runH,runX,h3,go_sem,setCells,setIn]
      refine vw_cond (t := false) rfl (fun h => nomatch h) (fun _ => ?_)
      refine vw_skip (n_then ⟨(), by omega, ?_⟩)
      refine norm_to [(0, 0)] rfl ?_ ?_ <;> simp only [go_sem]
  rintro _ hno
  rw [if_neg hno] at hg
  refine vw_go rfl ?_; simp only [bp,bw,bm,List.drop_length,go_sem,setCells,setIn]
  refine ⟨_, _, call_rx [0] Tryz.func127 (rW) rfl rfl rfl rfl rfl rfl rfl (by simp [lendAll,lendC,seek,fresh,nav,rcells,RT.cells,VV.cells,tabE_cons,tabS_cons,ev,take_map_len,sRow_r1,sRow_comp,sRow_clean,nRow_r1,nRow_comp,nRow_clean,actRow_r1,actRow_clean,bp,bw,bm]) rfl (by simp [rcells,RT.cells,CT.clean,T.clean,sRow_r1,sRow_comp,sRow_clean,nRow_r1,nRow_comp,nRow_clean,actRow_r1,actRow_clean,bp,bw,bm]) rfl rfl, ?_⟩
  simp only [runH,runX,go_sem,setCells,setIn]
  refine vw_seq ?_
  by_cases h1 : worstF X.f < 0
  · rw [if_pos h1] at hg
    subst hg
    refine vw_go rfl ?_; simp only [h1,go_sem,setCells,setIn]
    refine vw_cond (t := true) rfl (fun _ => ?_) (fun h => nomatch h)
    refine vw_go rfl ?_; simp only [go_sem,setCells,setIn]
    refine vw_ret ?_
    repeat (first | refine r_then ?_ | refine r_block ?_)
    exact e_ret (ret_b rfl rfl (by simp [RB]) rfl (by simp only [takeCs,takeC,bp,bw,bm,ba,List.drop_length,go_sem,setCells,setIn]; rfl) (by exact ⟨⟨by simp, _, rfl, rfl, rfl, rfl⟩, trivial⟩))
  rw [if_neg h1] at hg
  obtain ⟨B, hB⟩ : ∃ B : Nat, worstF X.f = B := ⟨(worstF X.f).toNat, by omega⟩
  rw [hB] at rW hg hwi h1
  rw [Int.toNat_natCast] at hg
  obtain ⟨s1, s2, s3⟩ := cleanW_shape hG B
  have rC := runs_128 X hG (by omega) B (by omega) _ rfl
  rw [hok] at rC
  generalize cleanW X B = Y at rC hg s1 s2 s3
  rw [hB]
  refine vw_go rfl ?_; simp only [h1,go_sem,setCells,setIn]
  refine vw_cond (t := false) rfl (fun h => nomatch h) (fun _ => ?_)
  refine vw_skip (n_then ?_)
  refine vw_last rfl ?_; simp only [go_sem,setCells,setIn]
  refine ⟨_, _, call_pt [0, 0] 0 Tryz.func128 (rC) rfl rfl rfl rfl rfl rfl rfl rfl (by simp [lendAll,lendC,seek,fresh,nav,rcells,RT.cells,VV.cells,tabE_cons,tabS_cons,St.put,ev,lit,take_map_len,sRow_r1,sRow_comp,sRow_clean,nRow_r1,nRow_comp,nRow_clean,actRow_r1,actRow_clean,bp,bw,bm,ba,List.drop_length]) rfl rfl (by simp [rcells,RT.cells,CT.fine,T.fine,sRow_r1,sRow_comp,sRow_clean,nRow_r1,nRow_comp,nRow_clean,actRow_r1,actRow_clean,bp,bw,bm,ba,List.drop_length]) (by exact ⟨sRow_fn _ _, nRow_fn _ _, nRow_fn _ _, trivial, actRow_fn _ _, trivial, trivial⟩) rfl rfl, ?_⟩
  simp only [runH,runX,go_sem,setCells,setIn]
  refine (n_block (n_then ?_))
  refine vw_last rfl ?_; simp only [w1,go_sem,setCells,setIn]
  refine (n_then ?_)
  refine ⟨(k + 1, Y, lg ++ [[]]), by simp only; omega, ⟨by simp only; omega, by simp only; rw [hm2]; exact hg, s1, s3, by simp only; omega⟩, ?_⟩
  refine norm_to [(0, 0)] rfl ?_ ?_ <;> simp only [go_sem]
set_option maxHeartbeats 2000000 in
theorem runs_65 (f : FtlV) (hf : FShape f) (s : Int) (d : ByteArray) (D : List ActV × FtlV × Bool) (hD : D = planF f s d) :
    Runs Tryz.prog 65 [.agg [.v (.list false 1 (f.pages.map sRow)), .v (.list false 1 (f.wear.map nRow)), .v (.list false 1 (f.map.map nRow)), .v (.int .i64 f.seq)], .one (.v (.int .i64 s)), .one (.v (.str d))] [.one (.v (.list true 3 (D.1.map actRow))), .agg [.v (.list true 1 (D.2.1.pages.map sRow)), .v (.list true 1 (D.2.1.wear.map nRow)), .v (.list true 1 (D.2.1.map.map nRow)), .v (.int .i64 D.2.1.seq)], .one (.v (.bool D.2.2))] [] := by
  refine runs_tab (tab := [(0, .agg [.c (.list false 1 (f.pages.map sRow)), .c (.list false 1 (f.wear.map nRow)), .c (.list false 1 (f.map.map nRow)), .c (.int .i64 f.seq)]), (1, .c (.int .i64 s)), (2, .c (.str d))]) (rts := []) (n := 48) (k := 6) Tryz.func65 rfl rfl (by simp) rfl (fun t => ?_) rfl ?_
  · rcases t with _ | _ | _ | t <;> rfl
  have rO := runs_25 f hf.small
  unfold planF at hD
  cases hok : ftlOk f
  case false =>
    rw [hok] at rO hD
    rw [if_neg (by simp)] at hD
    subst hD
    refine vw_go rfl ?_; simp only [go_sem,setCells,setIn]
    refine vw_seq ?_
    refine vw_go rfl ?_; simp only [go_sem,setCells,setIn]
    refine ⟨_, _, call_rx [0] Tryz.func25 (rO) rfl rfl rfl rfl rfl rfl rfl (by simp [lendAll,lendC,seek,fresh,nav,rcells,RT.cells,VV.cells,tabE_cons,tabS_cons,ev,take_map_len,sRow_r1,sRow_comp,sRow_clean,nRow_r1,nRow_comp,nRow_clean,actRow_r1,actRow_clean]) rfl (by simp [rcells,RT.cells,CT.clean,T.clean,sRow_r1,sRow_comp,sRow_clean,nRow_r1,nRow_comp,nRow_clean,actRow_r1,actRow_clean]) rfl rfl, ?_⟩
    simp only [runH,runX,go_sem,setCells,setIn]
    refine vw_cond (t := true) rfl (fun _ => ?_) (fun h => nomatch h)
    refine vw_go rfl ?_; simp only [range1,List.replicate_succ,List.replicate_zero,List.flatten_cons,List.flatten_nil,List.range_zero,gt_iff_lt,go_sem,setCells,setIn]
    exact vw_ret (r_then (e_ret (ret_by rfl rfl (by simp [RB]) rfl (by simp only [takeCs,takeC,go_sem,setCells,setIn]; rfl))))
  rw [hok] at rO hD
  rw [if_pos rfl] at hD
  have hg : FGood f := ⟨hf, right_of hf.small hok⟩
  have rC := runs_89 f hf
  have rR := runs_90 s f.seq d
  obtain ⟨r1, r2⟩ := roomGo_shape 10 ⟨f, [], recOkB s f.seq d⟩ hf (fun _ => hg)
  have rM := runs_91 ⟨f, [], recOkB s f.seq d⟩ hf (fun _ => hg) (Nat.zero_le _) _ rfl
  unfold planW at hD
  generalize recOkB s f.seq d = rk at rR rM r1 r2 hD
  generalize roomGo 10 ⟨f, [], rk⟩ = X at rM r1 r2 hD
  simp only [List.length_nil] at r2
  have rB := runs_92 X r1 (by omega) s d _ rfl
  obtain ⟨b1, b2⟩ := burnW_shape r1 s d
  generalize burnW X s d = Y at rB b1 b2 hD
  have fp : List.take f.pages.length (f.pages.map sRow) = f.pages.map sRow := List.take_of_length_le (by simp)
  have fw : List.take f.wear.length (f.wear.map nRow) = f.wear.map nRow := List.take_of_length_le (by simp)
  have fm : List.take f.map.length (f.map.map nRow) = f.map.map nRow := List.take_of_length_le (by simp)
  refine vw_go rfl ?_; simp only [go_sem,setCells,setIn]
  refine vw_seq ?_
  refine vw_go rfl ?_; simp only [go_sem,setCells,setIn]
  refine ⟨_, _, call_rx [0] Tryz.func25 (rO) rfl rfl rfl rfl rfl rfl rfl (by simp [lendAll,lendC,seek,fresh,nav,rcells,RT.cells,VV.cells,tabE_cons,tabS_cons,ev,take_map_len,sRow_r1,sRow_comp,sRow_clean,nRow_r1,nRow_comp,nRow_clean,actRow_r1,actRow_clean]) rfl (by simp [rcells,RT.cells,CT.clean,T.clean,sRow_r1,sRow_comp,sRow_clean,nRow_r1,nRow_comp,nRow_clean,actRow_r1,actRow_clean]) rfl rfl, ?_⟩
  simp only [runH,runX,go_sem,setCells,setIn]
  refine vw_cond (t := false) rfl (fun h => nomatch h) (fun _ => ?_)
  refine vw_skip (n_then ?_)
  refine vw_drawA mixed rfl rfl ?_; intro A hAA
  simp (maxSteps := 1000000) only [fp, fw, fm, List.drop_length, go_sem, setCells, setIn, runW_step]
  refine ⟨_, _, _, call_rx_at [0] [] Tryz.func89 (rC) rfl rfl rfl rfl rfl rfl rfl (fun st1 hst1 => by (try simp only [List.mem_cons,List.not_mem_nil,or_false,false_or,forall_eq_or_imp,forall_eq] at hst1); simp [lendAll,lendC,seek,fresh,nav,rcells,RT.cells,VV.cells,tabE_cons,tabS_cons,ev,take_map_len,hst1,sRow_r1,sRow_comp,sRow_clean,nRow_r1,nRow_comp,nRow_clean,actRow_r1,actRow_clean]) rfl (by simp [rcells,RT.cells,CT.clean,T.clean,sRow_r1,sRow_comp,sRow_clean,nRow_r1,nRow_comp,nRow_clean,actRow_r1,actRow_clean]) rfl rfl, ?_⟩
  (unfold runX; simp (maxSteps := 1000000) only [fp, fw, fm, List.drop_length, go_sem, setCells, setIn, runW_step])
  refine ⟨_, _, _, call_rd_at [0] [] Tryz.func90 (rR) (fun _ _ => rfl) rfl rfl rfl rfl rfl rfl rfl rfl rfl rfl rfl rfl, ?_⟩
  (unfold runX; simp (maxSteps := 1000000) only [fp, fw, fm, List.drop_length, go_sem, setCells, setIn, runW_step])
  refine ⟨by subst hAA; unfold allOk; kernel_rfl, ?_⟩
  simp only [List.map_nil] at rM
  refine vw_go rfl ?_; simp only [go_sem,setCells,setIn]
  refine ⟨_, _, call_pt [0] 140294 Tryz.func91 (rM) rfl rfl rfl rfl rfl rfl rfl rfl (by simp [lendAll,lendC,seek,fresh,nav,rcells,RT.cells,VV.cells,tabE_cons,tabS_cons,St.put,ev,lit,take_map_len,sRow_r1,sRow_comp,sRow_clean,nRow_r1,nRow_comp,nRow_clean,actRow_r1,actRow_clean,fp,fw,fm,List.drop_length]) rfl rfl (by simp [rcells,RT.cells,CT.fine,T.fine,sRow_r1,sRow_comp,sRow_clean,nRow_r1,nRow_comp,nRow_clean,actRow_r1,actRow_clean,fp,fw,fm,List.drop_length]) (by exact ⟨sRow_fn _ _, nRow_fn _ _, nRow_fn _ _, trivial, actRow_fn _ _, trivial, trivial⟩) rfl rfl, ?_⟩
  simp only [runH,runX,go_sem,setCells,setIn]
  obtain ⟨Z, hZ⟩ : ∃ Z, Z = if X.ok = true then Y else X := ⟨_, rfl⟩
  rw [← hZ] at hD
  have hZs : FShape Z.f := by rw [hZ]; split <;> assumption
  have xp : List.take X.f.pages.length (X.f.pages.map sRow) = X.f.pages.map sRow := List.take_of_length_le (by simp)
  have xw : List.take X.f.wear.length (X.f.wear.map nRow) = X.f.wear.map nRow := List.take_of_length_le (by simp)
  have xm : List.take X.f.map.length (X.f.map.map nRow) = X.f.map.map nRow := List.take_of_length_le (by simp)
  have xa : List.take X.acts.length (X.acts.map actRow) = X.acts.map actRow := List.take_of_length_le (by simp)
  refine vw_join (α := List Path) (fun lg => ⟨tabE [(3, .ptr 6 [] 0 0 0), (7, .ptr 7 [] 0 0 0), (9, .ptr 8 [] 0 0 0)],
      tabS [(6, some ⟨true, 4, [[.list false 1 (f.pages.map sRow), .list false 1 (f.wear.map nRow), .list false 1 (f.map.map nRow), .int .i64 f.seq]], []⟩), (7, some ⟨true, 4, [[.list true 1 [], .list true 1 [], .list true 1 [], .int .i64 0]], []⟩),
        (8, some ⟨true, 6, [[.list true 1 (Z.f.pages.map sRow), .list true 1 (Z.f.wear.map nRow), .list true 1 (Z.f.map.map nRow), .int .i64 Z.f.seq, .list true 3 (Z.acts.map actRow), .bool Z.ok]], lg⟩)], 9⟩)
    (fun _ => True) ?_ ?_
  · cases hx : X.ok
    · rw [hx] at hZ
      simp only [Bool.false_eq_true,if_false] at hZ
      subst hZ
      refine vw_go rfl ?_; simp only [hx,go_sem,setCells,setIn]
      refine vw_cond (t := false) rfl (fun h => nomatch h) (fun _ => ?_)
      refine vw_skip (n_then ⟨[[]], ?_⟩)
      refine norm_to [(6, 6), (2054, 7), (140294, 8)] rfl ?_ ?_ <;> simp only [go_sem]
    · rw [hx] at hZ rB
      simp only [if_true] at hZ
      subst hZ
      refine vw_go rfl ?_; simp only [hx,go_sem,setCells,setIn]
      refine vw_cond (t := true) rfl (fun _ => ?_) (fun h => nomatch h)
      refine vw_last rfl ?_; simp only [go_sem,setCells,setIn]
      refine ⟨_, _, call_pt [0, 0, 0] 140294 Tryz.func92 (rB) rfl rfl rfl rfl rfl rfl rfl rfl (by simp [lendAll,lendC,seek,fresh,nav,rcells,RT.cells,VV.cells,tabE_cons,tabS_cons,St.put,ev,lit,take_map_len,sRow_r1,sRow_comp,sRow_clean,nRow_r1,nRow_comp,nRow_clean,actRow_r1,actRow_clean,xp,xw,xm,xa,List.drop_length]) rfl rfl (by simp [rcells,RT.cells,CT.fine,T.fine,sRow_r1,sRow_comp,sRow_clean,nRow_r1,nRow_comp,nRow_clean,actRow_r1,actRow_clean,xp,xw,xm,xa,List.drop_length]) (by exact ⟨sRow_fn _ _, nRow_fn _ _, nRow_fn _ _, trivial, actRow_fn _ _, trivial, trivial⟩) rfl rfl, ?_⟩
      simp only [runH,runX,go_sem,setCells,setIn]
      refine (n_then ⟨[[], []], ?_⟩)
      refine norm_to [(6, 6), (2054, 7), (140294, 8)] rfl ?_ ?_ <;> simp only [go_sem]
  intro lg _
  have rD := runs_93 f hf Z hZs _ hD
  have zp : List.take Z.f.pages.length (Z.f.pages.map sRow) = Z.f.pages.map sRow := List.take_of_length_le (by simp)
  have dp : List.take D.2.1.pages.length (D.2.1.pages.map sRow) = D.2.1.pages.map sRow := List.take_of_length_le (by simp)
  have dw : List.take D.2.1.wear.length (D.2.1.wear.map nRow) = D.2.1.wear.map nRow := List.take_of_length_le (by simp)
  have dm : List.take D.2.1.map.length (D.2.1.map.map nRow) = D.2.1.map.map nRow := List.take_of_length_le (by simp)
  have da : List.take D.1.length (D.1.map actRow) = D.1.map actRow := List.take_of_length_le (by simp)
  refine vw_go rfl ?_; simp only [go_sem,setCells,setIn]
  refine ⟨_, _, call_ptl (xs := [.agg [.c (.list false 1 (f.pages.map sRow)), .c (.list false 1 (f.wear.map nRow)), .c (.list false 1 (f.map.map nRow)), .c (.int .i64 f.seq)]]) (cs := [.v (.list false 1 (f.pages.map sRow)), .v (.list false 1 (f.wear.map nRow)), .v (.list false 1 (f.map.map nRow)), .v (.int .i64 f.seq)]) [0, 0] 8 4 Tryz.func93 (rD) rfl rfl rfl rfl rfl rfl rfl rfl (by simp [lendAll,lendC,seek,fresh,nav,rcells,RT.cells,VV.cells,tabE_cons,tabS_cons,St.put,ev,lit,take_map_len,sRow_r1,sRow_comp,sRow_clean,nRow_r1,nRow_comp,nRow_clean,actRow_r1,actRow_clean]) rfl rfl rfl (by simp [rcells,RT.cells,CT.fine,T.fine,sRow_fn,nRow_fn,actRow_fn]) (by exact ⟨sRow_fn _ _, nRow_fn _ _, nRow_fn _ _, trivial, (by unfold doneB; split; exact trivial; exact actRow_fn _ _), trivial, trivial⟩) rfl rfl, ?_⟩
  simp only [runH,runX,dp,dw,dm,da,List.drop_length,go_sem,setCells,setIn]
  refine vw_drawA mixed rfl rfl ?_; intro A hAA
  simp (maxSteps := 1000000) only [dp, dw, dm, da, List.drop_length, go_sem, setCells, setIn, runW_step]
  refine ⟨by subst hAA; unfold allOk; kernel_rfl, ?_⟩
  exact vw_ret (e_ret (ret_by rfl rfl (by simp [RB]) rfl (by simp only [takeCs,takeC,go_sem,setCells,setIn])))
end Go.Proofs.YtkijdbljnefeaaaGreatDoor
