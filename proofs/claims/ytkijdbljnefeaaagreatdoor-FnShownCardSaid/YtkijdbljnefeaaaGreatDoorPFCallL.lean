/- What is planned by the reference: l4Copy, l5Clean, l5Done, l5Room, Plan. A call whose last argument is a pointer to a variable of one's own, behind what is only read. -/
import Derived.Test.YtkijdbljnefeaaaGreatDoorPFWorkS
import Derived.Test.YtkijdbljnefeaaaGreatDoorPVBk
set_option linter.unusedSimpArgs false
set_option linter.unusedVariables false
namespace Go.Proofs.YtkijdbljnefeaaaGreatDoor
open Go.VM Go
set_option maxRecDepth 100000
attribute [-go_sem] runW_cons
attribute [local congr] vw_congr runV_congr runH_congr runW_congr runX_congr stuckV_congr stuckX_congr
theorem sRow_fn (H : Value → Nat → List (List T) → Prop) (l : List ByteArray) : fineRs H (l.map sRow) := fineRs_of (sRow_clean l)
theorem nRow_fn (H : Value → Nat → List (List T) → Prop) (l : List Int) : fineRs H (l.map nRow) := fineRs_of (nRow_clean l)
theorem actRow_fn (H : Value → Nat → List (List T) → Prop) (l : List ActV) : fineRs H (l.map actRow) := fineRs_of (actRow_clean l)
theorem runs_89 (f : FtlV) (hs : FShape f) : Runs Tryz.prog 89 [.agg [.v (.list false 1 (f.pages.map sRow)), .v (.list false 1 (f.wear.map nRow)), .v (.list false 1 (f.map.map nRow)), .v (.int .i64 f.seq)]] [.agg [.v (.list true 1 (f.pages.map sRow)), .v (.list true 1 (f.wear.map nRow)), .v (.list true 1 (f.map.map nRow)), .v (.int .i64 f.seq)]] [] := by
  refine runs_tab (tab := [(0, .agg [.c (.list false 1 (f.pages.map sRow)), .c (.list false 1 (f.wear.map nRow)), .c (.list false 1 (f.map.map nRow)), .c (.int .i64 f.seq)])]) (rts := []) (n := 13) (k := 4) Tryz.func89 rfl rfl (by simp) rfl (fun t => ?_) rfl ?_
  · rcases t with _ | t <;> rfl
  have rC := runs_75 f.pages f.wear (by rw [hs.pl]; decide) (by rw [hs.wl]; decide)
  have ml := hs.ml
  have bp : List.take f.pages.length (f.pages.map sRow) = f.pages.map sRow := List.take_of_length_le (by simp)
  have bw : List.take f.wear.length (f.wear.map nRow) = f.wear.map nRow := List.take_of_length_le (by simp)
  have bm : List.take f.map.length (f.map.map nRow) = f.map.map nRow := List.take_of_length_le (by simp)
  have B2 : ¬ (f.map.length + 1) * (8 + 1) > bigRow := big9 (by omega)
  refine vw_go rfl ?_; simp only [go_sem,setCells,setIn]
  refine vw_drawA mixed rfl rfl ?_; intro A hAA
  simp (maxSteps := 1000000) only [List.replicate_zero, List.flatten_nil, List.range_zero, nRow_noOwn, sRow_noOwn, B2, bp, bw, bm, go_sem, setCells, setIn, runW_step]
  refine ⟨_, _, _, call_rx_at [0] [] Tryz.func75 (rC) rfl rfl rfl rfl rfl rfl rfl (fun st1 hst1 => by (try simp only [List.mem_cons,List.not_mem_nil,or_false,false_or,forall_eq_or_imp,forall_eq] at hst1); simp [lendAll,lendC,seek,fresh,nav,rcells,RT.cells,VV.cells,tabE_cons,tabS_cons,ev,take_map_len,hst1,sRow_r1,sRow_comp,sRow_clean,nRow_r1,nRow_comp,nRow_clean,actRow_r1,actRow_clean]) rfl (by simp [rcells,RT.cells,CT.clean,T.clean,sRow_r1,sRow_comp,sRow_clean,nRow_r1,nRow_comp,nRow_clean,actRow_r1,actRow_clean]) rfl rfl, ?_⟩
  (unfold runX; simp (maxSteps := 1000000) only [List.replicate_zero, List.flatten_nil, List.range_zero, nRow_noOwn, sRow_noOwn, B2, bp, bw, bm, List.drop_length, go_sem, setCells, setIn, runW_step])
  refine ⟨by subst hAA; unfold allOk; kernel_rfl, ?_⟩
  exact vw_ret (e_ret (ret_by rfl rfl (by simp [RB]) rfl (by simp only [takeCs,takeC,go_sem,setCells,setIn])))
set_option maxHeartbeats 2000000 in
theorem runs_128 (W : WorkV) (hs : FGood W.f) (ha : W.acts.length ≤ 300) (b : Nat) (hb : b < 10) (V : WorkV) (hV : V = cleanW W b) :
    Runs Tryz.prog 128 [.one (.box [.list true 1 (W.f.pages.map sRow), .list true 1 (W.f.wear.map nRow), .list true 1 (W.f.map.map nRow), .int .i64 W.f.seq, .list true 3 (W.acts.map actRow), .bool W.ok]), .one (.v (.int .i64 b))] [] [(0, ⟨true, 6, [[.list true 1 (V.f.pages.map sRow), .list true 1 (V.f.wear.map nRow), .list true 1 (V.f.map.map nRow), .int .i64 V.f.seq, .list true 3 (V.acts.map actRow), .bool V.ok]], []⟩)] := by
  refine runs_tabB (tab := [(0, .ptr 0 [] 0 0 0), (1, .c (.int .i64 b))]) (rts := [(0, some ⟨true, 6, [[.list true 1 (W.f.pages.map sRow), .list true 1 (W.f.wear.map nRow), .list true 1 (W.f.map.map nRow), .int .i64 W.f.seq, .list true 3 (W.acts.map actRow), .bool W.ok]], []⟩)]) (n := 108) (k := 2) Tryz.func128 rfl rfl (by simp) rfl (fun t => ?_) rfl ?_
  · rcases t with _ | _ | t <;> rfl
  have rL := runs_156 W.f (by rw [hs.shape.ml]; decide) b hb
  have hl6 := livesF_len hs.right b
  have hlm : ∀ x ∈ livesF W.f.map b, ∃ K : Nat, x = (K : Int) ∧ K < 60 := fun x hx => by
    obtain ⟨i, h1, h2, _⟩ := livesF_mem hx
    exact ⟨_, h2, by omega⟩
  unfold cleanW at hV
  generalize livesF W.f.map b = L at rL hl6 hlm hV
  generalize hG : cleanGo b L W = G at hV
  have bL : List.take L.length (L.map nRow) = L.map nRow := List.take_of_length_le (by simp)
  have bp : List.take W.f.pages.length (W.f.pages.map sRow) = W.f.pages.map sRow := List.take_of_length_le (by simp)
  have bw : List.take W.f.wear.length (W.f.wear.map nRow) = W.f.wear.map nRow := List.take_of_length_le (by simp)
  have bm : List.take W.f.map.length (W.f.map.map nRow) = W.f.map.map nRow := List.take_of_length_le (by simp)
  refine vw_go rfl ?_; simp only [bp,bw,bm,List.drop_length,go_sem,setCells,setIn]
  refine ⟨_, _, call_rx [0, 0] Tryz.func156 (rL) rfl rfl rfl rfl rfl rfl rfl (by simp [lendAll,lendC,seek,fresh,nav,rcells,RT.cells,VV.cells,tabE_cons,tabS_cons,ev,take_map_len,sRow_r1,sRow_comp,sRow_clean,nRow_r1,nRow_comp,nRow_clean,actRow_r1,actRow_clean,bp,bw,bm]) rfl (by simp [rcells,RT.cells,CT.clean,T.clean,sRow_r1,sRow_comp,sRow_clean,nRow_r1,nRow_comp,nRow_clean,actRow_r1,actRow_clean,bp,bw,bm]) rfl rfl, ?_⟩
  simp only [runH,runX,bL,go_sem,setCells,setIn]
  refine vw_join (α := WorkV × List Path) (fun x => ⟨tabE [(0, .ptr 0 [] 0 0 0), (1, .c (.int .i64 b))],
      tabS [(0, some ⟨true, 6, [[.list true 1 (x.1.f.pages.map sRow), .list true 1 (x.1.f.wear.map nRow), .list true 1 (x.1.f.map.map nRow), .int .i64 x.1.f.seq, .list true 3 (x.1.acts.map actRow), .bool x.1.ok]], x.2⟩)], 2⟩)
    (fun x => x.1 = G ∧ FShape x.1.f ∧ x.1.acts.length ≤ 400) ?_ ?_
  · (refine vw_go rfl ?_; simp only [go_sem,setCells,setIn])
    refine vw_block ?_
    refine vw_loop_tab (α := Nat × WorkV × List Path) (fun x => L.length - x.1) (fun x => ⟨tabE [(0, .ptr 0 [] 0 0 0), (1, .c (.int .i64 b)), (4, .al 2 [] 0 1 0 L.length), (5, .c (.int .i64 x.1))],
        tabS [(0, some ⟨true, 6, [[.list true 1 (x.2.1.f.pages.map sRow), .list true 1 (x.2.1.f.wear.map nRow), .list true 1 (x.2.1.f.map.map nRow), .int .i64 x.2.1.f.seq, .list true 3 (x.2.1.acts.map actRow), .bool x.2.1.ok]], x.2.2⟩), (2, some ⟨false, 1, L.map nRow, []⟩)], 3⟩)
      (fun x => x.1 ≤ L.length ∧ cleanGo b (L.drop x.1) x.2.1 = G ∧ FShape x.2.1.f ∧ x.2.1.acts.length ≤ 300 + x.1) (x := (0, W, [])) ?round ?h0 ?hn
    case h0 => exact ⟨Nat.zero_le _, hG, hs.shape, by simpa using ha⟩
    case hn =>
      refine norm_to [(0, 0), (5122, 2)] rfl ?_ ?_ <;> simp only [go_sem]
    rintro ⟨i, X, lg⟩ ⟨hi, hg, hX, hXa⟩
    simp only at hi hg hX hXa
    refine vw_seq ?_
    by_cases hc : (i : Int) < L.length
    case neg =>
      rw [List.drop_eq_nil_of_le (by omega), cleanGo] at hg
      refine vw_go rfl ?_; simp only [hc,go_sem,setCells,setIn]
      refine vw_cond (t := false) rfl (fun h => nomatch h) (fun _ => ?_)
      refine vw_exit (x_then (x_then (x_block (n_then ⟨(X, lg), ⟨hg, hX, by simp only; omega⟩, ?_⟩))))
      refine norm_to [(0, 0)] rfl ?_ ?_ <;> simp only [go_sem]
    obtain ⟨x, hx⟩ : ∃ x, L[i]? = some x := ⟨_, List.getElem?_eq_getElem (by omega)⟩
    rw [drop_of hx, cleanGo] at hg
    cases hok : X.ok
    case false =>
      rw [if_pos hok] at hg
      refine vw_go rfl ?_; simp only [hc,hok,go_sem,setCells,setIn]
      refine vw_cond (t := false) rfl (fun h => nomatch h) (fun _ => ?_)
      refine vw_exit (x_then (x_then (x_block (n_then ⟨(X, lg), ⟨hg, hX, by simp only; omega⟩, ?_⟩))))
      simp only [hok]
      refine norm_to [(0, 0)] rfl ?_ ?_ <;> simp only [go_sem]
    rw [if_neg (by rw [hok]; simp)] at hg
    obtain ⟨K, rfl, hK⟩ := hlm x (List.mem_of_getElem? hx)
    obtain ⟨y, hy⟩ : ∃ y, X.f.pages[K]? = some y := ⟨_, List.getElem?_eq_getElem (by rw [hX.pl]; exact hK)⟩
    rw [Int.toNat_natCast, getD_of hy] at hg
    have rR := runs_76 y (Nat.lt_of_le_of_lt (hX.ps y (List.mem_of_getElem? hy)) (by decide)) _ rfl
    generalize recReadS y = R at rR hg
    obtain ⟨⟨r1, r2, r3⟩, rok⟩ := R
    simp only at rR hg
    have rN := runs_129 X.f.pages X.f.wear hX.pl hX.wl
    have hin := nextF_in X.f.pages X.f.wear
    have rB := runs_92 X hX (by omega) r1 r3 _ rfl
    have hB := burnW_shape hX r1 r3
    generalize burnW X r1 r3 = Y at rB hB hg
    obtain ⟨hY, hYa⟩ := hB
    generalize nextF X.f.pages X.f.wear = k at rN hin hg
    have c0 : (0:Int) ≤ (i : Int) := by omega
    have c2 : i < L.length := by omega
    have d0 : (0:Int) ≤ (K : Int) := by omega
    have d1 : (K : Int) < (X.f.pages.length : Int) := by rw [hX.pl]; omega
    have d2 : K < X.f.pages.length := by rw [hX.pl]; omega
    have bp : List.take X.f.pages.length (X.f.pages.map sRow) = X.f.pages.map sRow := List.take_of_length_le (by simp)
    have bw : List.take X.f.wear.length (X.f.wear.map nRow) = X.f.wear.map nRow := List.take_of_length_le (by simp)
    have bm : List.take X.f.map.length (X.f.map.map nRow) = X.f.map.map nRow := List.take_of_length_le (by simp)
    have w1 : IntKind.wrap .i64 ((i:Int) + 1) = ((i + 1 : Nat) : Int) := by rw [wrap_i64 (by omega) (by omega)]; rfl
    refine vw_go rfl ?_; simp only [hc,hok,go_sem,setCells,setIn]
    refine vw_cond (t := true) rfl (fun _ => ?_) (fun h => nomatch h)
    refine vw_skip (n_then ?_)
    refine vw_seq ?_
    refine vw_block ?_
    refine vw_drawA mixed rfl rfl ?_; intro A hAA
    simp (maxSteps := 1000000) only [bp, bL, c0, hc, c2, d0, d1, d2, Int.toNat_natCast, getD_map_of hx, getD_map_of hy, sRow, nRow, List.drop_length, go_sem, setCells, setIn, runW_step]
    refine ⟨_, _, _, call_rd_at [0] [] Tryz.func76 (rR) (fun _ _ => rfl) rfl rfl rfl rfl rfl rfl rfl rfl rfl rfl rfl rfl, ?_⟩
    (unfold runX; simp (maxSteps := 1000000) only [bp, bL, c0, hc, c2, d0, d1, d2, Int.toNat_natCast, getD_map_of hx, getD_map_of hy, sRow, nRow, List.drop_length, go_sem, setCells, setIn, runW_step])
    refine ⟨by subst hAA; unfold allOk; kernel_rfl, ?_⟩
    refine vw_go rfl ?_; simp only [bp,bw,List.drop_length,go_sem,setCells,setIn]
    refine ⟨_, _, call_rx [0] Tryz.func129 (rN) rfl rfl rfl rfl rfl rfl rfl (by simp [lendAll,lendC,seek,fresh,nav,rcells,RT.cells,VV.cells,tabE_cons,tabS_cons,ev,take_map_len,sRow_r1,sRow_comp,sRow_clean,nRow_r1,nRow_comp,nRow_clean,actRow_r1,actRow_clean,bp,bw]) rfl (by simp [rcells,RT.cells,CT.clean,T.clean,sRow_r1,sRow_comp,sRow_clean,nRow_r1,nRow_comp,nRow_clean,actRow_r1,actRow_clean,bp,bw]) rfl rfl, ?_⟩
    simp only [runH,runX,go_sem,setCells,setIn]
    have ba : List.take X.acts.length (X.acts.map actRow) = X.acts.map actRow := List.take_of_length_le (by simp)
    have hbad : (k < 0 ∨ k / 6 = (b : Int)) → V = { X with ok := false } := fun h => by
      rw [if_pos h] at hg
      rw [hV, ← hg, cleanEnd, if_pos (.inl rfl)]
    refine vw_seq ?_
    by_cases h1 : k < 0
    · obtain rfl := hbad (.inl h1)
      refine vw_go rfl ?_; simp only [h1,go_sem,setCells,setIn]
      refine vw_cond (t := true) rfl (fun _ => ?_) (fun h => nomatch h)
      refine vw_go rfl ?_; simp only [go_sem,setCells,setIn]
      refine vw_ret ?_
      repeat (first | refine r_then ?_ | refine r_block ?_)
      exact e_ret (ret_b rfl rfl (by simp [RB]) rfl (by simp only [takeCs,takeC,bp,bw,bm,ba,List.drop_length,go_sem,setCells,setIn]; rfl) (by exact ⟨⟨by simp, _, rfl, rfl, rfl, rfl⟩, trivial⟩))
    have e2 : Int.tdiv k 6 = k / 6 := Int.tdiv_eq_ediv_of_nonneg (by omega)
    have v2 : IntKind.wrap .i64 (k / 6) = k / 6 := wrap_i64 (by omega) (by omega)
    by_cases h2 : k / 6 = (b : Int)
    · obtain rfl := hbad (.inr h2)
      have q2 : decide (k / 6 = (b : Int)) = true := decide_eq_true h2
      refine vw_go rfl ?_; simp only [h1,e2,v2,q2,go_sem,setCells,setIn]
      refine vw_cond (t := true) rfl (fun _ => ?_) (fun h => nomatch h)
      refine vw_go rfl ?_; simp only [go_sem,setCells,setIn]
      refine vw_ret ?_
      repeat (first | refine r_then ?_ | refine r_block ?_)
      exact e_ret (ret_b rfl rfl (by simp [RB]) rfl (by simp only [takeCs,takeC,bp,bw,bm,ba,List.drop_length,go_sem,setCells,setIn]; rfl) (by exact ⟨⟨by simp, _, rfl, rfl, rfl, rfl⟩, trivial⟩))
    rw [if_neg (by rintro (h | h); exact h1 h; exact h2 h)] at hg
    refine vw_go rfl ?_; simp only [h1,e2,v2,h2,go_sem,setCells,setIn]
    refine vw_cond (t := false) rfl (fun h => nomatch h) (fun _ => ?_)
    refine vw_skip (n_then ?_)
    rw [hok] at rB
    refine vw_last rfl ?_; simp only [go_sem,setCells,setIn]
    refine ⟨_, _, call_pt [0, 0, 0] 0 Tryz.func92 (rB) rfl rfl rfl rfl rfl rfl rfl rfl (by simp [lendAll,lendC,seek,fresh,nav,rcells,RT.cells,VV.cells,tabE_cons,tabS_cons,St.put,ev,lit,take_map_len,sRow_r1,sRow_comp,sRow_clean,nRow_r1,nRow_comp,nRow_clean,actRow_r1,actRow_clean,bp,bw,bm,ba,List.drop_length]) rfl rfl (by simp [rcells,RT.cells,CT.fine,T.fine,sRow_r1,sRow_comp,sRow_clean,nRow_r1,nRow_comp,nRow_clean,actRow_r1,actRow_clean,bp,bw,bm,ba,List.drop_length]) (by exact ⟨sRow_fn _ _, nRow_fn _ _, nRow_fn _ _, trivial, actRow_fn _ _, trivial, trivial⟩) rfl rfl, ?_⟩
    simp only [runH,runX,go_sem,setCells,setIn]
    refine (n_block (n_then ?_))
    refine vw_last rfl ?_; simp only [w1,go_sem,setCells,setIn]
    refine (n_then ?_)
    refine ⟨(i + 1, Y, lg ++ [[]]), by simp only; omega, ⟨by simp only; omega, hg, hY, by simp only; omega⟩, ?_⟩
    refine norm_to [(0, 0), (2, 2)] rfl ?_ ?_ <;> simp only [go_sem]
  rintro ⟨X, lg⟩ ⟨hXG, hX, hXa⟩
  simp only at hXG hX hXa
  subst hXG
  unfold cleanEnd at hV
  have bp : List.take X.f.pages.length (X.f.pages.map sRow) = X.f.pages.map sRow := List.take_of_length_le (by simp)
  have bw : List.take X.f.wear.length (X.f.wear.map nRow) = X.f.wear.map nRow := List.take_of_length_le (by simp)
  have bm : List.take X.f.map.length (X.f.map.map nRow) = X.f.map.map nRow := List.take_of_length_le (by simp)
  have ba : List.take X.acts.length (X.acts.map actRow) = X.acts.map actRow := List.take_of_length_le (by simp)
  obtain ⟨y, hy⟩ : ∃ y, X.f.wear[b]? = some y := ⟨_, List.getElem?_eq_getElem (by rw [hX.wl]; exact hb)⟩
  rw [getD_of hy] at hV
  have c0 : (0:Int) ≤ (b : Int) := by omega
  have c1 : (b : Int) < (X.f.wear.length : Int) := by rw [hX.wl]; omega
  have c2 : b < X.f.wear.length := by rw [hX.wl]; exact hb
  refine vw_seq ?_
  cases hok : X.ok
  case false =>
    rw [if_pos (.inl hok)] at hV
    subst hV
    refine vw_go rfl ?_; simp only [hok,go_sem,setCells,setIn]
    refine vw_cond (t := true) rfl (fun _ => ?_) (fun h => nomatch h)
    refine vw_go rfl ?_; simp only [hok,go_sem,setCells,setIn]
    exact vw_ret (r_then (e_ret (ret_b rfl rfl (by simp [RB]) rfl (by simp only [takeCs,takeC,bp,bw,bm,ba,List.drop_length,go_sem,setCells,setIn]; rfl) (by exact ⟨⟨by simp, _, rfl, rfl, rfl, rfl⟩, trivial⟩))))
  by_cases hm : y = 1000000000
  · rw [if_pos (.inr hm)] at hV
    subst hV
    refine vw_go rfl ?_; simp only [hok,c0,c1,c2,Int.toNat_natCast,getD_map_of hy,nRow,hm,List.drop_length,go_sem,setCells,setIn]
    refine vw_cond (t := true) rfl (fun _ => ?_) (fun h => nomatch h)
    refine vw_go rfl ?_; simp only [hok,go_sem,setCells,setIn]
    exact vw_ret (r_then (e_ret (ret_b rfl rfl (by simp [RB]) rfl (by simp only [takeCs,takeC,bp,bw,bm,ba,List.drop_length,go_sem,setCells,setIn]; rfl) (by exact ⟨⟨by simp, _, rfl, rfl, rfl, rfl⟩, trivial⟩))))
  rw [if_neg (by rintro (h | h); rw [hok] at h; cases h; exact hm h)] at hV
  have e3 : X.acts.map actRow ++ [[.int .i64 2, .int .i64 (b : Int), .str (⟨#[]⟩ : ByteArray)]] = (X.acts ++ [(⟨2, b, ⟨#[]⟩⟩ : ActV)]).map actRow := by simp [actRow]
  have B1 : ¬ (X.acts.length + 1 + 1) * (32 + 1) > bigRow := big35 (by omega)
  generalize hA2 : X.acts ++ [(⟨2, b, ⟨#[]⟩⟩ : ActV)] = acts2 at e3 hV
  have l2 : X.acts.length + 1 ≤ acts2.length := by rw [← hA2]; simp
  have be : List.take (X.acts.length + 1) (acts2.map actRow) = acts2.map actRow := by rw [← hA2]; exact List.take_of_length_le (by simp)
  have rW := runs_133 X.f.pages X.f.wear hX.pl hX.wl hX.wb b 6 hb (by decide) _ _ rfl rfl
  obtain ⟨g1, g2⟩ := wipeTo_shape X.f.pages b 800 hX.ps 6
  have g3 : (wearUp X.f.wear b).length = 10 := by unfold wearUp; rw [List.length_set, hX.wl]
  change Runs _ _ _ [.agg [.v (.list true 1 ((wipeTo X.f.pages b 6).map sRow)), _]] _ at rW
  generalize wipeTo X.f.pages b 6 = P2 at rW g1 g2 hV
  generalize wearUp X.f.wear b = W2 at rW g3 hV
  have rM := runs_50 P2 W2 (by rw [g1, hX.pl]; decide) (by rw [g3]; decide) (fun s hs => Nat.lt_of_le_of_lt (g2 s hs) (by decide)) _ rfl
  generalize mountC P2 W2 = Z at rM hV
  have bP : List.take P2.length (P2.map sRow) = P2.map sRow := List.take_of_length_le (by simp)
  have bW : List.take W2.length (W2.map nRow) = W2.map nRow := List.take_of_length_le (by simp)
  refine vw_go rfl ?_; simp only [hok,c0,c1,c2,Int.toNat_natCast,getD_map_of hy,nRow,hm,List.drop_length,go_sem,setCells,setIn]
  refine vw_cond (t := false) rfl (fun h => nomatch h) (fun _ => ?_)
  refine vw_skip (n_then ?_)
  refine vw_go rfl ?_; simp only [ba,B1,e3,l2,be,range1,List.replicate_succ,List.replicate_zero,List.flatten_cons,List.flatten_nil,List.range_zero,gt_iff_lt,List.drop_length,go_sem,setCells,setIn]
  refine vw_last rfl ?_; simp only [bp,bw,List.drop_length,go_sem,setCells,setIn]
  refine ⟨_, _, call_own [0, 0, 0] [(0, some ⟨true, 6, [[.dead, .list true 1 (X.f.wear.map nRow), .list true 1 (X.f.map.map nRow), .int .i64 X.f.seq, .list true 3 (acts2.map actRow), .bool true]], lg ++ [[(0, 4)]]⟩), (0, some ⟨true, 6, [[.dead, .dead, .list true 1 (X.f.map.map nRow), .int .i64 X.f.seq, .list true 3 (acts2.map actRow), .bool true]], lg ++ [[(0, 4)]]⟩)] Tryz.func133 (rW) rfl rfl rfl rfl rfl rfl rfl (by simp [takeCs,takeC,takeV,seek,fresh,nav,takenUp,rcells,RT.cells,VV.cells,tabE_cons,tabS_cons,ups_tab,ups_nil,ev,take_map_len,sRow_r1,sRow_comp,sRow_clean,nRow_r1,nRow_comp,nRow_clean,actRow_r1,actRow_clean,lit,modAt,setIn,bp,bw,List.drop_length]) rfl (by simp [rcells,RT.cells,CT.clean,T.clean,sRow_r1,sRow_comp,sRow_clean,nRow_r1,nRow_comp,nRow_clean,actRow_r1,actRow_clean,lit,modAt,setIn,bp,bw,List.drop_length]) rfl rfl, ?_⟩
  simp only [runH,runX,bP,bW,go_sem,setCells,setIn]
  refine ⟨_, _, call_rx [0] Tryz.func50 (rM) rfl rfl rfl rfl rfl rfl rfl (by simp [lendAll,lendC,seek,fresh,nav,rcells,RT.cells,VV.cells,tabE_cons,tabS_cons,ev,take_map_len,sRow_r1,sRow_comp,sRow_clean,nRow_r1,nRow_comp,nRow_clean,actRow_r1,actRow_clean,bP,bW]) rfl (by simp [rcells,RT.cells,CT.clean,T.clean,sRow_r1,sRow_comp,sRow_clean,nRow_r1,nRow_comp,nRow_clean,actRow_r1,actRow_clean,bP,bW]) rfl rfl, ?_⟩
  simp only [runH,runX,List.drop_length,go_sem,setCells,setIn]
  subst hV
  simp only [hok]
  exact e_normal (ret_b rfl rfl (by simp [RB]) rfl (by simp only [takeCs,takeC,List.drop_length,go_sem,setCells,setIn]; rfl) (by exact ⟨⟨by simp, _, rfl, rfl, rfl, rfl⟩, trivial⟩))
end Go.Proofs.YtkijdbljnefeaaaGreatDoor
namespace Go.VM
open Go
theorem handCs_roL (st : St) (rest : List (Md × VV)) : ∀ (l : List VV), handCs st ((l.map fun y => (Md.ro, y)) ++ rest) = (handCs st rest).map fun p => ((l.map fun _ => none) ++ p.1, p.2.1, (l.map fun _ => none) ++ p.2.2)
  | [] => by cases h : handCs st rest <;> simp [h]
  | x :: xs => by
    simp only [List.map_cons,List.cons_append,handCs,handC,St.ups_nil,handCs_roL st rest xs]
    cases h : handCs st rest <;> simp
theorem mergeCs_roL {st : St} (c : CT) (x : VV) : ∀ (l : List VV) (cs : List CT), lendAll st l = some cs → mergeCs st ((l.map fun _ => none) ++ [some c]) (l ++ [x]) = some (cs ++ [c])
  | [], cs, h => by
    simp only [lendAll,Option.some.injEq] at h
    subst h
    rfl
  | y :: l, cs, h => by
    simp only [lendAll] at h
    cases h1 : lendC st y with
    | none => rw [h1] at h; cases h
    | some c0 =>
      rw [h1] at h
      simp only at h
      cases h2 : lendAll st l with
      | none => rw [h2] at h; cases h
      | some c1 =>
        rw [h2] at h
        simp only [Option.map_some,Option.some.injEq] at h
        subst h
        simp only [List.map_cons,List.cons_append,mergeCs,h1,mergeCs_roL c x l c1 h2,Option.map_some]
theorem lendAll_len {st : St} : ∀ (l : List VV) (cs : List CT), lendAll st l = some cs → cs.length = l.length
  | [], cs, h => by
    simp only [lendAll,Option.some.injEq] at h
    subst h
    rfl
  | y :: l, cs, h => by
    simp only [lendAll] at h
    cases h1 : lendC st y with
    | none => rw [h1] at h; cases h
    | some c0 =>
      rw [h1] at h
      simp only at h
      cases h2 : lendAll st l with
      | none => rw [h2] at h; cases h
      | some c1 =>
        rw [h2] at h
        simp only [Option.map_some,Option.some.injEq] at h
        subst h
        simp [lendAll_len l c1 h2]
theorem call_ptl {P : Program} {fid : Nat} {o : Oper} {env : Nat → VV} {st : St} {c : Call} {g : Operand} {f : FuncId} {fn : Func} {caps : List (List T)} (ts : List TypeId) (r k : Nat) {m n : Nat} {row row' : List T} {lg : List Path} {sz0 : Nat} {xs : List VV} {cs : List CT}
    {args outs : List RT} (hf : P.funcs[f]? = some fn) (hruns : Runs P f args outs [(k, ⟨true, n, [row'], []⟩)]) (hop : o.op = .call c) (hcal : c.callee = .value g) (hg : ev P env 0 g = .fn f caps) (hbody : fn.body.isNone = false) (hname : (fn.name == "runtime.NumGoroutine") = false)
    (hts : ts.length = c.args.size) (hxs : (c.args.toList.zip ts).map (fun p => ev P env p.2 p.1) ++ caps.map VV.rop = xs ++ [.ptr r [] m 0 0]) (hst : st r = some ⟨true, sz0, [row], lg⟩)
    (hl : lendAll (st.put r none) (xs.flatMap VV.cells) = some cs) (hk : cs.length = k) (hcs : rcells args = cs ++ [.box row])
    (hshape : shapes (xs ++ [.ptr r [] m 0 0]) args = true) (hc1 : ∀ c ∈ rcells outs, c.fine (Known st (xs.flatMap VV.cells ++ [.ptr r [] m 0 0]))) (hc2 : fineR (Known st (xs.flatMap VV.cells ++ [.ptr r [] m 0 0])) row') (hm : Nat.ble (rcells outs).length 1024 = true) (hn : Nat.ble (rcells args).length 1024 = true) :
    OpOk P fid o env st ⟨outL (rvv fid outs), [(r, none), (r, some ⟨true, n, [row'], lg ++ [[]]⟩)] ++ cups fid (rcells outs)⟩ := by
  subst hk
  have hcells : (xs ++ [VV.ptr r [] m 0 0]).flatMap VV.cells = xs.flatMap VV.cells ++ [.ptr r [] m 0 0] := by
    rw [List.flatMap_append]; rfl
  have hlen := lendAll_len _ _ hl
  have h := call_okH (P := P) (fid := fid) (o := o) (env := env) (st := st) (ms := (xs.map fun _ => Md.ro) ++ [.back]) (ys := ((xs.flatMap VV.cells).map fun _ => none) ++ [some (.box row)]) (u := [(r, none)]) (bk := ((xs.flatMap VV.cells).map fun _ => none) ++ [some r]) (cs := cs ++ [.box row])
    (B := [(r, cs.length, ⟨true, n, [row'], []⟩)]) (bu := [(r, some ⟨true, n, [row'], lg ++ [[]]⟩)]) (ts := ts) (xs := xs ++ [.ptr r [] m 0 0])
    hop hcal hg hf hbody hname hxs.symm hts (by simp)
    (by
      rw [List.zip_append (by simp), List.flatMap_append, modes_ro, handCs_roL]
      simp [show (VV.ptr r [] m 0 0).cells = [VV.ptr r [] m 0 0] from rfl, handCs, handC, handBack, hst])
    (by
      rw [hcells]
      simp only [St.ups_cons,St.ups_nil]
      exact mergeCs_roL _ _ _ _ hl)
    hshape hcs (fun b hb => by
      simp only [List.mem_singleton] at hb; subst hb
      simp only
      rw [List.getElem?_append_right (by simp [hlen]), List.length_map, hlen, Nat.sub_self]; rfl) (by simp) (by simp) (by simp only [backU,hst,Option.map_some]) hruns
    (by rw [hcells]; exact hc1) (fun b hb => by simp only [List.mem_singleton] at hb; subst hb; rw [hcells]; exact ⟨hc2, trivial⟩) (Nat.le_of_ble_eq_true hm) (by rw [hcs] at hn; exact Nat.le_of_ble_eq_true hn)
  simpa using h
end Go.VM
