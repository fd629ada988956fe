/- Plain of the reference: what is moved; names; Plain whole. Plain law: a volume that is right is told by a list of items that is right. -/
import Derived.Test.YtoenfbbadfcfpaaGreatDoorPFOrd
import Derived.Test.YtoenfbbadfcfpaaGreatDoorPFDone
set_option linter.unusedSimpArgs false
set_option linter.unusedVariables false
namespace Go.Proofs.YtoenfbbadfcfpaaGreatDoor
open Go.VM Go
set_option maxRecDepth 100000
attribute [-go_sem] runW_cons
attribute [local congr] vw_congr runV_congr runH_congr runW_congr runX_congr stuckV_congr stuckX_congr
theorem jn_le : ∀ (l : List ByteArray) (acc : ByteArray), (∀ x ∈ l, x.size ≤ 6) → (jn acc l).size ≤ acc.size + 7 * l.length
  | [], acc, _ => Nat.le_refl _
  | x :: l, acc, h => by
    have h1 := jn_le l (acc ++ ⟨#[47]⟩ ++ x) (fun y hy => h y (by simp [hy]))
    have h2 := h x (by simp)
    have h3 : (⟨#[47]⟩ : ByteArray).size = 1 := rfl
    simp only [add_size] at h1
    rw [jn, List.length_cons]; omega
theorem pathOk_size {p : ByteArray} (h : pathOk p = true) : p.size ≤ 100 := by
  by_cases h0 : p = ⟨#[]⟩
  · rw [h0]; exact Nat.zero_le _
  rw [pathOk_names h0, Bool.and_eq_true, decide_eq_true_eq, List.all_eq_true] at h
  obtain ⟨h1, h2⟩ := h
  have hj := names_join p
  have h6 : ∀ x ∈ names p, x.size ≤ 6 := fun x hx => by
    have := h1 x hx
    unfold nameOk at this
    simp only [Bool.and_eq_true, decide_eq_true_eq, inB] at this
    omega
  cases hn : names p with
  | nil => rw [hn] at hj; exact absurd hj.symm h0
  | cons x l =>
    rw [hn] at hj h2 h6
    have := jn_le l x (fun y hy => h6 y (by simp [hy]))
    have h3 := h6 x (by simp)
    change jn x l = p at hj
    rw [hj] at this
    simp only [List.length_cons] at h2
    omega
theorem underB_size {p q : ByteArray} (h : underB p q = true) : q.size ≤ p.size := by
  by_cases h0 : q = ⟨#[]⟩
  · rw [h0]; exact Nat.zero_le _
  obtain ⟨_, _, h3⟩ := under_cut h h0
  rcases h3 with rfl | ⟨r, e, _⟩
  · exact Nat.le_refl _
  · have := congrArg ByteArray.size e
    rw [add_size, add_size] at this
    omega
set_option maxHeartbeats 2000000 in
theorem runs_64 (l : List It3) (hl : l.length ≤ 11) (hb : ∀ x ∈ l, x.1.size ≤ 2 ^ 19) (o : OpV) (hp : o.path.size ≤ 2 ^ 19) (ht : o.to.size ≤ 2 ^ 19) (R : List It3 × Int) (hR : R = moveL l o) :
    Runs Tryz.prog 64 [.one (.v (.list true 3 (l.map iRow))), .agg [.v (.int .i64 o.kind), .v (.str o.path), .v (.str o.to), .v (.str o.data)]] [.one (.v (.list true 3 (R.1.map iRow))), .one (.v (.int .i64 R.2))] [] := by
  refine runs_tab (tab := [(0, .al 0 [] 0 3 0 l.length), (1, .agg [.c (.int .i64 o.kind), .c (.str o.path), .c (.str o.to), .c (.str o.data)])]) (rts := [(0, some ⟨false, 3, l.map iRow, []⟩)]) (n := 85) (k := 5) Tryz.func64 rfl rfl (by simp) rfl (fun t => ?_) rfl ?_
  · rcases t with _ | _ | t <;> simp [envOf, rvv, RT.vv, CT.vv, cvv, tabE_cons, tabE_nil, rcells, RT.cells]
  unfold moveL at hR
  have bl : List.take l.length (l.map iRow) = l.map iRow := List.take_of_length_le (by simp)
  have rU := runs_90 o.to o.path (by omega) (by omega)
  have rF := runs_28 l o.to (by omega)
  have rS := runs_57 o.to (by omega)
  have rD := runs_folder l (splitF o.to).1 (by omega)
  change Runs _ _ _ [.one (.v (.int .i64 (findF l o.to)))] _ at rF
  generalize underB o.to o.path = ub at rU hR
  generalize findF l o.to = fi at rF hR
  generalize foldF l (splitF o.to).1 = fo at rD hR
  generalize splitF o.to = sp at rS rD hR
  obtain ⟨up, nm, ok⟩ := sp
  simp only at rS rD hR
  refine vw_go rfl ?_; simp only [go_sem, setCells, setIn]
  refine vw_seq ?_
  by_cases hz : o.path = ⟨#[]⟩
  · rw [if_pos (.inl hz)] at hR
    subst hR
    have hz' : decide (o.path = ⟨#[]⟩) = true := by simp [hz]
    refine vw_go rfl ?_; simp only [hz', bl, go_sem, setCells, setIn]
    refine vw_cond (t := true) rfl (fun _ => ?_) (fun h => nomatch h)
    refine vw_go rfl ?_; simp only [go_sem, setCells, setIn]
    exact vw_ret (r_then (e_ret (ret_by rfl rfl (by simp [RB]) rfl (by simp only [takeCs, takeC, go_sem, setCells, setIn]))))
  have hz' : decide (o.path = ⟨#[]⟩) = false := by simp [hz]
  refine vw_go rfl ?_; simp only [hz', bl, go_sem, setCells, setIn]
  refine ⟨_, _, call_rx [0, 0] Tryz.func90 (rU) rfl rfl rfl rfl rfl rfl rfl (by simp [lendAll, lendC, seek, fresh, nav, rcells, RT.cells, VV.cells, tabE_cons, tabS_cons, ev, take_map_len, iRow_r1, iRow_clean]) rfl (by simp [rcells, RT.cells, CT.clean, T.clean, iRow_r1, iRow_clean]) rfl rfl, ?_⟩
  cases ub
  case true =>
    rw [if_pos (.inr rfl)] at hR
    subst hR
    simp only [runH, runX, bl, go_sem, setCells, setIn]
    refine vw_cond (t := true) rfl (fun _ => ?_) (fun h => nomatch h)
    refine vw_go rfl ?_; simp only [go_sem, setCells, setIn]
    exact vw_ret (r_then (e_ret (ret_by rfl rfl (by simp [RB]) rfl (by simp only [takeCs, takeC, go_sem, setCells, setIn]))))
  rw [if_neg (by rintro (h | h); exact hz h; cases h)] at hR
  simp only [runH, runX, bl, go_sem, setCells, setIn]
  refine vw_cond (t := false) rfl (fun h => nomatch h) (fun _ => ?_)
  refine vw_skip (n_then ?_)
  refine vw_seq ?_
  by_cases hy : o.to = ⟨#[]⟩
  · rw [if_pos (.inl hy)] at hR
    subst hR
    have hy' : decide (o.to = ⟨#[]⟩) = true := by simp [hy]
    refine vw_go rfl ?_; simp only [hy', bl, go_sem, setCells, setIn]
    refine vw_cond (t := true) rfl (fun _ => ?_) (fun h => nomatch h)
    refine vw_go rfl ?_; simp only [go_sem, setCells, setIn]
    exact vw_ret (r_then (e_ret (ret_by rfl rfl (by simp [RB]) rfl (by simp only [takeCs, takeC, go_sem, setCells, setIn]))))
  have hy' : decide (o.to = ⟨#[]⟩) = false := by simp [hy]
  refine vw_go rfl ?_; simp only [hy', bl, go_sem, setCells, setIn]
  refine ⟨_, _, call_rx [0, 0] Tryz.func28 (rF) rfl rfl rfl rfl rfl rfl rfl (by simp [lendAll, lendC, seek, fresh, nav, rcells, RT.cells, VV.cells, tabE_cons, tabS_cons, ev, take_map_len, iRow_r1, iRow_clean, bl]) rfl (by simp [rcells, RT.cells, CT.clean, T.clean, iRow_r1, iRow_clean, bl]) rfl rfl, ?_⟩
  by_cases hf : 0 ≤ fi
  · rw [if_pos (.inr hf)] at hR
    subst hR
    simp only [runH, runX, hf, bl, go_sem, setCells, setIn]
    refine vw_cond (t := true) rfl (fun _ => ?_) (fun h => nomatch h)
    refine vw_go rfl ?_; simp only [go_sem, setCells, setIn]
    exact vw_ret (r_then (e_ret (ret_by rfl rfl (by simp [RB]) rfl (by simp only [takeCs, takeC, go_sem, setCells, setIn]))))
  rw [if_neg (by rintro (h | h); exact hy h; exact hf h)] at hR
  simp only [runH, runX, hf, bl, go_sem, setCells, setIn]
  refine vw_cond (t := false) rfl (fun h => nomatch h) (fun _ => ?_)
  refine vw_skip (n_then ?_)
  refine vw_go rfl ?_; simp only [go_sem, setCells, setIn]
  refine ⟨_, _, call_rx [0] Tryz.func57 (rS) rfl rfl rfl rfl rfl rfl rfl (by simp [lendAll, lendC, seek, fresh, nav, rcells, RT.cells, VV.cells, tabE_cons, tabS_cons, ev, take_map_len, iRow_r1, iRow_clean]) rfl (by simp [rcells, RT.cells, CT.clean, T.clean, iRow_r1, iRow_clean]) rfl rfl, ?_⟩
  simp only [runH, runX, go_sem, setCells, setIn]
  refine vw_go rfl ?_; simp only [bl, go_sem, setCells, setIn]
  refine ⟨_, _, call_rx [0, 0] Tryz.func58 (rD) rfl rfl rfl rfl rfl rfl rfl (by simp [lendAll, lendC, seek, fresh, nav, rcells, RT.cells, VV.cells, tabE_cons, tabS_cons, ev, take_map_len, iRow_r1, iRow_clean, bl]) rfl (by simp [rcells, RT.cells, CT.clean, T.clean, iRow_r1, iRow_clean, bl]) rfl rfl, ?_⟩
  simp only [runH, runX, bl, go_sem, setCells, setIn]
  refine vw_seq ?_
  by_cases h0 : fo = 0
  case neg =>
    rw [if_pos h0] at hR
    subst hR
    refine vw_go rfl ?_; simp only [h0, bl, go_sem, setCells, setIn]
    refine vw_cond (t := true) rfl (fun _ => ?_) (fun h => nomatch h)
    refine vw_go rfl ?_; simp only [go_sem, setCells, setIn]
    exact vw_ret (r_then (e_ret (ret_by rfl rfl (by simp [RB]) rfl (by simp only [takeCs, takeC, go_sem, setCells, setIn]))))
  rw [if_neg (fun h => h h0)] at hR
  refine vw_go rfl ?_; simp only [h0, go_sem, setCells, setIn]
  refine vw_cond (t := false) rfl (fun h => nomatch h) (fun _ => ?_)
  refine vw_skip (n_then ?_)
  refine vw_go rfl ?_; simp only [range1, List.replicate_succ, List.replicate_zero, List.flatten_cons, List.flatten_nil, List.range_zero, gt_iff_lt, go_sem, setCells, setIn]
  refine vw_seq ?_
  refine vw_go rfl ?_; simp only [go_sem, setCells, setIn]
  refine vw_block ?_
  refine vw_loop_tab (α := Nat × List It3 × List Path) (fun x => l.length - x.1) (fun x => ⟨tabE [(0, .al 0 [] 0 3 0 l.length), (3, .ptr 5 [] 0 0 0), (10, .al 6 [] 0 3 0 x.2.1.length), (11, .c (.int .i64 x.1))],
      tabS [(0, some ⟨false, 3, l.map iRow, []⟩), (5, some ⟨true, 4, [[.int .i64 o.kind, .str o.path, .str o.to, .str o.data]], []⟩), (6, some ⟨false, 3, x.2.1.map iRow, x.2.2⟩)], 7⟩)
    (fun x => x.1 ≤ l.length ∧ moveG l o (l.drop x.1) x.2.1 = R ∧ x.2.1.length ≤ x.1) (x := (0, [], [])) ?round ?h0 ?hn
  case h0 => exact ⟨Nat.zero_le _, hR.symm, Nat.le_refl _⟩
  case hn =>
    refine norm_to [(0, 0), (5, 5), (393221, 6)] rfl ?_ ?_ <;> simp only [go_sem]
  rintro ⟨i, q, lg⟩ ⟨hi, hg, hql⟩
  simp only at hi hg hql
  have bq : List.take q.length (q.map iRow) = q.map iRow := List.take_of_length_le (by simp)
  refine vw_seq ?_
  by_cases hc : (i : Int) < l.length
  case neg =>
    rw [List.drop_eq_nil_of_le (by omega), moveG] at hg
    subst hg
    refine vw_go rfl ?_; simp only [hc, go_sem, setCells, setIn]
    refine vw_cond (t := false) rfl (fun h => nomatch h) (fun _ => ?_)
    refine vw_exit (x_then (x_then (x_block (n_then ?_))))
    refine vw_go rfl ?_; simp only [go_sem, setCells, setIn]
    exact vw_ret (e_ret (ret_by rfl rfl (by simp [RB]) rfl (by simp only [takeCs, takeC, bq, go_sem, setCells, setIn])))
  have hin : i < l.length := by omega
  obtain ⟨x, hx⟩ : ∃ x, l[i]? = some x := ⟨_, List.getElem?_eq_getElem hin⟩
  rw [drop_of hx, moveG] at hg
  have hxs := hb x (List.mem_of_getElem? hx)
  have d0 : (0:Int) ≤ (i : Int) := by omega
  have w3 : IntKind.wrap .i64 ((i:Int) + 1) = ((i + 1 : Nat) : Int) := by rw [wrap_i64 (by omega) (by omega)]; rfl
  have rX := runs_90 x.1 o.path (by omega) (by omega)
  have hus := underB_size (p := x.1) (q := o.path)
  have B1 : ¬ (q.length + 1 + 1) * (40 + 1) > bigRow := big41 (by omega)
  have hmsz : (movedP o x.1).size ≤ 2 ^ 20 := by
    unfold movedP
    split
    · rw [add_size, extract_size (Nat.le_refl _)]; omega
    · omega
  have rP := runs_62 (movedP o x.1) hmsz
  have hmp : movedP o x.1 = if underB x.1 o.path = true then o.to ++ x.1.extract o.path.size x.1.size else x.1 := rfl
  generalize underB x.1 o.path = u at rX hus hmp
  generalize movedP o x.1 = mp at rP hg hmp
  refine vw_go rfl ?_; simp only [hc, go_sem, setCells, setIn]
  refine vw_cond (t := true) rfl (fun _ => ?_) (fun h => nomatch h)
  refine vw_skip (n_then ?_)
  refine vw_seq ?_
  refine vw_block ?_
  refine vw_go rfl ?_; simp only [d0, hc, hin, Int.toNat_natCast, getD_map_of hx, iRow, go_sem, setCells, setIn]
  refine vw_join (α := Unit) (fun z => ⟨tabE [(0, .al 0 [] 0 3 0 l.length), (3, .ptr 5 [] 0 0 0), (10, .al 6 [] 0 3 0 q.length), (11, .c (.int .i64 i)), (12, .ptr 7 [] 0 0 0)],
      tabS [(0, some ⟨false, 3, l.map iRow, []⟩), (5, some ⟨true, 4, [[.int .i64 o.kind, .str o.path, .str o.to, .str o.data]], []⟩), (6, some ⟨false, 3, q.map iRow, lg⟩), (7, some ⟨true, 3, [[.str mp, .bool x.2.1, .str x.2.2]], []⟩)], 8⟩) (fun z => True) ?_ ?_
  · (refine vw_go rfl ?_; simp only [go_sem, setCells, setIn])
    refine ⟨_, _, call_rx [0, 0] Tryz.func90 (rX) rfl rfl rfl rfl rfl rfl rfl (by simp [lendAll, lendC, seek, fresh, nav, rcells, RT.cells, VV.cells, tabE_cons, tabS_cons, ev, take_map_len, iRow_r1, iRow_clean]) rfl (by simp [rcells, RT.cells, CT.clean, T.clean, iRow_r1, iRow_clean]) rfl rfl, ?_⟩
    cases u
    · rw [if_neg (by decide)] at hmp
      subst hmp
      simp only [runH, runX, go_sem, setCells, setIn]
      refine vw_cond (t := false) rfl (fun h => nomatch h) (fun _ => ?_)
      refine vw_skip (n_then ⟨(), ?_⟩)
      refine norm_to [(0, 0), (5, 5), (6, 6), (69639, 7)] rfl ?_ ?_ <;> simp only [go_sem]
    · rw [if_pos rfl] at hmp
      have hus := hus rfl
      subst hmp
      have l1 : (0 : Int) ≤ (o.path.size : Int) := by omega
      have zc : o.to.size + (x.1.extract o.path.size x.1.size).size < 2 ^ 60 := by rw [extract_size (Nat.le_refl _)]; omega
      simp only [runH, runX, go_sem, setCells, setIn]
      refine vw_cond (t := true) rfl (fun _ => ?_) (fun h => nomatch h)
      refine vw_drawA_last mixed rfl rfl ?_
      intro A hAA
      simp (maxSteps := 1000000) only [l1, hus, zc, Int.toNat_natCast, go_sem, setCells, setIn, runW_step]
      refine ⟨by subst hAA; unfold allOk; kernel_rfl, ?_⟩
      refine (n_then ⟨(), ?_⟩)
      refine norm_to [(0, 0), (5, 5), (6, 6), (69639, 7)] rfl ?_ ?_ <;> simp only [go_sem]
  intro z _
  generalize pathOk mp = pk at rP hg
  refine vw_seq ?_
  refine vw_go rfl ?_; simp only [go_sem, setCells, setIn]
  refine ⟨_, _, call_rx [0] Tryz.func62 (rP) rfl rfl rfl rfl rfl rfl rfl (by simp [lendAll, lendC, seek, fresh, nav, rcells, RT.cells, VV.cells, tabE_cons, tabS_cons, ev, take_map_len, iRow_r1, iRow_clean]) rfl (by simp [rcells, RT.cells, CT.clean, T.clean, iRow_r1, iRow_clean]) rfl rfl, ?_⟩
  cases pk
  case false =>
    rw [if_neg (by decide)] at hg
    subst hg
    simp only [runH, runX, go_sem, setCells, setIn]
    refine vw_cond (t := true) rfl (fun _ => ?_) (fun h => nomatch h)
    refine vw_go rfl ?_; simp only [go_sem, setCells, setIn]
    refine vw_ret ?_
    repeat (first | refine r_then ?_ | refine r_block ?_)
    exact e_ret (ret_by rfl rfl (by simp [RB]) rfl (by simp only [takeCs, takeC, bl, go_sem, setCells, setIn]))
  rw [if_pos rfl] at hg
  simp only [runH, runX, go_sem, setCells, setIn]
  refine vw_cond (t := false) rfl (fun h => nomatch h) (fun _ => ?_)
  refine vw_skip (n_then ?_)
  refine vw_last rfl ?_; simp only [B1, bq, List.drop_length, range1, List.replicate_succ, List.replicate_zero, List.flatten_cons, List.flatten_nil, List.range_zero, gt_iff_lt, go_sem, setCells, setIn]
  refine (n_block (n_then ?_))
  refine vw_last rfl ?_; simp only [w3, go_sem, setCells, setIn]
  refine (n_then ?_)
  have e4 : q.map iRow ++ [[.str mp, .bool x.2.1, .str x.2.2]] = (q ++ [(mp, x.2)]).map iRow := by simp [iRow]
  rw [e4]
  refine ⟨(i + 1, q ++ [(mp, x.2)], []), by simp only; omega, ⟨by simp only; omega, hg, by simp; omega⟩, ?_⟩
  have e5 : q.length + 1 = (q ++ [(mp, x.2)]).length := by simp
  rw [e5]
  generalize q ++ [(mp, x.2)] = q'
  refine norm_to [(0, 0), (5, 5), (68616, 6)] rfl ?_ ?_ <;> simp only [go_sem]
end Go.Proofs.YtoenfbbadfcfpaaGreatDoor
namespace Go.Proofs.YtoenfbbadfcfpaaGreatDoor
open Go.VM Go
theorem name_no47 {a : ByteArray} (h : nameOk a = true) : ∀ j, j < a.size → ¬ a.data.toList.getD j 0 = 47 := by
  intro j hj e
  obtain ⟨b, hb⟩ : ∃ b, a.data.toList[j]? = some b := ⟨_, List.getElem?_eq_getElem (by rw [bs_len]; exact hj)⟩
  rw [getD_of hb] at e
  subst e
  have := all_bad hb (by decide)
  rw [this] at h; cases h
theorem names_one {a : ByteArray} (h : nameOk a = true) : names a = [a] := by
  unfold names
  rw [pcs_none a a.size 0 0 (by omega) (fun j _ hj => name_no47 h j hj)]
  congr 1
  refine ba_eq ?_
  rw [cut_bytes, List.drop_zero, List.take_of_length_le (by rw [bs_len]; omega)]
theorem name_ne {a : ByteArray} (h : nameOk a = true) : ¬ a = ⟨#[]⟩ := fun e => by rw [e, nameOk_nil] at h; cases h
theorem push_ne {p a : ByteArray} (h : nameOk a = true) : ¬ preOf p ++ a = ⟨#[]⟩ := fun e => by
  have := congrArg ByteArray.size e
  rw [add_size] at this
  have h0 : (⟨#[]⟩ : ByteArray).size = 0 := rfl
  have : a.size = 0 := by omega
  exact name_ne h (size0.2 this)
theorem push_names {p a : ByteArray} (h : nameOk a = true) : namesZ (preOf p ++ a) = namesZ p ++ [a] := by
  have h1 : namesZ (preOf p ++ a) = names (preOf p ++ a) := by unfold namesZ; rw [if_neg (push_ne h)]
  rw [h1]
  unfold preOf namesZ
  by_cases hp : p = ⟨#[]⟩
  · rw [if_pos hp, if_pos hp, nil_app, names_one h]; rfl
  · rw [if_neg hp, if_neg hp, names_glue, names_one h]
theorem namesZ_inj {s t : ByteArray} (h : namesZ s = namesZ t) : s = t := by
  have hn : ∀ u : ByteArray, names u ≠ [] := fun u e => by
    have := names_len u
    rw [e] at this
    simp at this
  unfold namesZ at h
  by_cases hs : s = ⟨#[]⟩ <;> by_cases ht : t = ⟨#[]⟩
  · rw [hs, ht]
  · rw [if_pos hs, if_neg ht] at h; exact absurd h.symm (hn t)
  · rw [if_neg hs, if_pos ht] at h; exact absurd h (hn s)
  · rw [if_neg hs, if_neg ht] at h
    rw [← names_join s, ← names_join t, h]
theorem push_path {p a : ByteArray} (hp : pathOk p = true) (h : nameOk a = true) (hl : (namesZ p).length ≤ 3) : pathOk (preOf p ++ a) = true := by
  unfold pathOk at hp ⊢
  rw [push_names h]
  simp only [Bool.and_eq_true, decide_eq_true_eq, List.all_append, List.length_append, List.all_cons, List.all_nil, List.length_cons, List.length_nil] at hp ⊢
  exact ⟨⟨hp.1, h, trivial⟩, by omega⟩
theorem push_split {p a : ByteArray} (hp : pathOk p = true) (h : nameOk a = true) (hl : (namesZ p).length ≤ 3) : (splitF (preOf p ++ a)).2.2 = true ∧ (splitF (preOf p ++ a)).1 = p := by
  have h2 : (splitF (preOf p ++ a)).2.2 = true := by
    unfold splitF
    rw [if_neg (by rintro (e | e); exact push_ne h e; rw [push_path hp h hl] at e; cases e)]
    split <;> rfl
  have h3 := (split_names h2).2.1
  rw [push_names h] at h3
  refine ⟨h2, (namesZ_inj (List.append_inj_left' h3 rfl)).symm⟩
/-! ### a folder's tree -/
structure Tree (p : ByteArray) (L : List It3) : Prop where
  below : ∀ x ∈ L, ∃ t, t ≠ [] ∧ namesZ x.1 = namesZ p ++ t
  split : ∀ x ∈ L, (splitF x.1).2.2 = true
  data : ∀ x ∈ L, x.2.2.size ≤ 60 ∧ (x.2.1 = true → x.2.2 = ⟨#[]⟩)
  up : ∀ x ∈ L, (splitF x.1).1 = p ∨ ∃ y ∈ L, y.1 = (splitF x.1).1 ∧ y.2.1 = true
  apart : L.Pairwise (fun x y => x.1 ≠ y.1)
def firstIn (p : ByteArray) (xs : List ByteArray) (L : List It3) : Prop := ∀ x ∈ L, ∃ a ∈ xs, ∃ t, namesZ x.1 = namesZ p ++ a :: t
theorem nodeOk_data {n : NodeV} (h : nodeOk n = true) : n.data.size ≤ 60 ∧ (n.dir = true → n.data = ⟨#[]⟩) := by
  cases hd : n.dir
  · exact ⟨(nodeOk_file hd h).2.2, fun h => nomatch h⟩
  · have := (nodeOk_dir hd h).2.1
    rw [this]
    exact ⟨Nat.zero_le _, fun _ => rfl⟩
theorem itemsK_tree {l : List ByteArray} {g : Nat → ByteArray → List It3} {p : ByteArray} (hp : pathOk p = true) (hl : (namesZ p).length ≤ 3) : ∀ (xs : List ByteArray) (ys : List Int), (∀ a ∈ xs, nameOk a = true) → xs.Nodup →
    (∀ y ∈ ys, (nodeRead (l.getD y.toNat ⟨#[]⟩)).2 = true ∧ ∀ a, nameOk a = true → Tree (preOf p ++ a) (g y.toNat (preOf p ++ a ++ ⟨#[47]⟩)) ∧ (g y.toNat (preOf p ++ a ++ ⟨#[47]⟩) ≠ [] → (nodeRead (l.getD y.toNat ⟨#[]⟩)).1.dir = true)) →
    Tree p (itemsK l g xs ys (preOf p)) ∧ firstIn p xs (itemsK l g xs ys (preOf p))
  | [], ys, _, _, _ => by
    rw [itemsK]
    exact ⟨⟨(fun x h => nomatch h), (fun x h => nomatch h), (fun x h => nomatch h), (fun x h => nomatch h), .nil⟩, fun x h => nomatch h⟩
    all_goals (intros; contradiction)
  | a :: xs, [], _, _, _ => by
    rw [itemsK]
    exact ⟨⟨(fun x h => nomatch h), (fun x h => nomatch h), (fun x h => nomatch h), (fun x h => nomatch h), .nil⟩, fun x h => nomatch h⟩
    all_goals (intros; contradiction)
  | a :: xs, b :: ys, hx, hd, hy => by
    rw [List.nodup_cons] at hd
    have ha := hx a (by simp)
    obtain ⟨R, FR⟩ := itemsK_tree (l := l) (g := g) hp hl xs ys (fun c hc => hx c (by simp [hc])) hd.2 (fun y h => hy y (by simp [h]))
    obtain ⟨hb, hb2⟩ := hy b (by simp)
    obtain ⟨D, hdir⟩ := hb2 a ha
    have ho := nodeRead_ok hb
    rw [itemsK]
    generalize itemsK l g xs ys (preOf p) = RL at R FR ⊢
    generalize g b.toNat (preOf p ++ a ++ ⟨#[47]⟩) = DL at D hdir ⊢
    generalize nodeRead (l.getD b.toNat ⟨#[]⟩) = nr at hb hdir ho ⊢
    have hn := push_names (p := p) ha
    have hs := push_split hp ha hl
    have FD : ∀ x ∈ DL, ∃ t, t ≠ [] ∧ namesZ x.1 = namesZ p ++ a :: t := fun x hx => by
      obtain ⟨t, h0, h1⟩ := D.below x hx
      refine ⟨t, h0, ?_⟩
      rw [h1, hn, List.append_assoc]; rfl
    obtain ⟨d1, d2⟩ := nodeOk_data ho
    refine ⟨⟨fun x hx => ?_, fun x hx => ?_, fun x hx => ?_, fun x hx => ?_, ?_⟩, fun x hx => ?_⟩
    · rcases List.mem_cons.1 hx with rfl | hx
      · exact ⟨[a], by simp, hn⟩
      · rcases List.mem_append.1 hx with hx | hx
        · obtain ⟨t, _, h1⟩ := FD x hx
          exact ⟨a :: t, by simp, h1⟩
        · exact R.below x hx
    · rcases List.mem_cons.1 hx with rfl | hx
      · exact hs.1
      · rcases List.mem_append.1 hx with hx | hx
        · exact D.split x hx
        · exact R.split x hx
    · rcases List.mem_cons.1 hx with rfl | hx
      · exact ⟨d1, d2⟩
      · rcases List.mem_append.1 hx with hx | hx
        · exact D.data x hx
        · exact R.data x hx
    · rcases List.mem_cons.1 hx with rfl | hx
      · exact .inl hs.2
      · rcases List.mem_append.1 hx with hx | hx
        · rcases D.up x hx with h | ⟨y, hy, h1, h2⟩
          · exact .inr ⟨_, List.mem_cons_self, h.symm, hdir (fun e => by rw [e] at hx; cases hx)⟩
          · exact .inr ⟨y, List.mem_cons_of_mem _ (List.mem_append.2 (.inl hy)), h1, h2⟩
        · rcases R.up x hx with h | ⟨y, hy, h1, h2⟩
          · exact .inl h
          · exact .inr ⟨y, List.mem_cons_of_mem _ (List.mem_append.2 (.inr hy)), h1, h2⟩
    · refine List.pairwise_cons.2 ⟨fun x hx e => ?_, List.pairwise_append.2 ⟨D.apart, R.apart, fun x hx y hy e => ?_⟩⟩
      · have e2 := congrArg namesZ e
        simp only at e2
        rw [hn] at e2
        rcases List.mem_append.1 hx with hx | hx
        · obtain ⟨t, h0, h1⟩ := FD x hx
          rw [h1] at e2
          have := List.append_cancel_left e2
          simp only [List.cons.injEq, true_and] at this
          exact h0 this.symm
        · obtain ⟨c, hc, t, h1⟩ := FR x hx
          rw [h1] at e2
          have := List.append_cancel_left e2
          simp only [List.cons.injEq] at this
          exact hd.1 (this.1 ▸ hc)
      · obtain ⟨t, h0, h1⟩ := FD x hx
        obtain ⟨c, hc, t2, h2⟩ := FR y hy
        have e2 := congrArg namesZ e
        rw [h1, h2] at e2
        have := List.append_cancel_left e2
        simp only [List.cons.injEq] at this
        exact hd.1 (this.1 ▸ hc)
    · rcases List.mem_cons.1 hx with rfl | hx
      · exact ⟨a, by simp, [], hn⟩
      · rcases List.mem_append.1 hx with hx | hx
        · obtain ⟨t, _, h1⟩ := FD x hx
          exact ⟨a, by simp, t, h1⟩
        · obtain ⟨c, hc, t, h1⟩ := FR x hx
          exact ⟨c, by simp [hc], t, h1⟩
theorem node_names {n : NodeV} (h : nodeOk n = true) : (∀ a ∈ n.names, nameOk a = true) ∧ Asc n.names := by
  cases hd : n.dir
  · have := (nodeOk_file hd h).1
    rw [List.eq_nil_of_length_eq_zero this]
    exact ⟨fun a h => (nomatch h), .nil⟩
  obtain ⟨h1, _, h3⟩ := nodeOk_dir hd h
  refine ⟨fun a ha => ?_, ?_⟩
  · obtain ⟨i, hi, rfl⟩ := List.getElem_of_mem ha
    have := h3 i hi
    unfold nodeAtOk at this
    simp only [Bool.and_eq_true] at this
    rw [getD_of (List.getElem?_eq_getElem hi)] at this
    exact this.1
  · have hadj : ∀ i (hi : i + 1 < n.names.length), ltB (n.names[i]) (n.names[i + 1]) = true := fun i hi => by
      have := h3 (i + 1) hi
      unfold nodeAtOk at this
      simp only [Bool.and_eq_true, Bool.or_eq_true, decide_eq_true_eq] at this
      rcases this.2.2.1 with h | h
      · omega
      · rw [Nat.add_sub_cancel, getD_of (List.getElem?_eq_getElem hi), getD_of (List.getElem?_eq_getElem (show i < n.names.length by omega))] at h
        exact h
    have hall : ∀ d i (hi : i + (d + 1) < n.names.length), ltB (n.names[i]) (n.names[i + (d + 1)]) = true := by
      intro d
      induction d with
      | zero => intro i hi; exact hadj i hi
      | succ d ih =>
        intro i hi
        exact ltB_trans (ih i (by omega)) (hadj (i + (d + 1)) (by omega))
    unfold Asc
    rw [List.pairwise_iff_getElem]
    intro i j hi hj hij
    obtain ⟨d, rfl⟩ : ∃ d, j = i + (d + 1) := ⟨j - i - 1, by omega⟩
    exact hall d i hj
theorem asc_nodup {l : List ByteArray} (h : Asc l) : l.Nodup := h.imp (fun {a b} hab e => by rw [e, ltB_irrefl] at hab; cases hab)
theorem tree_nil (p : ByteArray) : Tree p [] := ⟨(fun x h => nomatch h), (fun x h => nomatch h), (fun x h => nomatch h), (fun x h => nomatch h), .nil⟩
theorem itemsK_nil (l : List ByteArray) (g : Nat → ByteArray → List It3) (xs : List ByteArray) (pre : ByteArray) : itemsK l g xs [] pre = [] := by
  cases xs <;> rfl
theorem itemsK_nil2 (l : List ByteArray) (g : Nat → ByteArray → List It3) (ys : List Int) (pre : ByteArray) : itemsK l g [] ys pre = [] := by
  cases ys <;> rfl
theorem items_tree (l : List ByteArray) : ∀ (f k : Nat) (p : ByteArray), deepOk l f k → pathOk p = true → (namesZ p).length + f = 5 → Tree p (itemsG l f k (preOf p)) ∧ (itemsG l f k (preOf p) ≠ [] → (nodeRead (l.getD k ⟨#[]⟩)).1.dir = true)
  | 0, k, p, h, _, _ => by
    obtain ⟨g, e, _⟩ := deep_step h
    cases e
  | f + 1, k, p, h, hp, hl => by
    obtain ⟨g, e, hok, hk⟩ := deep_step h
    cases e
    have ho := nodeRead_ok hok
    obtain ⟨n1, n2⟩ := node_names ho
    have hG : itemsG l (f + 1) k (preOf p) = itemsK l (itemsG l f) (nodeRead (l.getD k ⟨#[]⟩)).1.names (nodeRead (l.getD k ⟨#[]⟩)).1.kids (preOf p) := rfl
    rw [hG]
    refine ⟨?_, fun hne => ?_⟩
    · by_cases h0 : (nodeRead (l.getD k ⟨#[]⟩)).1.kids = []
      · rw [h0, itemsK_nil]; exact tree_nil p
      have hl3 : (namesZ p).length ≤ 3 := by
        obtain ⟨y, ys, e⟩ := List.exists_cons_of_ne_nil h0
        obtain ⟨g, e2, _⟩ := deep_step (hk y (by rw [e]; simp))
        omega
      refine (itemsK_tree hp hl3 _ _ n1 (asc_nodup n2) (fun y hy => ?_)).1
      have hdy := hk y hy
      obtain ⟨_, _, hok2, _⟩ := deep_step hdy
      refine ⟨hok2, fun a ha => ?_⟩
      have ih := items_tree l f y.toNat (preOf p ++ a) hdy (push_path hp ha hl3) (by rw [push_names ha, List.length_append]; simp; omega)
      have hpre : preOf (preOf p ++ a) = preOf p ++ a ++ ⟨#[47]⟩ := by
        show (if preOf p ++ a = ⟨#[]⟩ then _ else _) = _
        rw [if_neg (push_ne ha)]
      rw [hpre] at ih
      exact ih
    · cases hd : (nodeRead (l.getD k ⟨#[]⟩)).1.dir
      · have := (nodeOk_file hd ho).1
        rw [List.eq_nil_of_length_eq_zero this, itemsK_nil2] at hne
        exact absurd rfl hne
      · rfl
/-! ### how many -/
def trues (m : List Bool) : Nat := m.countP id
theorem trues_set : ∀ (m : List Bool) (k : Nat), k < m.length → m.getD k false = false → trues (m.set k true) = trues m + 1
  | [], k, h, _ => absurd h (Nat.not_lt_zero _)
  | b :: m, 0, _, h => by
    have : b = false := h
    subst this
    simp [trues]
  | b :: m, k + 1, h, h2 => by
    have := trues_set m k (by simpa using h) (by simpa using h2)
    unfold trues at this ⊢
    rw [List.set_cons_succ, List.countP_cons, List.countP_cons, this]
    omega
theorem goKids_count {l : List ByteArray} {g : Nat → List Bool → Bool × List Bool} {q : Nat → ByteArray → List It3} (hg : ∀ k m pre, m.length = 12 → (g k m).1 = true → trues (g k m).2 = trues m + 1 + (q k pre).length) (hgl : ∀ k m, m.length = 12 → (g k m).2.length = 12) : ∀ (xs : List ByteArray) (ys : List Int) (m : List Bool) (pre : ByteArray), xs.length = ys.length → m.length = 12 → (goKids g ys m).1 = true → trues (goKids g ys m).2 = trues m + (itemsK l q xs ys pre).length
  | [], [], m, pre, _, hm, h => by rw [itemsK_nil]; rfl
  | a :: xs, b :: ys, m, pre, hl, hm, h => by
    rw [goKids] at h ⊢
    split at h
    · rename_i hgb
      have e1 := goKids_count (l := l) (q := q) hg hgl xs ys _ pre (by simpa using hl) (hgl _ _ hm) h
      have e2 := hg _ _ (pre ++ a ++ ⟨#[47]⟩) hm hgb
      rw [if_pos hgb, itemsK, List.length_cons, List.length_append]
      omega
    · cases h
  | [], _ :: _, m, pre, hl, _, _ => by cases hl
  | _ :: _, [], m, pre, hl, _, _ => by cases hl
theorem nodeRead_none : (nodeRead ⟨#[]⟩).2 = false := by unfold nodeRead; rw [if_pos (show (⟨#[]⟩ : ByteArray).size = 0 from rfl)]
theorem goI_count {l : List ByteArray} (hl : l.length = 12) : ∀ (f k : Nat) (m : List Bool) (pre : ByteArray), m.length = 12 → (goI l f k m).1 = true → trues (goI l f k m).2 = trues m + 1 + (itemsG l f k pre).length
  | 0, k, m, pre, hm, h => by cases h
  | f + 1, k, m, pre, hm, h => by
    rw [goI] at h ⊢
    split at h
    · rename_i hc
      have hk : k < 12 := by
        rcases Nat.lt_or_ge k 12 with h | h
        · exact h
        · have h1 := hc.1
          rw [List.getD_eq_getElem?_getD, List.getElem?_eq_none (by omega)] at h1
          rw [show (none : Option ByteArray).getD ⟨#[]⟩ = ⟨#[]⟩ from rfl, nodeRead_none] at h1
          cases h1
      rw [if_pos hc, itemsG, goKids_count (l := l) (fun k m pre hm h => goI_count hl f k m pre hm h) (fun k m hm => goI_len l f k m hm) _ _ _ pre (nodeOk_kids (nodeRead_ok hc.1)).2 (by rw [List.length_set]; exact hm) h, trues_set m k (by omega) hc.2.1]
    · cases h
theorem trues_le (m : List Bool) : trues m ≤ m.length := List.countP_le_length
/-! ### the list is right -/
theorem idx_apart : ∀ (l : List It3) (i j : Nat) (x : It3), l.Pairwise (fun x y => x.1 ≠ y.1) → l[j]? = some x → idxOf (hasPath x.1) l i = ((i + j : Nat) : Int)
  | [], i, j, x, _, h => by simp at h
  | y :: l, i, 0, x, hd, h => by
    simp only [List.getElem?_cons_zero, Option.some.injEq] at h
    subst h
    simp [idxOf, hasPath]
  | y :: l, i, j + 1, x, hd, h => by
    rw [List.pairwise_cons] at hd
    simp only [List.getElem?_cons_succ] at h
    have hne : ¬ y.1 = x.1 := hd.1 x (List.mem_of_getElem? h)
    have := idx_apart l (i + 1) j x hd.2 h
    rw [idxOf, if_neg (by unfold hasPath; simpa using hne), this]
    omega
theorem okFrom_all {L : List It3} : ∀ (r : List It3) (i : Nat), (∀ j x, r[j]? = some x → itemBad L (i + j) x = false) → okFrom L r i = true
  | [], i, _ => rfl
  | x :: r, i, h => by
    rw [okFrom, show itemBad L i x = false from h 0 x rfl, okFrom_all r (i + 1) (fun j y hy => by rw [show i + 1 + j = i + (j + 1) from by omega]; exact h (j + 1) y (by simpa using hy))]
    rfl
theorem itemsOk_of {L : List It3} (h11 : L.length ≤ 11) (hs : ∀ x ∈ L, (splitF x.1).2.2 = true) (hd : ∀ x ∈ L, x.2.2.size ≤ 60 ∧ (x.2.1 = true → x.2.2 = ⟨#[]⟩)) (hu : ∀ x ∈ L, (splitF x.1).1 = ⟨#[]⟩ ∨ ∃ y ∈ L, y.1 = (splitF x.1).1 ∧ y.2.1 = true) (ha : L.Pairwise (fun x y => x.1 ≠ y.1)) : itemsOk L = true := by
  unfold itemsOk
  rw [okFrom_all L 0 (fun j x hx => ?_), decide_eq_true (show (L.length : Int) ≤ 11 by omega)]
  · rfl
  rw [Nat.zero_add]
  have hm := List.mem_of_getElem? hx
  have hi := idx_apart L 0 j x ha hx
  rw [Nat.zero_add] at hi
  have hf : isFold L (splitF x.1).1 = true := by
    unfold isFold
    rcases hu x hm with h | ⟨y, hy, h1, h2⟩
    · rw [decide_eq_true h]; rfl
    · obtain ⟨k, hk⟩ := List.getElem?_of_mem hy
      have hi2 := idx_apart L 0 k y ha hk
      rw [Nat.zero_add] at hi2
      rw [← h1, hi2]
      have : dirAt L k = true := by unfold dirAt; rw [hk]; exact h2
      simp [this]
  unfold itemBad
  obtain ⟨d1, d2⟩ := hd x hm
  have e1 : decide ((60:Int) < x.2.2.size) = false := decide_eq_false (by omega)
  have e2 : (x.2.1 && !decide (x.2.2 = ⟨#[]⟩)) = false := by
    cases hb : x.2.1
    · rfl
    · rw [decide_eq_true (d2 hb)]; rfl
  rw [hs x hm, e1, e2, hi, hf]
  simp
theorem vol_items {l : List ByteArray} : itemsOk (itemsV l) = true := by
  unfold itemsV
  split
  case isFalse => rfl
  rename_i hv
  unfold volOk at hv
  simp only [Bool.and_eq_true, decide_eq_true_eq] at hv
  obtain ⟨hl, hg, _⟩ := hv
  have hE : pathOk ⟨#[]⟩ = true := by decide
  have hz : (namesZ ⟨#[]⟩).length = 0 := rfl
  have hp : preOf ⟨#[]⟩ = ⟨#[]⟩ := rfl
  obtain ⟨T, _⟩ := items_tree l 5 0 ⟨#[]⟩ ⟨met0, hg⟩ hE (by rw [hz])
  have hc := goI_count hl 5 0 met0 ⟨#[]⟩ rfl hg
  have h12 := trues_le (goI l 5 0 met0).2
  rw [goI_len l 5 0 met0 rfl] at h12
  have h0 : trues met0 = 0 := by decide
  rw [hp] at T
  exact itemsOk_of (by omega) T.split T.data T.up T.apart
end Go.Proofs.YtoenfbbadfcfpaaGreatDoor
