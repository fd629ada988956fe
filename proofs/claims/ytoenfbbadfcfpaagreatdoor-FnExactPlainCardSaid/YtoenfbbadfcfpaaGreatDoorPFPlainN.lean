/- Plain of the reference: what is moved; names; Plain whole. Plain of the reference: a folder's names. -/
import Derived.Test.YtoenfbbadfcfpaaGreatDoorPFOrd
namespace Go.Proofs.YtoenfbbadfcfpaaGreatDoor
open Go.VM Go
set_option maxRecDepth 100000
set_option linter.unusedSimpArgs false
set_option linter.unusedVariables false
attribute [-go_sem] runW_cons
attribute [local congr] vw_congr runV_congr runH_congr runW_congr runX_congr stuckV_congr stuckX_congr


theorem jn_le : ∀ (l : List ByteArray) (acc : ByteArray), (∀ x ∈ l, x.size ≤ 6) → (jn acc l).size ≤ acc.size + 7 * l.length
  | [], acc, _ => Nat.le_refl _
  | x :: l, acc, h => by
    have h1 := jn_le l (acc ++ ⟨#[47]⟩ ++ x) (fun y hy => h y (by simp [hy]))
    have h2 := h x (by simp)
    have h3 : (⟨#[47]⟩ : ByteArray).size = 1 := rfl
    simp only [add_size] at h1
    rw [jn, List.length_cons]; omega
theorem pathOk_size {p : ByteArray} (h : pathOk p = true) : p.size ≤ 100 := by
  by_cases h0 : p = ⟨#[]⟩
  · rw [h0]; exact Nat.zero_le _
  rw [pathOk_names h0, Bool.and_eq_true, decide_eq_true_eq, List.all_eq_true] at h
  obtain ⟨h1, h2⟩ := h
  have hj := names_join p
  have h6 : ∀ x ∈ names p, x.size ≤ 6 := fun x hx => by
    have := h1 x hx
    unfold nameOk at this
    simp only [Bool.and_eq_true, decide_eq_true_eq, inB] at this
    omega
  cases hn : names p with
  | nil => rw [hn] at hj; exact absurd hj.symm h0
  | cons x l =>
    rw [hn] at hj h2 h6
    have := jn_le l x (fun y hy => h6 y (by simp [hy]))
    have h3 := h6 x (by simp)
    change jn x l = p at hj
    rw [hj] at this
    simp only [List.length_cons] at h2
    omega
theorem underB_size {p q : ByteArray} (h : underB p q = true) : q.size ≤ p.size := by
  by_cases h0 : q = ⟨#[]⟩
  · rw [h0]; exact Nat.zero_le _
  obtain ⟨_, _, h3⟩ := under_cut h h0
  rcases h3 with rfl | ⟨r, e, _⟩
  · exact Nat.le_refl _
  · have := congrArg ByteArray.size e
    rw [add_size, add_size] at this
    omega
set_option maxHeartbeats 2000000 in
theorem runs_64 (l : List It3) (hl : l.length ≤ 11) (hb : ∀ x ∈ l, x.1.size ≤ 2 ^ 19) (o : OpV) (hp : o.path.size ≤ 2 ^ 19) (ht : o.to.size ≤ 2 ^ 19) (R : List It3 × Int) (hR : R = moveL l o) :
    Runs Tryz.prog 64 [.one (.v (.list true 3 (l.map iRow))), .agg [.v (.int .i64 o.kind), .v (.str o.path), .v (.str o.to), .v (.str o.data)]] [.one (.v (.list true 3 (R.1.map iRow))), .one (.v (.int .i64 R.2))] [] := by
  refine runs_tab (tab := [(0, .al 0 [] 0 3 0 l.length), (1, .agg [.c (.int .i64 o.kind), .c (.str o.path), .c (.str o.to), .c (.str o.data)])]) (rts := [(0, some ⟨false, 3, l.map iRow, []⟩)]) (n := 85) (k := 5) Tryz.func64 rfl rfl (by simp) rfl (fun t => ?_) rfl ?_
  · rcases t with _ | _ | t <;> simp [envOf, rvv, RT.vv, CT.vv, cvv, tabE_cons, tabE_nil, rcells, RT.cells]
  unfold moveL at hR
  have bl : List.take l.length (l.map iRow) = l.map iRow := List.take_of_length_le (by simp)
  have rU := runs_90 o.to o.path (by omega) (by omega)
  have rF := runs_28 l o.to (by omega)
  have rS := runs_57 o.to (by omega)
  have rD := runs_folder l (splitF o.to).1 (by omega)
  change Runs _ _ _ [.one (.v (.int .i64 (findF l o.to)))] _ at rF
  generalize underB o.to o.path = ub at rU hR
  generalize findF l o.to = fi at rF hR
  generalize foldF l (splitF o.to).1 = fo at rD hR
  generalize splitF o.to = sp at rS rD hR
  obtain ⟨up, nm, ok⟩ := sp
  simp only at rS rD hR
  (refine vw_go rfl ?_; simp only [go_sem, setCells, setIn])
  refine vw_seq ?_
  by_cases hz : o.path = ⟨#[]⟩
  · rw [if_pos (.inl hz)] at hR
    subst hR
    have hz' : decide (o.path = ⟨#[]⟩) = true := by simp [hz]
    (refine vw_go rfl ?_; simp only [hz', bl, go_sem, setCells, setIn])
    (refine vw_cond (t := true) rfl (fun _ => ?_) (fun h => nomatch h))
    (refine vw_go rfl ?_; simp only [go_sem, setCells, setIn])
    exact vw_ret (r_then (e_ret (ret_by rfl rfl (by simp [RB]) rfl (by simp only [takeCs, takeC, go_sem, setCells, setIn]))))
  have hz' : decide (o.path = ⟨#[]⟩) = false := by simp [hz]
  (refine vw_go rfl ?_; simp only [hz', bl, go_sem, setCells, setIn])
  (refine ⟨_, _, call_rx [0, 0] Tryz.func90 (rU) rfl rfl rfl rfl rfl rfl rfl (by simp [lendAll, lendC, seek, fresh, nav, rcells, RT.cells, VV.cells, tabE_cons, tabS_cons, ev, take_map_len, iRow_r1, iRow_clean]) rfl (by simp [rcells, RT.cells, CT.clean, T.clean, iRow_r1, iRow_clean]) rfl rfl, ?_⟩)
  cases ub
  case true =>
    rw [if_pos (.inr rfl)] at hR
    subst hR
    simp only [runH, runX, bl, go_sem, setCells, setIn]
    (refine vw_cond (t := true) rfl (fun _ => ?_) (fun h => nomatch h))
    (refine vw_go rfl ?_; simp only [go_sem, setCells, setIn])
    exact vw_ret (r_then (e_ret (ret_by rfl rfl (by simp [RB]) rfl (by simp only [takeCs, takeC, go_sem, setCells, setIn]))))
  rw [if_neg (by rintro (h | h); exact hz h; cases h)] at hR
  simp only [runH, runX, bl, go_sem, setCells, setIn]
  (refine vw_cond (t := false) rfl (fun h => nomatch h) (fun _ => ?_))
  refine vw_skip (n_then ?_)
  refine vw_seq ?_
  by_cases hy : o.to = ⟨#[]⟩
  · rw [if_pos (.inl hy)] at hR
    subst hR
    have hy' : decide (o.to = ⟨#[]⟩) = true := by simp [hy]
    (refine vw_go rfl ?_; simp only [hy', bl, go_sem, setCells, setIn])
    (refine vw_cond (t := true) rfl (fun _ => ?_) (fun h => nomatch h))
    (refine vw_go rfl ?_; simp only [go_sem, setCells, setIn])
    exact vw_ret (r_then (e_ret (ret_by rfl rfl (by simp [RB]) rfl (by simp only [takeCs, takeC, go_sem, setCells, setIn]))))
  have hy' : decide (o.to = ⟨#[]⟩) = false := by simp [hy]
  (refine vw_go rfl ?_; simp only [hy', bl, go_sem, setCells, setIn])
  (refine ⟨_, _, call_rx [0, 0] Tryz.func28 (rF) rfl rfl rfl rfl rfl rfl rfl (by simp [lendAll, lendC, seek, fresh, nav, rcells, RT.cells, VV.cells, tabE_cons, tabS_cons, ev, take_map_len, iRow_r1, iRow_clean, bl]) rfl (by simp [rcells, RT.cells, CT.clean, T.clean, iRow_r1, iRow_clean, bl]) rfl rfl, ?_⟩)
  by_cases hf : 0 ≤ fi
  · rw [if_pos (.inr hf)] at hR
    subst hR
    simp only [runH, runX, hf, bl, go_sem, setCells, setIn]
    (refine vw_cond (t := true) rfl (fun _ => ?_) (fun h => nomatch h))
    (refine vw_go rfl ?_; simp only [go_sem, setCells, setIn])
    exact vw_ret (r_then (e_ret (ret_by rfl rfl (by simp [RB]) rfl (by simp only [takeCs, takeC, go_sem, setCells, setIn]))))
  rw [if_neg (by rintro (h | h); exact hy h; exact hf h)] at hR
  simp only [runH, runX, hf, bl, go_sem, setCells, setIn]
  (refine vw_cond (t := false) rfl (fun h => nomatch h) (fun _ => ?_))
  refine vw_skip (n_then ?_)
  (refine vw_go rfl ?_; simp only [go_sem, setCells, setIn])
  (refine ⟨_, _, call_rx [0] Tryz.func57 (rS) rfl rfl rfl rfl rfl rfl rfl (by simp [lendAll, lendC, seek, fresh, nav, rcells, RT.cells, VV.cells, tabE_cons, tabS_cons, ev, take_map_len, iRow_r1, iRow_clean]) rfl (by simp [rcells, RT.cells, CT.clean, T.clean, iRow_r1, iRow_clean]) rfl rfl, ?_⟩)
  simp only [runH, runX, go_sem, setCells, setIn]
  (refine vw_go rfl ?_; simp only [bl, go_sem, setCells, setIn])
  (refine ⟨_, _, call_rx [0, 0] Tryz.func58 (rD) rfl rfl rfl rfl rfl rfl rfl (by simp [lendAll, lendC, seek, fresh, nav, rcells, RT.cells, VV.cells, tabE_cons, tabS_cons, ev, take_map_len, iRow_r1, iRow_clean, bl]) rfl (by simp [rcells, RT.cells, CT.clean, T.clean, iRow_r1, iRow_clean, bl]) rfl rfl, ?_⟩)
  simp only [runH, runX, bl, go_sem, setCells, setIn]
  refine vw_seq ?_
  by_cases h0 : fo = 0
  case neg =>
    rw [if_pos h0] at hR
    subst hR
    (refine vw_go rfl ?_; simp only [h0, bl, go_sem, setCells, setIn])
    (refine vw_cond (t := true) rfl (fun _ => ?_) (fun h => nomatch h))
    (refine vw_go rfl ?_; simp only [go_sem, setCells, setIn])
    exact vw_ret (r_then (e_ret (ret_by rfl rfl (by simp [RB]) rfl (by simp only [takeCs, takeC, go_sem, setCells, setIn]))))
  rw [if_neg (fun h => h h0)] at hR
  (refine vw_go rfl ?_; simp only [h0, go_sem, setCells, setIn])
  (refine vw_cond (t := false) rfl (fun h => nomatch h) (fun _ => ?_))
  refine vw_skip (n_then ?_)
  (refine vw_go rfl ?_; simp only [range1, List.replicate_succ, List.replicate_zero, List.flatten_cons, List.flatten_nil, List.range_zero, gt_iff_lt, go_sem, setCells, setIn])
  refine vw_seq ?_
  (refine vw_go rfl ?_; simp only [go_sem, setCells, setIn])
  refine vw_block ?_
  refine vw_loop_tab (α := Nat × List It3 × List Path) (fun x => l.length - x.1) (fun x => ⟨tabE [(0, .al 0 [] 0 3 0 l.length), (3, .ptr 5 [] 0 0 0), (10, .al 6 [] 0 3 0 x.2.1.length), (11, .c (.int .i64 x.1))],
      tabS [(0, some ⟨false, 3, l.map iRow, []⟩), (5, some ⟨true, 4, [[.int .i64 o.kind, .str o.path, .str o.to, .str o.data]], []⟩), (6, some ⟨false, 3, x.2.1.map iRow, x.2.2⟩)], 7⟩)
    (fun x => x.1 ≤ l.length ∧ moveG l o (l.drop x.1) x.2.1 = R ∧ x.2.1.length ≤ x.1) (x := (0, [], [])) ?round ?h0 ?hn
  case h0 => exact ⟨Nat.zero_le _, hR.symm, Nat.le_refl _⟩
  case hn =>
    (refine norm_to [(0, 0), (5, 5), (393221, 6)] rfl ?_ ?_ <;> simp only [go_sem])
  rintro ⟨i, q, lg⟩ ⟨hi, hg, hql⟩
  simp only at hi hg hql
  have bq : List.take q.length (q.map iRow) = q.map iRow := List.take_of_length_le (by simp)
  refine vw_seq ?_
  by_cases hc : (i : Int) < l.length
  case neg =>
    rw [List.drop_eq_nil_of_le (by omega), moveG] at hg
    subst hg
    (refine vw_go rfl ?_; simp only [hc, go_sem, setCells, setIn])
    (refine vw_cond (t := false) rfl (fun h => nomatch h) (fun _ => ?_))
    refine vw_exit (x_then (x_then (x_block (n_then ?_))))
    (refine vw_go rfl ?_; simp only [go_sem, setCells, setIn])
    exact vw_ret (e_ret (ret_by rfl rfl (by simp [RB]) rfl (by simp only [takeCs, takeC, bq, go_sem, setCells, setIn])))
  have hin : i < l.length := by omega
  obtain ⟨x, hx⟩ : ∃ x, l[i]? = some x := ⟨_, List.getElem?_eq_getElem hin⟩
  rw [drop_of hx, moveG] at hg
  have hxs := hb x (List.mem_of_getElem? hx)
  have d0 : (0:Int) ≤ (i : Int) := by omega
  have w3 : IntKind.wrap .i64 ((i:Int) + 1) = ((i + 1 : Nat) : Int) := by rw [wrap_i64 (by omega) (by omega)]; rfl
  have rX := runs_90 x.1 o.path (by omega) (by omega)
  have hus := underB_size (p := x.1) (q := o.path)
  have B1 : ¬ (q.length + 1 + 1) * (40 + 1) > bigRow := big41 (by omega)
  have hmsz : (movedP o x.1).size ≤ 2 ^ 20 := by
    unfold movedP
    split
    · rw [add_size, extract_size (Nat.le_refl _)]; omega
    · omega
  have rP := runs_62 (movedP o x.1) hmsz
  have hmp : movedP o x.1 = if underB x.1 o.path = true then o.to ++ x.1.extract o.path.size x.1.size else x.1 := rfl
  generalize underB x.1 o.path = u at rX hus hmp
  generalize movedP o x.1 = mp at rP hg hmp
  (refine vw_go rfl ?_; simp only [hc, go_sem, setCells, setIn])
  (refine vw_cond (t := true) rfl (fun _ => ?_) (fun h => nomatch h))
  refine vw_skip (n_then ?_)
  refine vw_seq ?_
  refine vw_block ?_
  (refine vw_go rfl ?_; simp only [d0, hc, hin, Int.toNat_natCast, getD_map_of hx, iRow, go_sem, setCells, setIn])
  refine vw_join (α := Unit) (fun z => ⟨tabE [(0, .al 0 [] 0 3 0 l.length), (3, .ptr 5 [] 0 0 0), (10, .al 6 [] 0 3 0 q.length), (11, .c (.int .i64 i)), (12, .ptr 7 [] 0 0 0)],
      tabS [(0, some ⟨false, 3, l.map iRow, []⟩), (5, some ⟨true, 4, [[.int .i64 o.kind, .str o.path, .str o.to, .str o.data]], []⟩), (6, some ⟨false, 3, q.map iRow, lg⟩), (7, some ⟨true, 3, [[.str mp, .bool x.2.1, .str x.2.2]], []⟩)], 8⟩) (fun z => True) ?_ ?_
  · (refine vw_go rfl ?_; simp only [go_sem, setCells, setIn])
    (refine ⟨_, _, call_rx [0, 0] Tryz.func90 (rX) rfl rfl rfl rfl rfl rfl rfl (by simp [lendAll, lendC, seek, fresh, nav, rcells, RT.cells, VV.cells, tabE_cons, tabS_cons, ev, take_map_len, iRow_r1, iRow_clean]) rfl (by simp [rcells, RT.cells, CT.clean, T.clean, iRow_r1, iRow_clean]) rfl rfl, ?_⟩)
    cases u
    · rw [if_neg (by decide)] at hmp
      subst hmp
      simp only [runH, runX, go_sem, setCells, setIn]
      (refine vw_cond (t := false) rfl (fun h => nomatch h) (fun _ => ?_))
      refine vw_skip (n_then ⟨(), ?_⟩)
      (refine norm_to [(0, 0), (5, 5), (6, 6), (69639, 7)] rfl ?_ ?_ <;> simp only [go_sem])
    · rw [if_pos rfl] at hmp
      have hus := hus rfl
      subst hmp
      have l1 : (0 : Int) ≤ (o.path.size : Int) := by omega
      have zc : o.to.size + (x.1.extract o.path.size x.1.size).size < 2 ^ 60 := by rw [extract_size (Nat.le_refl _)]; omega
      simp only [runH, runX, go_sem, setCells, setIn]
      (refine vw_cond (t := true) rfl (fun _ => ?_) (fun h => nomatch h))
      refine vw_drawA_last mixed rfl rfl ?_
      intro A hAA
      simp (maxSteps := 1000000) only [l1, hus, zc, Int.toNat_natCast, go_sem, setCells, setIn, runW_step]
      refine ⟨by subst hAA; unfold allOk; kernel_rfl, ?_⟩
      refine (n_then ⟨(), ?_⟩)
      (refine norm_to [(0, 0), (5, 5), (6, 6), (69639, 7)] rfl ?_ ?_ <;> simp only [go_sem])
  intro z _
  generalize pathOk mp = pk at rP hg
  refine vw_seq ?_
  (refine vw_go rfl ?_; simp only [go_sem, setCells, setIn])
  (refine ⟨_, _, call_rx [0] Tryz.func62 (rP) rfl rfl rfl rfl rfl rfl rfl (by simp [lendAll, lendC, seek, fresh, nav, rcells, RT.cells, VV.cells, tabE_cons, tabS_cons, ev, take_map_len, iRow_r1, iRow_clean]) rfl (by simp [rcells, RT.cells, CT.clean, T.clean, iRow_r1, iRow_clean]) rfl rfl, ?_⟩)
  cases pk
  case false =>
    rw [if_neg (by decide)] at hg
    subst hg
    simp only [runH, runX, go_sem, setCells, setIn]
    (refine vw_cond (t := true) rfl (fun _ => ?_) (fun h => nomatch h))
    (refine vw_go rfl ?_; simp only [go_sem, setCells, setIn])
    refine vw_ret ?_
    repeat (first | refine r_then ?_ | refine r_block ?_)
    exact e_ret (ret_by rfl rfl (by simp [RB]) rfl (by simp only [takeCs, takeC, bl, go_sem, setCells, setIn]))
  rw [if_pos rfl] at hg
  simp only [runH, runX, go_sem, setCells, setIn]
  (refine vw_cond (t := false) rfl (fun h => nomatch h) (fun _ => ?_))
  refine vw_skip (n_then ?_)
  (refine vw_last rfl ?_; simp only [B1, bq, List.drop_length, range1, List.replicate_succ, List.replicate_zero, List.flatten_cons, List.flatten_nil, List.range_zero, gt_iff_lt, go_sem, setCells, setIn])
  refine (n_block (n_then ?_))
  (refine vw_last rfl ?_; simp only [w3, go_sem, setCells, setIn])
  refine (n_then ?_)
  have e4 : q.map iRow ++ [[.str mp, .bool x.2.1, .str x.2.2]] = (q ++ [(mp, x.2)]).map iRow := by simp [iRow]
  rw [e4]
  refine ⟨(i + 1, q ++ [(mp, x.2)], []), by simp only; omega, ⟨by simp only; omega, hg, by simp; omega⟩, ?_⟩
  have e5 : q.length + 1 = (q ++ [(mp, x.2)]).length := by simp
  rw [e5]
  generalize q ++ [(mp, x.2)] = q'
  (refine norm_to [(0, 0), (5, 5), (68616, 6)] rfl ?_ ?_ <;> simp only [go_sem])
end Go.Proofs.YtoenfbbadfcfpaaGreatDoor
namespace Go.Proofs.YtoenfbbadfcfpaaGreatDoor
open Go.VM Go
set_option maxRecDepth 100000
set_option linter.unusedSimpArgs false
set_option linter.unusedVariables false
attribute [-go_sem] runW_cons
attribute [local congr] vw_congr runV_congr runH_congr runW_congr runX_congr stuckV_congr stuckX_congr


structure GFit (i : Nat) (n : NodeV) : Prop where
  len : n.names.length = n.kids.length
  few : n.names.length ≤ i
  text : ∀ s ∈ n.names, s.size ≤ 100
  kids : ∀ y ∈ n.kids, 0 ≤ y ∧ y < (i : Int)
theorem putLoop_kid (s : ByteArray) (k : Int) : ∀ (b : Bool) (xs : List ByteArray) (ys : List Int), ∀ y ∈ (putLoop s k b xs ys).2, y ∈ ys ∨ y = k
  | true, xs, ys, x, hx => .inl (by simpa [putLoop] using hx)
  | false, [], ys, x, hx => .inr (by cases ys <;> simpa [putLoop] using hx)
  | false, a :: xs, [], x, hx => .inr (by simpa [putLoop] using hx)
  | false, a :: xs, b :: ys, x, hx => by
    unfold putLoop at hx
    split at hx
    · rcases List.mem_cons.1 hx with h | h
      · exact .inr h
      · exact .inl h
    · rcases List.mem_cons.1 hx with h | h
      · exact .inl (h ▸ List.mem_cons_self)
      · rcases putLoop_kid s k false xs ys x h with h | h
        · exact .inl (List.mem_cons_of_mem _ h)
        · exact .inr h
theorem GFit.up {i : Nat} {n : NodeV} (h : GFit i n) : GFit (i + 1) n := ⟨h.len, by have := h.few; omega, h.text, fun y hy => by have := h.kids y hy; omega⟩
theorem GFit.put {i : Nat} {n : NodeV} (h : GFit i n) (s : ByteArray) (hs : s.size ≤ 100) : GFit (i + 1) (kidPutF n s (i : Int)) := by
  have hl : (kidDropF n s).names.length = (kidDropF n s).kids.length := skipN_len _ _ _ _ h.len
  have h1 := putLoop_len s (i : Int) false _ _ hl
  have h2 : (kidDropF n s).names.length ≤ n.names.length := skipN_le (kidIx n.names n.kids s 0) n.names 0
  refine ⟨h1.2, ?_, fun x hx => ?_, fun y hy => ?_⟩
  · have h3 : (kidPutF n s (i : Int)).names.length ≤ (kidDropF n s).names.length + 1 := h1.1
    have := h.few
    omega
  · rcases putLoop_mem s (i : Int) false _ _ x hx with h3 | h3
    · exact h.text x (skipN_mem _ _ _ x h3)
    · rw [h3]; exact hs
  · rcases putLoop_kid s (i : Int) false _ _ y hy with h3 | h3
    · have := h.kids y (skipN_mem _ _ _ y h3); omega
    · rw [h3]; omega
theorem nodeG_fit (p : ByteArray) : ∀ (r : List It3) (i : Nat) (n : NodeV), (∀ x ∈ r, x.1.size ≤ 100) → GFit i n → GFit (i + r.length) (nodeG p r i n)
  | [], i, n, _, h => h
  | x :: r, i, n, hb, h => by
    rw [nodeG, List.length_cons, show i + (r.length + 1) = i + 1 + r.length from by omega]
    refine nodeG_fit p r (i + 1) _ (fun y hy => hb y (by simp [hy])) ?_
    split
    · exact h.put _ (Nat.le_trans (splitF_size x.1).2 (hb x (by simp)))
    · exact h.up

set_option maxHeartbeats 2000000 in
theorem runs_65 (l : List It3) (hl : l.length ≤ 11) (hb : ∀ x ∈ l, x.1.size ≤ 100) (p : ByteArray) (hp : p.size ≤ 2 ^ 19) (s : ByteArray) (hs : s = listL l p) :
    Runs Tryz.prog 65 [.one (.v (.list false 3 (l.map iRow))), .one (.v (.str p))] [.one (.v (.str s))] [] := by
  refine runs_tab (tab := [(0, .c (.list false 3 (l.map iRow))), (1, .c (.str p))]) (rts := []) (n := 66) (k := 2) Tryz.func65 rfl rfl (by simp) rfl (fun t => ?_) rfl ?_
  · rcases t with _ | _ | t <;> rfl
  unfold listL at hs
  have hgf := nodeG_fit p l 0 ⟨true, [], [], ⟨#[]⟩⟩ hb ⟨rfl, Nat.le_refl _, (fun s h => nomatch h), (fun y h => nomatch h)⟩
  rw [Nat.zero_add] at hgf
  (refine vw_go rfl ?_; simp only [go_sem, setCells, setIn])
  (refine vw_go rfl ?_; simp only [range1, List.replicate_succ, List.replicate_zero, List.flatten_cons, List.flatten_nil, List.range_zero, gt_iff_lt, go_sem, setCells, setIn])
  refine vw_seq ?_
  (refine vw_go rfl ?_; simp only [go_sem, setCells, setIn])
  refine vw_block ?_
  refine vw_loop_tab (α := Nat × NodeV × List Path) (fun x => l.length - x.1) (fun x => ⟨tabE [(0, .c (.list false 3 (l.map iRow))), (1, .c (.str p)), (5, .ptr 2 [] 0 0 0), (6, .c (.int .i64 x.1))],
      tabS [(2, some ⟨true, 4, [[.bool x.2.1.dir, .list true 1 (x.2.1.names.map sRow), .list true 1 (x.2.1.kids.map nRow), .str x.2.1.data]], x.2.2⟩)], 3⟩)
    (fun x => x.1 ≤ l.length ∧ nodeG p (l.drop x.1) x.1 x.2.1 = nodeG p l 0 ⟨true, [], [], ⟨#[]⟩⟩ ∧ GFit x.1 x.2.1) (x := (0, ⟨true, [], [], ⟨#[]⟩⟩, [[(0, 1)], [(0, 2)]])) ?round ?h0 ?hn
  case h0 => exact ⟨Nat.zero_le _, rfl, ⟨rfl, Nat.le_refl _, (fun s h => nomatch h), (fun y h => nomatch h)⟩⟩
  case hn =>
    (refine norm_to [(66562, 2)] rfl ?_ ?_ <;> simp only [go_sem])
  rintro ⟨i, n, lg⟩ ⟨hi, hg, hf⟩
  simp only at hi hg hf
  have bn : List.take n.names.length (n.names.map sRow) = n.names.map sRow := List.take_of_length_le (by simp)
  have bk : List.take n.kids.length (n.kids.map nRow) = n.kids.map nRow := List.take_of_length_le (by simp)
  refine vw_seq ?_
  by_cases hc : (i : Int) < l.length
  · have hin : i < l.length := by omega
    obtain ⟨x, hx⟩ : ∃ x, l[i]? = some x := ⟨_, List.getElem?_eq_getElem hin⟩
    rw [drop_of hx, nodeG] at hg
    have hxs := hb x (List.mem_of_getElem? hx)
    have d0 : (0:Int) ≤ (i : Int) := by omega
    have w3 : IntKind.wrap .i64 ((i:Int) + 1) = ((i + 1 : Nat) : Int) := by rw [wrap_i64 (by omega) (by omega)]; rfl
    have rS := runs_57 x.1 (by omega)
    have hss := splitF_size x.1
    generalize splitF x.1 = sp at rS hg hss
    obtain ⟨up, nm, ok⟩ := sp
    simp only at rS hg hss
    (refine vw_go rfl ?_; simp only [hc, go_sem, setCells, setIn])
    (refine vw_cond (t := true) rfl (fun _ => ?_) (fun h => nomatch h))
    refine vw_skip (n_then ?_)
    refine vw_seq ?_
    refine vw_block ?_
    (refine vw_go rfl ?_; simp only [d0, hc, hin, Int.toNat_natCast, getD_map_of hx, iRow, go_sem, setCells, setIn])
    (refine ⟨_, _, call_rx [0] Tryz.func57 (rS) rfl rfl rfl rfl rfl rfl rfl (by simp [lendAll, lendC, seek, fresh, nav, rcells, RT.cells, VV.cells, tabE_cons, tabS_cons, ev, take_map_len, iRow_r1, iRow_clean, sRow_r1, sRow_comp, sRow_clean, nRow_r1, nRow_comp, nRow_clean]) rfl (by simp [rcells, RT.cells, CT.clean, T.clean, iRow_r1, iRow_clean, sRow_r1, sRow_comp, sRow_clean, nRow_r1, nRow_comp, nRow_clean]) rfl rfl, ?_⟩)
    simp only [runH, runX, go_sem, setCells, setIn]
    by_cases he : up = p
    · rw [if_pos he] at hg
      have he' : decide (up = p) = true := by simp [he]
      have hf2 := hf.put nm (by omega)
      have rK := runs_91 n hf.len (by have := hf.few; omega) nm (i : Int) _ rfl
      generalize kidPutF n nm (i : Int) = m at rK hg hf2
      have bm : List.take m.names.length (m.names.map sRow) = m.names.map sRow := List.take_of_length_le (by simp)
      have bm2 : List.take m.kids.length (m.kids.map nRow) = m.kids.map nRow := List.take_of_length_le (by simp)
      (refine vw_go rfl ?_; simp only [he', go_sem, setCells, setIn])
      (refine vw_cond (t := true) rfl (fun _ => ?_) (fun h => nomatch h))
      (refine vw_last rfl ?_; simp only [bn, bk, List.drop_length, go_sem, setCells, setIn])
      (refine ⟨_, _, call_rx [0, 0, 0] Tryz.func91 (rK) rfl rfl rfl rfl rfl rfl rfl (by simp [lendAll, lendC, seek, fresh, nav, rcells, RT.cells, VV.cells, tabE_cons, tabS_cons, ev, take_map_len, iRow_r1, iRow_clean, sRow_r1, sRow_comp, sRow_clean, nRow_r1, nRow_comp, nRow_clean, bn, bk]) rfl (by simp [rcells, RT.cells, CT.clean, T.clean, iRow_r1, iRow_clean, sRow_r1, sRow_comp, sRow_clean, nRow_r1, nRow_comp, nRow_clean, bn, bk]) rfl rfl, ?_⟩)
      simp only [runH, runX, bm, bm2, List.drop_length, go_sem, setCells, setIn]
      refine (n_block (n_then ?_))
      (refine vw_last rfl ?_; simp only [w3, go_sem, setCells, setIn])
      refine (n_then ?_)
      refine ⟨(i + 1, m, lg ++ [[(0, 1)], [(0, 2)]]), by simp only; omega, ⟨by simp only; omega, hg, hf2⟩, ?_⟩
      (refine norm_to [(2, 2)] rfl ?_ ?_ <;> simp only [go_sem])
    · rw [if_neg he] at hg
      have he' : decide (up = p) = false := by simp [he]
      (refine vw_go rfl ?_; simp only [he', go_sem, setCells, setIn])
      (refine vw_cond (t := false) rfl (fun h => nomatch h) (fun _ => ?_))
      refine vw_skip (n_block (n_then ?_))
      (refine vw_last rfl ?_; simp only [w3, go_sem, setCells, setIn])
      refine (n_then ?_)
      refine ⟨(i + 1, n, lg), by simp only; omega, ⟨by simp only; omega, hg, hf.up⟩, ?_⟩
      (refine norm_to [(2, 2)] rfl ?_ ?_ <;> simp only [go_sem])
  rw [List.drop_eq_nil_of_le (by omega), nodeG] at hg
  rw [← hg] at hs hgf
  clear hg hf
  (refine vw_go rfl ?_; simp only [hc, go_sem, setCells, setIn])
  (refine vw_cond (t := false) rfl (fun h => nomatch h) (fun _ => ?_))
  refine vw_exit (x_then (x_then (x_block (n_then ?_))))
  clear hc hi
  (refine vw_go rfl ?_; simp only [go_sem, setCells, setIn])
  refine vw_seq ?_
  (refine vw_go rfl ?_; simp only [go_sem, setCells, setIn])
  refine vw_block ?_
  refine vw_loop_tab (α := Nat × ByteArray) (fun x => n.names.length - x.1) (fun x => ⟨tabE [(0, .c (.list false 3 (l.map iRow))), (5, .ptr 2 [] 0 0 0), (10, .c (.str x.2)), (11, .c (.int .i64 x.1))], tabS [(2, some ⟨true, 4, [[.bool n.dir, .list true 1 (n.names.map sRow), .list true 1 (n.kids.map nRow), .str n.data]], lg⟩)], 3⟩)
    (fun x => x.1 ≤ n.names.length ∧ textG l (n.names.drop x.1) (n.kids.drop x.1) (decide (0 < x.1)) x.2 = textG l n.names n.kids false ⟨#[]⟩ ∧ x.2.size ≤ 102 * x.1) (x := (0, ⟨#[]⟩)) ?round2 ?h02 ?hn2
  case h02 => exact ⟨Nat.zero_le _, rfl, Nat.le_refl _⟩
  case hn2 =>
    (refine norm_to [(2, 2)] rfl ?_ ?_ <;> simp only [go_sem])
  rintro ⟨i, acc⟩ ⟨hi, hg, hq⟩
  simp only at hi hg hq
  have hfew := hgf.few
  refine vw_seq ?_
  by_cases hc : (i : Int) < n.names.length
  case neg =>
    rw [List.drop_eq_nil_of_le (by omega), List.drop_eq_nil_of_le (by have := hgf.len; omega), textG] at hg
    · rw [← hg] at hs
      subst hs
      (refine vw_go rfl ?_; simp only [hc, bn, go_sem, setCells, setIn])
      (refine vw_cond (t := false) rfl (fun h => nomatch h) (fun _ => ?_))
      refine vw_exit (x_then (x_then (x_block (n_then ?_))))
      (refine vw_go rfl ?_; simp only [go_sem, setCells, setIn])
      exact vw_ret (e_ret (ret_of rfl rfl (by simp [RB]) rfl rfl))
    · intro a xs b ys h; cases h
  have hin : i < n.names.length := by omega
  have hik : i < n.kids.length := by have := hgf.len; omega
  have d1 : (i : Int) < n.kids.length := by omega
  obtain ⟨a, ha⟩ : ∃ u, n.names[i]? = some u := ⟨_, List.getElem?_eq_getElem hin⟩
  obtain ⟨y, hy⟩ : ∃ y, n.kids[i]? = some y := ⟨_, List.getElem?_eq_getElem hik⟩
  have has := hgf.text a (List.mem_of_getElem? ha)
  have hyr := hgf.kids y (List.mem_of_getElem? hy)
  obtain ⟨z, rfl⟩ : ∃ z : Nat, y = z := ⟨y.toNat, by omega⟩
  obtain ⟨t, ht⟩ : ∃ s, l[z]? = some s := ⟨_, List.getElem?_eq_getElem (by omega)⟩
  have hdt : dirAt l ((z : Int)).toNat = t.2.1 := by rw [Int.toNat_natCast, dirAt, ht]
  rw [drop_of ha, drop_of hy, textG, hdt] at hg
  have d0 : (0:Int) ≤ (i : Int) := by omega
  have z0 : (0:Int) ≤ (z : Int) := by omega
  have z1 : (z : Int) < l.length := by omega
  have z2 : z < l.length := by omega
  have w3 : IntKind.wrap .i64 ((i:Int) + 1) = ((i + 1 : Nat) : Int) := by rw [wrap_i64 (by omega) (by omega)]; rfl
  have s1 : (⟨#[32]⟩ : ByteArray).size = 1 := rfl
  have s2 : (⟨#[47]⟩ : ByteArray).size = 1 := rfl
  have t1 : Array.size #[(32 : UInt8)] = 1 := rfl
  have t2 : Array.size #[(47 : UInt8)] = 1 := rfl
  have hdir : ∀ b, t.2.1 = b → True := fun _ _ => trivial
  (refine vw_go rfl ?_; simp only [hc, bn, go_sem, setCells, setIn])
  (refine vw_cond (t := true) rfl (fun _ => ?_) (fun h => nomatch h))
  refine vw_skip (n_then ?_)
  refine vw_seq ?_
  refine vw_block ?_
  refine vw_seq ?_
  by_cases hp : (0:Int) < i
  case neg =>
    have hp' : decide (0 < i) = false := decide_eq_false (by omega)
    simp only [hp', Bool.false_eq_true, if_false] at hg
    have za : acc.size + a.size < 2 ^ 60 := by omega
    have zb : acc.size + a.size + Array.size #[(47 : UInt8)] < 2 ^ 60 := by omega
    have hnx : decide (0 < i + 1) = true := decide_eq_true (by omega)
    rw [← hnx] at hg
    (refine vw_go rfl ?_; simp only [hp, go_sem, setCells, setIn])
    (refine vw_cond (t := false) rfl (fun h => nomatch h) (fun _ => ?_))
    refine vw_skip (n_then ?_)
    (refine vw_go rfl ?_; simp only [d0, hc, hin, Int.toNat_natCast, getD_map_of ha, sRow, bn, bk, za, List.drop_length, go_sem, setCells, setIn])
    (refine vw_go rfl ?_; simp only [d0, d1, hik, z0, z1, z2, Int.toNat_natCast, getD_map_of hy, nRow, getD_map_of ht, iRow, bn, bk, List.drop_length, go_sem, setCells, setIn])
    cases hd : t.2.1
    · simp only [hd, Bool.false_eq_true, if_false] at hg
      refine vw_cond (t := false) rfl (fun h => nomatch h) (fun _ => ?_)
      refine vw_skip (n_block (n_then ?_))
      (refine vw_last rfl ?_; simp only [w3, go_sem, setCells, setIn])
      refine (n_then ?_)
      refine ⟨(i + 1, acc ++ a), by simp only; omega, ⟨by simp only; omega, hg, by simp only [add_size]; omega⟩, ?_⟩
      (refine norm_to [(2, 2)] rfl ?_ ?_ <;> simp only [go_sem])
    simp only [hd, if_true] at hg
    refine vw_cond (t := true) rfl (fun _ => ?_) (fun h => nomatch h)
    (refine vw_last rfl ?_; simp only [zb, go_sem, setCells, setIn])
    refine (n_block (n_then ?_))
    (refine vw_last rfl ?_; simp only [w3, go_sem, setCells, setIn])
    refine (n_then ?_)
    refine ⟨(i + 1, acc ++ a ++ ⟨#[47]⟩), by simp only; omega, ⟨by simp only; omega, hg, by simp only [add_size]; omega⟩, ?_⟩
    (refine norm_to [(2, 2)] rfl ?_ ?_ <;> simp only [go_sem])
  have hp' : decide (0 < i) = true := decide_eq_true (by omega)
  simp only [hp', if_true] at hg
  have zz0 : acc.size + Array.size #[(32 : UInt8)] < 2 ^ 60 := by omega
  have za : acc.size + Array.size #[(32 : UInt8)] + a.size < 2 ^ 60 := by omega
  have zb : acc.size + Array.size #[(32 : UInt8)] + a.size + Array.size #[(47 : UInt8)] < 2 ^ 60 := by omega
  have hnx : decide (0 < i + 1) = true := decide_eq_true (by omega)
  rw [← hnx] at hg
  (refine vw_go rfl ?_; simp only [hp, go_sem, setCells, setIn])
  (refine vw_cond (t := true) rfl (fun _ => ?_) (fun h => nomatch h))
  (refine vw_last rfl ?_; simp only [zz0, go_sem, setCells, setIn])
  refine (n_then ?_)
  (refine vw_go rfl ?_; simp only [d0, hc, hin, Int.toNat_natCast, getD_map_of ha, sRow, bn, bk, za, List.drop_length, go_sem, setCells, setIn])
  (refine vw_go rfl ?_; simp only [d0, d1, hik, z0, z1, z2, Int.toNat_natCast, getD_map_of hy, nRow, getD_map_of ht, iRow, bn, bk, List.drop_length, go_sem, setCells, setIn])
  cases hd : t.2.1
  · simp only [hd, Bool.false_eq_true, if_false] at hg
    refine vw_cond (t := false) rfl (fun h => nomatch h) (fun _ => ?_)
    refine vw_skip (n_block (n_then ?_))
    (refine vw_last rfl ?_; simp only [w3, go_sem, setCells, setIn])
    refine (n_then ?_)
    refine ⟨(i + 1, (acc ++ ⟨#[32]⟩) ++ a), by simp only; omega, ⟨by simp only; omega, hg, by simp only [add_size]; omega⟩, ?_⟩
    (refine norm_to [(2, 2)] rfl ?_ ?_ <;> simp only [go_sem])
  simp only [hd, if_true] at hg
  refine vw_cond (t := true) rfl (fun _ => ?_) (fun h => nomatch h)
  (refine vw_last rfl ?_; simp only [zb, go_sem, setCells, setIn])
  refine (n_block (n_then ?_))
  (refine vw_last rfl ?_; simp only [w3, go_sem, setCells, setIn])
  refine (n_then ?_)
  refine ⟨(i + 1, (acc ++ ⟨#[32]⟩) ++ a ++ ⟨#[47]⟩), by simp only; omega, ⟨by simp only; omega, hg, by simp only [add_size]; omega⟩, ?_⟩
  (refine norm_to [(2, 2)] rfl ?_ ?_ <;> simp only [go_sem])
end Go.Proofs.YtoenfbbadfcfpaaGreatDoor
