/- Items: what a volume has, as the reference tells it. -/
import Derived.Test.YtppbonbghmdhhaaPFItems
namespace Go.Proofs.Ytppbonbghmdhhaa
open Go.VM Go
set_option maxRecDepth 100000
set_option linter.unusedSimpArgs false
set_option linter.unusedVariables false
attribute [local congr] vw_congr runV_congr runH_congr runW_congr runX_congr

theorem iRow_noOwn (l : List It3) : ((l.map iRow).all fun r => r.all plainT) = true := by
  rw [List.all_map, List.all_eq_true]
  exact fun x _ => rfl
theorem big_41 {x : Nat} (h : x ≤ 2 ^ 22) : ¬ x * (40 + 1) > bigRow := by
  have h1 := Nat.mul_le_mul_right (40 + 1) h
  have h2 : (2 ^ 22 * (40 + 1) : Nat) ≤ bigRow := by decide
  omega
set_option maxHeartbeats 1000000 in
theorem runs_l12_0 (l : List ByteArray) (hl : l.length = 12) (hsz : ∀ s ∈ l, s.size ≤ 2 ^ 20) (f k : Nat) (hk : k < 12) (hd : deepOk l f k) (p : ByteArray) (hp : p.size + 10 * f ≤ 1000) (hf : lim f ≤ 2 ^ 20)
    (ih : ∀ g, f = g + 1 → ∀ (k : Nat) (p : ByteArray), k < 12 → deepOk l g k → p.size + 10 * g ≤ 1000 → lim g ≤ 2 ^ 20 →
      Runs Try.prog 74 [.one (.v (.list false 1 (l.map sRow))), .one (.v (.int .i64 k)), .one (.v (.str p))] [.one (.v (.list true 3 ((itemsG l g k p).map iRow)))] []) :
    Runs Try.prog 74 [.one (.v (.list false 1 (l.map sRow))), .one (.v (.int .i64 k)), .one (.v (.str p))] [.one (.v (.list true 3 ((itemsG l f k p).map iRow)))] [] := by
  refine runs_tab (tab := [(0, .c (.list false 1 (l.map sRow))), (1, .c (.int .i64 k)), (2, .c (.str p))]) (rts := []) (n := 70) (k := 3) Try.func74 rfl rfl (by simp) rfl (fun t => ?_) rfl ?_
  · rcases t with _ | _ | _ | t <;> rfl
  obtain ⟨g, rfl, hok, hkd⟩ := deep_step hd
  have hG : itemsG l (g + 1) k p = itemsK l (itemsG l g) (nodeRead (l.getD k ⟨#[]⟩)).1.names (nodeRead (l.getD k ⟨#[]⟩)).1.kids p := rfl
  rw [hG]
  have hnk := nodeOk_kids (nodeRead_ok hok)
  have hfew := nodeRead_few (l.getD k ⟨#[]⟩)
  have hnm : ∀ y ∈ (nodeRead (l.getD k ⟨#[]⟩)).1.names, y.size ≤ 6 ∧ 1 ≤ y.size := by
    intro y hy
    have hO := nodeRead_ok hok
    rcases hdd : (nodeRead (l.getD k ⟨#[]⟩)).1.dir with _ | _
    · obtain ⟨h1, _⟩ := nodeOk_file hdd hO
      rw [List.eq_nil_of_length_eq_zero h1] at hy; cases hy
    · obtain ⟨_, _, h3⟩ := nodeOk_dir hdd hO
      obtain ⟨i, hi, rfl⟩ := List.getElem_of_mem hy
      have := nodeAt_out (h3 i hi)
      rw [List.getD_eq_getElem?_getD, List.getElem?_eq_getElem hi] at this
      have h6 : ((nodeRead (l.getD k ⟨#[]⟩)).1.names[i]).size ≤ 6 ∧ 1 ≤ ((nodeRead (l.getD k ⟨#[]⟩)).1.names[i]).size := ⟨by simpa using this.1, by simpa using this.2.1⟩
      exact h6
  clear hG hd
  obtain ⟨s, hs⟩ : ∃ s, l[k]? = some s := ⟨_, List.getElem?_eq_getElem (by omega)⟩
  have rA := runs_123 s (hsz s (List.mem_of_getElem? hs)) _ rfl
  rw [getD_of hs] at hok hkd hnk hfew hnm ⊢
  generalize nodeRead s = r at rA hok hkd hnk hfew hnm ⊢
  obtain ⟨n, ok⟩ := r
  simp only at rA hok hkd hnk hfew hnm ⊢
  subst hok
  have c0 : (0:Int) ≤ (k : Int) := by omega
  have c1 : (k : Int) < (l.length : Int) := by omega
  have c3 : k < l.length := by omega
  have bn : List.take n.names.length (n.names.map sRow) = n.names.map sRow := List.take_of_length_le (by simp)
  have bk : List.take n.kids.length (n.kids.map nRow) = n.kids.map nRow := List.take_of_length_le (by simp)
  (refine vw_go rfl ?_; simp only [go_sem, setCells, setIn, Int.reduceToNat, Int.reduceEq, Int.reduceLT, Int.reduceLE, Int.reduceNeg, Int.reduceSub, Int.reduceAdd, ge_iff_le, gt_iff_lt, ↓reduceIte, Nat.reduceEqDiff, Nat.reduceAdd, Nat.reduceMul, Nat.reduceLT, Nat.reduceLeDiff, Nat.reduceBEq, reduceCtorEq])
  (refine vw_go rfl ?_; simp only [range1, List.replicate_succ, List.replicate_zero, List.flatten_cons, List.flatten_nil, List.range_zero, gt_iff_lt, go_sem, setCells, setIn, Int.reduceToNat, Int.reduceEq, Int.reduceLT, Int.reduceLE, Int.reduceNeg, Int.reduceSub, Int.reduceAdd, ge_iff_le, gt_iff_lt, ↓reduceIte, Nat.reduceEqDiff, Nat.reduceAdd, Nat.reduceMul, Nat.reduceLT, Nat.reduceLeDiff, Nat.reduceBEq, reduceCtorEq])
  (refine vw_go rfl ?_; simp only [c0, c1, c3, Int.toNat_natCast, getD_map_of hs, sRow, go_sem, setCells, setIn, Int.reduceToNat, Int.reduceEq, Int.reduceLT, Int.reduceLE, Int.reduceNeg, Int.reduceSub, Int.reduceAdd, ge_iff_le, gt_iff_lt, ↓reduceIte, Nat.reduceEqDiff, Nat.reduceAdd, Nat.reduceMul, Nat.reduceLT, Nat.reduceLeDiff, Nat.reduceBEq, reduceCtorEq])
  (refine ⟨_, _, call_rx [0] Try.func123 (rA) rfl rfl rfl rfl rfl rfl rfl (by simp [lendAll, lendC, seek, fresh, nav, rcells, RT.cells, VV.cells, tabE_cons, tabS_cons, ev, take_map_len, sRow_r1, sRow_comp, sRow_clean, nRow_r1, nRow_comp, nRow_clean, iRow_clean, iRow_r1]) rfl (by simp [rcells, RT.cells, CT.clean, T.clean, sRow_r1, sRow_comp, sRow_clean, nRow_r1, nRow_comp, nRow_clean, iRow_clean, iRow_r1]) rfl rfl, ?_⟩)
  simp only [runH, runX, bn, bk, go_sem, setCells, setIn, Int.reduceToNat, Int.reduceEq, Int.reduceLT, Int.reduceLE, Int.reduceNeg, Int.reduceSub, Int.reduceAdd, ge_iff_le, gt_iff_lt, ↓reduceIte, Nat.reduceEqDiff, Nat.reduceAdd, Nat.reduceMul, Nat.reduceLT, Nat.reduceLeDiff, Nat.reduceBEq, reduceCtorEq]
  refine vw_seq ?_
  (refine vw_go rfl ?_; simp only [go_sem, setCells, setIn, Int.reduceToNat, Int.reduceEq, Int.reduceLT, Int.reduceLE, Int.reduceNeg, Int.reduceSub, Int.reduceAdd, ge_iff_le, gt_iff_lt, ↓reduceIte, Nat.reduceEqDiff, Nat.reduceAdd, Nat.reduceMul, Nat.reduceLT, Nat.reduceLeDiff, Nat.reduceBEq, reduceCtorEq])
  refine vw_block ?_
  refine vw_loop_tab (α := Nat × List It3 × List Path) (fun x => n.names.length - x.1) (fun x => ⟨tabE [(0, .c (.list false 1 (l.map sRow))), (2, .c (.str p)), (7, .al 4 [] 0 3 0 x.2.1.length), (8, .ptr 3 [] 0 0 0), (10, .c (.int .i64 x.1))],
      tabS [(3, some ⟨true, 4, [[.bool n.dir, .list true 1 (n.names.map sRow), .list true 1 (n.kids.map nRow), .str n.data]], [[(0, 1)], [(0, 2)]]⟩), (4, some ⟨false, 3, x.2.1.map iRow, x.2.2⟩)], 5⟩)
    (fun x => x.1 ≤ n.names.length ∧ x.2.1 ++ itemsK l (itemsG l g) (n.names.drop x.1) (n.kids.drop x.1) p = itemsK l (itemsG l g) n.names n.kids p ∧ x.2.1.length + (n.kids.length - x.1) * (1 + lim g) ≤ 2 ^ 20) (x := (0, [], [])) ?round ?h0 ?hn
  case h0 =>
    refine ⟨Nat.zero_le _, rfl, ?_⟩
    have := Nat.mul_le_mul_right (1 + lim g) hfew.1
    simp only [lim, Nat.sub_zero, List.length_nil] at hf ⊢
    omega
  case hn =>
    (refine norm_to [(65539, 4), (139267, 3)] rfl ?_ ?_ <;> simp only [go_sem, Int.reduceToNat, Int.reduceEq, Int.reduceLT, Int.reduceLE, Int.reduceNeg, Int.reduceSub, Int.reduceAdd, ge_iff_le, gt_iff_lt, ↓reduceIte, Nat.reduceEqDiff, Nat.reduceAdd, Nat.reduceMul, Nat.reduceLT, Nat.reduceLeDiff, Nat.reduceBEq, reduceCtorEq])
  rintro ⟨i, q, lg⟩ ⟨hi, hg, hlen⟩
  simp only at hi hg hlen
  refine vw_seq ?_
  by_cases hc : (i : Int) < n.names.length
  case neg =>
    rw [List.drop_eq_nil_of_le (by omega), List.drop_eq_nil_of_le (by omega)] at hg
    have e0 : itemsK l (itemsG l g) [] [] p = [] := by unfold itemsK; rfl
    rw [e0, List.append_nil] at hg
    rw [← hg]
    have bq : List.take q.length (q.map iRow) = q.map iRow := List.take_of_length_le (by simp)
    (refine vw_go rfl ?_; simp only [hc, List.drop_length, go_sem, setCells, setIn, Int.reduceToNat, Int.reduceEq, Int.reduceLT, Int.reduceLE, Int.reduceNeg, Int.reduceSub, Int.reduceAdd, ge_iff_le, gt_iff_lt, ↓reduceIte, Nat.reduceEqDiff, Nat.reduceAdd, Nat.reduceMul, Nat.reduceLT, Nat.reduceLeDiff, Nat.reduceBEq, reduceCtorEq])
    (refine vw_cond (t := false) rfl (fun h => nomatch h) (fun _ => ?_))
    refine vw_exit (x_then (x_then (x_block (n_then ?_))))
    (refine vw_go rfl ?_; simp only [go_sem, setCells, setIn, Int.reduceToNat, Int.reduceEq, Int.reduceLT, Int.reduceLE, Int.reduceNeg, Int.reduceSub, Int.reduceAdd, ge_iff_le, gt_iff_lt, ↓reduceIte, Nat.reduceEqDiff, Nat.reduceAdd, Nat.reduceMul, Nat.reduceLT, Nat.reduceLeDiff, Nat.reduceBEq, reduceCtorEq])
    exact vw_ret (e_ret (ret_by rfl rfl (by simp [RB]) rfl (by simp only [takeCs, takeC, bq, go_sem, setCells, setIn, Int.reduceToNat, Int.reduceEq, Int.reduceLT, Int.reduceLE, Int.reduceNeg, Int.reduceSub, Int.reduceAdd, ge_iff_le, gt_iff_lt, ↓reduceIte, Nat.reduceEqDiff, Nat.reduceAdd, Nat.reduceMul, Nat.reduceLT, Nat.reduceLeDiff, Nat.reduceBEq, reduceCtorEq])))
  have hin : i < n.names.length := by omega
  have hik : i < n.kids.length := by omega
  obtain ⟨a, ha⟩ : ∃ a, n.names[i]? = some a := ⟨_, List.getElem?_eq_getElem hin⟩
  obtain ⟨y, hy⟩ : ∃ y, n.kids[i]? = some y := ⟨_, List.getElem?_eq_getElem hik⟩
  have hda : n.names.drop i = a :: n.names.drop (i + 1) := by
    rw [List.drop_eq_getElem_cons hin]
    congr 1
    rw [List.getElem?_eq_getElem hin] at ha
    exact Option.some.inj ha
  have hdk : n.kids.drop i = y :: n.kids.drop (i + 1) := by
    rw [List.drop_eq_getElem_cons hik]
    congr 1
    rw [List.getElem?_eq_getElem hik] at hy
    exact Option.some.inj hy
  have hyr := hnk.1 y (List.mem_of_getElem? hy)
  have hyd := hkd y (List.mem_of_getElem? hy)
  have has := hnm a (List.mem_of_getElem? ha)
  obtain ⟨z, rfl⟩ : ∃ z : Nat, y = z := ⟨y.toNat, by omega⟩
  rw [Int.toNat_natCast] at hyd
  rw [hda, hdk, itemsK, Int.toNat_natCast] at hg
  obtain ⟨t, ht⟩ : ∃ s, l[z]? = some s := ⟨_, List.getElem?_eq_getElem (by omega)⟩
  rw [getD_of ht] at hg
  have rZ := runs_123 t (hsz t (List.mem_of_getElem? ht)) _ rfl
  generalize nodeRead t = zz at rZ hg
  obtain ⟨m, mok⟩ := zz
  simp only at rZ hg
  have d0 : (0:Int) ≤ (i : Int) := by omega
  have d1 : (i : Int) < n.kids.length := by omega
  have z0 : (0:Int) ≤ (z : Int) := by omega
  have z1 : (z : Int) < l.length := by omega
  have z2 : z < l.length := by omega
  have w3 : IntKind.wrap .i64 ((i:Int) + 1) = ((i + 1 : Nat) : Int) := by rw [wrap_i64 (by omega) (by omega)]; rfl
  have hown : (p ++ a).size ≤ p.size + 6 := by rw [ByteArray.size_append]; omega
  have A1 : p.size + a.size < 2 ^ 60 := by omega
  have A2 : (p ++ a).size + 1 < 2 ^ 60 := by omega
  have bn2 : List.take m.names.length (m.names.map sRow) = m.names.map sRow := List.take_of_length_le (by simp)
  have bk2 : List.take m.kids.length (m.kids.map nRow) = m.kids.map nRow := List.take_of_length_le (by simp)
  have bq : List.take q.length (q.map iRow) = q.map iRow := List.take_of_length_le (by simp)
  have hmul : (1 + lim g) ≤ (n.kids.length - i) * (1 + lim g) := Nat.le_mul_of_pos_left _ (by omega)
  have hmul2 : (n.kids.length - i) * (1 + lim g) = (n.kids.length - (i + 1)) * (1 + lim g) + (1 + lim g) := by
    rw [show n.kids.length - i = (n.kids.length - (i + 1)) + 1 from by omega, Nat.add_mul, Nat.one_mul]
  have B1 : ¬ (q.length + 1 + 1) * (40 + 1) > bigRow := big_41 (by omega)
  (refine vw_go rfl ?_; simp only [hc, List.drop_length, go_sem, setCells, setIn, Int.reduceToNat, Int.reduceEq, Int.reduceLT, Int.reduceLE, Int.reduceNeg, Int.reduceSub, Int.reduceAdd, ge_iff_le, gt_iff_lt, ↓reduceIte, Nat.reduceEqDiff, Nat.reduceAdd, Nat.reduceMul, Nat.reduceLT, Nat.reduceLeDiff, Nat.reduceBEq, reduceCtorEq])
  (refine vw_cond (t := true) rfl (fun _ => ?_) (fun h => nomatch h))
  refine vw_skip (n_then ?_)
  refine vw_seq ?_
  refine vw_block ?_
  (refine vw_go rfl ?_; simp only [d0, d1, hik, z0, z1, z2, Int.toNat_natCast, getD_map_of hy, getD_map_of ht, nRow, sRow, List.drop_length, go_sem, setCells, setIn, Int.reduceToNat, Int.reduceEq, Int.reduceLT, Int.reduceLE, Int.reduceNeg, Int.reduceSub, Int.reduceAdd, ge_iff_le, gt_iff_lt, ↓reduceIte, Nat.reduceEqDiff, Nat.reduceAdd, Nat.reduceMul, Nat.reduceLT, Nat.reduceLeDiff, Nat.reduceBEq, reduceCtorEq])
  (refine ⟨_, _, call_rx [0] Try.func123 (rZ) rfl rfl rfl rfl rfl rfl rfl (by simp [lendAll, lendC, seek, fresh, nav, rcells, RT.cells, VV.cells, tabE_cons, tabS_cons, ev, take_map_len, sRow_r1, sRow_comp, sRow_clean, nRow_r1, nRow_comp, nRow_clean, iRow_clean, iRow_r1]) rfl (by simp [rcells, RT.cells, CT.clean, T.clean, sRow_r1, sRow_comp, sRow_clean, nRow_r1, nRow_comp, nRow_clean, iRow_clean, iRow_r1]) rfl rfl, ?_⟩)
  simp only [runH, runX, bn2, bk2, go_sem, setCells, setIn, Int.reduceToNat, Int.reduceEq, Int.reduceLT, Int.reduceLE, Int.reduceNeg, Int.reduceSub, Int.reduceAdd, ge_iff_le, gt_iff_lt, ↓reduceIte, Nat.reduceEqDiff, Nat.reduceAdd, Nat.reduceMul, Nat.reduceLT, Nat.reduceLeDiff, Nat.reduceBEq, reduceCtorEq]
  (refine vw_go rfl ?_; simp only [d0, hc, hin, Int.toNat_natCast, getD_map_of ha, sRow, List.drop_length, A1, go_sem, setCells, setIn, Int.reduceToNat, Int.reduceEq, Int.reduceLT, Int.reduceLE, Int.reduceNeg, Int.reduceSub, Int.reduceAdd, ge_iff_le, gt_iff_lt, ↓reduceIte, Nat.reduceEqDiff, Nat.reduceAdd, Nat.reduceMul, Nat.reduceLT, Nat.reduceLeDiff, Nat.reduceBEq, reduceCtorEq])
  generalize p ++ a = own at hg hown A2 ⊢
  (refine vw_go rfl ?_; simp only [bq, B1, List.drop_length, List.length_append, range1, List.replicate_succ, List.replicate_zero, List.flatten_cons, List.flatten_nil, List.range_zero, gt_iff_lt, take_snocI, go_sem, setCells, setIn, Int.reduceToNat, Int.reduceEq, Int.reduceLT, Int.reduceLE, Int.reduceNeg, Int.reduceSub, Int.reduceAdd, ge_iff_le, gt_iff_lt, ↓reduceIte, Nat.reduceEqDiff, Nat.reduceAdd, Nat.reduceMul, Nat.reduceLT, Nat.reduceLeDiff, Nat.reduceBEq, reduceCtorEq])
  have e4 : q.map iRow ++ [[.str own, .bool m.dir, .str m.data]] = (q ++ [((own, m.dir, m.data) : It3)]).map iRow := by simp [iRow]
  have e5 : q.length + 1 = (q ++ [((own, m.dir, m.data) : It3)]).length := by simp
  rw [e4, e5]
  have hq1 : (q ++ [((own, m.dir, m.data) : It3)]).length = q.length + 1 := by simp
  have hg' : (q ++ [((own, m.dir, m.data) : It3)]) ++ (itemsG l g z (own ++ ⟨#[47]⟩) ++ itemsK l (itemsG l g) (n.names.drop (i + 1)) (n.kids.drop (i + 1)) p) = itemsK l (itemsG l g) n.names n.kids p := by
    rw [← hg]; simp
  generalize q ++ [((own, m.dir, m.data) : It3)] = q1 at hq1 hg' ⊢
  have hsl : (own ++ (⟨#[47]⟩ : ByteArray)).size = own.size + 1 := by rw [ByteArray.size_append]; rfl
  have rI := ih g rfl z (own ++ ⟨#[47]⟩) (by omega) hyd (by omega) (by simp only [lim] at hf; omega)
  have hgl := itemsG_len l g z (own ++ ⟨#[47]⟩)
  generalize itemsG l g z (own ++ ⟨#[47]⟩) = it at rI hg' hgl
  have bq1 : List.take q1.length (q1.map iRow) = q1.map iRow := List.take_of_length_le (by simp)
  have bit : List.take it.length (it.map iRow) = it.map iRow := List.take_of_length_le (by simp)
  have B2 : ¬ (q1.length + it.length + 1) * (40 + 1) > bigRow := big_41 (by clear rI rA rZ ih hg hg'; omega)
  (refine vw_last rfl ?_; simp only [d0, d1, hik, Int.toNat_natCast, getD_map_of hy, nRow, List.drop_length, A2, ByteArray.size_append, sz_lit, List.size_toArray, List.length_cons, List.length_nil, go_sem, setCells, setIn, Int.reduceToNat, Int.reduceEq, Int.reduceLT, Int.reduceLE, Int.reduceNeg, Int.reduceSub, Int.reduceAdd, ge_iff_le, gt_iff_lt, ↓reduceIte, Nat.reduceEqDiff, Nat.reduceAdd, Nat.reduceMul, Nat.reduceLT, Nat.reduceLeDiff, Nat.reduceBEq, reduceCtorEq])
  (refine ⟨_, _, call_rx [0, 0, 0] Try.func74 (rI) rfl rfl rfl rfl rfl rfl rfl (by simp [lendAll, lendC, seek, fresh, nav, rcells, RT.cells, VV.cells, tabE_cons, tabS_cons, ev, take_map_len, sRow_r1, sRow_comp, sRow_clean, nRow_r1, nRow_comp, nRow_clean, iRow_clean, iRow_r1]) rfl (by simp [rcells, RT.cells, CT.clean, T.clean, sRow_r1, sRow_comp, sRow_clean, nRow_r1, nRow_comp, nRow_clean, iRow_clean, iRow_r1]) rfl rfl, ?_⟩)
  simp only [runH, runX, bq1, bit, B2, List.drop_length, List.length_append, range1, List.replicate_succ, List.replicate_zero, List.flatten_cons, List.flatten_nil, List.range_zero, gt_iff_lt, iRow_noOwn, go_sem, setCells, setIn, Int.reduceToNat, Int.reduceEq, Int.reduceLT, Int.reduceLE, Int.reduceNeg, Int.reduceSub, Int.reduceAdd, ge_iff_le, gt_iff_lt, ↓reduceIte, Nat.reduceEqDiff, Nat.reduceAdd, Nat.reduceMul, Nat.reduceLT, Nat.reduceLeDiff, Nat.reduceBEq, reduceCtorEq]
  refine (n_block (n_then ?_))
  (refine vw_last rfl ?_; simp only [w3, go_sem, setCells, setIn, Int.reduceToNat, Int.reduceEq, Int.reduceLT, Int.reduceLE, Int.reduceNeg, Int.reduceSub, Int.reduceAdd, ge_iff_le, gt_iff_lt, ↓reduceIte, Nat.reduceEqDiff, Nat.reduceAdd, Nat.reduceMul, Nat.reduceLT, Nat.reduceLeDiff, Nat.reduceBEq, reduceCtorEq])
  refine (n_then ?_)
  have e6 : q1.map iRow ++ it.map iRow = (q1 ++ it).map iRow := by simp
  have e7 : q1.length + it.length = (q1 ++ it).length := by simp
  rw [← List.append_assoc] at hg'
  have hq2 : (q1 ++ it).length ≤ q.length + 1 + lim g := by rw [List.length_append]; omega
  rw [e6, e7]
  generalize q1 ++ it = q2 at hg' hq2 ⊢
  refine ⟨(i + 1, q2, []), by simp only; omega, ⟨by simp only; omega, hg', by simp only; omega⟩, ?_⟩
  (refine norm_to [(272389, 4), (3, 3)] rfl ?_ ?_ <;> simp only [go_sem, Int.reduceToNat, Int.reduceEq, Int.reduceLT, Int.reduceLE, Int.reduceNeg, Int.reduceSub, Int.reduceAdd, ge_iff_le, gt_iff_lt, ↓reduceIte, Nat.reduceEqDiff, Nat.reduceAdd, Nat.reduceMul, Nat.reduceLT, Nat.reduceLeDiff, Nat.reduceBEq, reduceCtorEq])

theorem runs_74 (l : List ByteArray) (hl : l.length = 12) (hsz : ∀ s ∈ l, s.size ≤ 2 ^ 20) : ∀ (f k : Nat) (p : ByteArray), k < 12 → deepOk l f k → p.size + 10 * f ≤ 1000 → lim f ≤ 2 ^ 20 →
    Runs Try.prog 74 [.one (.v (.list false 1 (l.map sRow))), .one (.v (.int .i64 k)), .one (.v (.str p))] [.one (.v (.list true 3 ((itemsG l f k p).map iRow)))] []
  | 0, k, p, hk, hd, hp, ho => runs_l12_0 l hl hsz 0 k hk hd p hp ho (fun g e => by omega)
  | f + 1, k, p, hk0, hd0, hp0, ho0 => runs_l12_0 l hl hsz (f + 1) k hk0 hd0 p hp0 ho0 (fun g e k p hk hd hp ho => by
      have e' : g = f := by omega
      subst e'
      exact runs_74 l hl hsz g k p hk hd hp ho)

theorem runs_11 (l : List ByteArray) (hl : l.length < 2 ^ 60) (hsz : ∀ s ∈ l, s.size ≤ 2 ^ 20) : Runs Try.prog 11 [.one (.v (.list false 1 (l.map sRow)))] [.one (.v (.list true 3 ((itemsV l).map iRow)))] [] := by
  refine runs_tab (tab := [(0, .c (.list false 1 (l.map sRow)))]) (rts := []) (n := 9) (k := 1) Try.func11 rfl rfl (by simp) rfl (fun t => ?_) rfl ?_
  · rcases t with _ | t <;> rfl
  have rV := runs_65 l hl hsz
  unfold itemsV
  (refine vw_go rfl ?_; simp only [go_sem, setCells, setIn, Int.reduceToNat, Int.reduceEq, Int.reduceLT, Int.reduceLE, Int.reduceNeg, Int.reduceSub, Int.reduceAdd, ge_iff_le, gt_iff_lt, ↓reduceIte, Nat.reduceEqDiff, Nat.reduceAdd, Nat.reduceMul, Nat.reduceLT, Nat.reduceLeDiff, Nat.reduceBEq, reduceCtorEq])
  refine vw_seq ?_
  (refine vw_go rfl ?_; simp only [go_sem, setCells, setIn, Int.reduceToNat, Int.reduceEq, Int.reduceLT, Int.reduceLE, Int.reduceNeg, Int.reduceSub, Int.reduceAdd, ge_iff_le, gt_iff_lt, ↓reduceIte, Nat.reduceEqDiff, Nat.reduceAdd, Nat.reduceMul, Nat.reduceLT, Nat.reduceLeDiff, Nat.reduceBEq, reduceCtorEq])
  (refine ⟨_, _, call_rx [0] Try.func65 (rV) rfl rfl rfl rfl rfl rfl rfl (by simp [lendAll, lendC, seek, fresh, nav, rcells, RT.cells, VV.cells, tabE_cons, tabS_cons, ev, take_map_len, sRow_r1, sRow_comp, sRow_clean, nRow_r1, nRow_comp, nRow_clean, iRow_clean, iRow_r1]) rfl (by simp [rcells, RT.cells, CT.clean, T.clean, sRow_r1, sRow_comp, sRow_clean, nRow_r1, nRow_comp, nRow_clean, iRow_clean, iRow_r1]) rfl rfl, ?_⟩)
  cases hv : volOk l
  · simp only [runH, runX, go_sem, setCells, setIn, Int.reduceToNat, Int.reduceEq, Int.reduceLT, Int.reduceLE, Int.reduceNeg, Int.reduceSub, Int.reduceAdd, ge_iff_le, gt_iff_lt, ↓reduceIte, Nat.reduceEqDiff, Nat.reduceAdd, Nat.reduceMul, Nat.reduceLT, Nat.reduceLeDiff, Nat.reduceBEq, reduceCtorEq]
    (refine vw_cond (t := true) rfl (fun _ => ?_) (fun h => nomatch h))
    (refine vw_go rfl ?_; simp only [range1, List.replicate_succ, List.replicate_zero, List.flatten_cons, List.flatten_nil, List.range_zero, gt_iff_lt, go_sem, setCells, setIn, Int.reduceToNat, Int.reduceEq, Int.reduceLT, Int.reduceLE, Int.reduceNeg, Int.reduceSub, Int.reduceAdd, ge_iff_le, gt_iff_lt, ↓reduceIte, Nat.reduceEqDiff, Nat.reduceAdd, Nat.reduceMul, Nat.reduceLT, Nat.reduceLeDiff, Nat.reduceBEq, reduceCtorEq])
    exact vw_ret (r_then (e_ret (ret_of rfl rfl (by simp [RB]) rfl rfl)))
  obtain ⟨h12, hd⟩ := volOk_deep hv
  have rI := runs_74 l h12 hsz 5 0 ⟨#[]⟩ (by decide) hd (by decide) (by decide)
  have bi : List.take (itemsG l 5 0 ⟨#[]⟩).length ((itemsG l 5 0 ⟨#[]⟩).map iRow) = (itemsG l 5 0 ⟨#[]⟩).map iRow := List.take_of_length_le (by simp)
  simp only [runH, runX, go_sem, setCells, setIn, Int.reduceToNat, Int.reduceEq, Int.reduceLT, Int.reduceLE, Int.reduceNeg, Int.reduceSub, Int.reduceAdd, ge_iff_le, gt_iff_lt, ↓reduceIte, Nat.reduceEqDiff, Nat.reduceAdd, Nat.reduceMul, Nat.reduceLT, Nat.reduceLeDiff, Nat.reduceBEq, reduceCtorEq]
  (refine vw_cond (t := false) rfl (fun h => nomatch h) (fun _ => ?_))
  refine vw_skip (n_then ?_)
  (refine vw_go rfl ?_; simp only [go_sem, setCells, setIn, Int.reduceToNat, Int.reduceEq, Int.reduceLT, Int.reduceLE, Int.reduceNeg, Int.reduceSub, Int.reduceAdd, ge_iff_le, gt_iff_lt, ↓reduceIte, Nat.reduceEqDiff, Nat.reduceAdd, Nat.reduceMul, Nat.reduceLT, Nat.reduceLeDiff, Nat.reduceBEq, reduceCtorEq])
  (refine ⟨_, _, call_rx [0, 0, 0] Try.func74 (rI) rfl rfl rfl rfl rfl rfl rfl (by simp [lendAll, lendC, seek, fresh, nav, rcells, RT.cells, VV.cells, tabE_cons, tabS_cons, ev, take_map_len, lit, sRow_r1, sRow_comp, sRow_clean, nRow_r1, nRow_comp, nRow_clean, iRow_clean, iRow_r1]) rfl (by simp [rcells, RT.cells, CT.clean, T.clean, lit, sRow_r1, sRow_comp, sRow_clean, nRow_r1, nRow_comp, nRow_clean, iRow_clean, iRow_r1]) rfl rfl, ?_⟩)
  simp only [runH, runX, go_sem, setCells, setIn, Int.reduceToNat, Int.reduceEq, Int.reduceLT, Int.reduceLE, Int.reduceNeg, Int.reduceSub, Int.reduceAdd, ge_iff_le, gt_iff_lt, ↓reduceIte, Nat.reduceEqDiff, Nat.reduceAdd, Nat.reduceMul, Nat.reduceLT, Nat.reduceLeDiff, Nat.reduceBEq, reduceCtorEq]
  exact vw_ret (e_ret (ret_by rfl rfl (by simp [RB]) rfl (by simp only [takeCs, takeC, go_sem, setCells, setIn, Int.reduceToNat, Int.reduceEq, Int.reduceLT, Int.reduceLE, Int.reduceNeg, Int.reduceSub, Int.reduceAdd, ge_iff_le, gt_iff_lt, ↓reduceIte, Nat.reduceEqDiff, Nat.reduceAdd, Nat.reduceMul, Nat.reduceLT, Nat.reduceLeDiff, Nat.reduceBEq, reduceCtorEq])))
end Go.Proofs.Ytppbonbghmdhhaa
