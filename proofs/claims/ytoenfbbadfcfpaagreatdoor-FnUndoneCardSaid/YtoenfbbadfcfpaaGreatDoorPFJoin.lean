/- The laws' first question: is the argument big. Items: what a volume has, as the reference tells it. Plain of the program: what is moved. What the library's strings.Join and math/bits.Len do, at this program's numbers: written by the shelf's tools. strings.Join and math/bits.Len of the library, as contracts. -/
import Derived.Test.YtoenfbbadfcfpaaGreatDoorPFUndo
import Derived.Test.YtoenfbbadfcfpaaGreatDoorPFItems
import Derived.Test.YtoenfbbadfcfpaaGreatDoorPFPlainI
import Derived.Shelf.Strings.OnBuilder
import Derived.Shelf.Small.Bits
import Derived.Shelf.LaysM
import Derived.Test.YtoenfbbadfcfpaaGreatDoorProg
import Derived.Test.YtoenfbbadfcfpaaGreatDoorPFDraw
namespace Go.Proofs.YtoenfbbadfcfpaaGreatDoor
open Go.VM Go
set_option maxRecDepth 100000
set_option linter.unusedSimpArgs false
set_option linter.unusedVariables false
attribute [-go_sem] runW_cons
attribute [local congr] vw_congr runV_congr runH_congr runW_congr runX_congr stuckV_congr stuckX_congr

theorem typed_bytes {k : Nat} {ts : List T} (h : typed Tryz.prog (k + 4) 36 ts) : ∃ l : List UInt8, ts = [.list false 1 (l.map bRow)] ∧ l.length < 2 ^ 63 := by
  simp only [typed, Tryz.underlying36, Tryz.underlying5, cellsOf_5] at h
  obtain ⟨rows, rfl, hlen, hrows⟩ := h
  obtain ⟨l, rfl, hl⟩ := map_of (f := bRow) (Q := fun _ => True) (rows := rows) (fun r hr => by
    obtain ⟨i, rfl, hs⟩ := hrows r hr
    simp only [Lit.wf, Bool.and_eq_true, decide_eq_true_eq] at hs
    have h0 : IntKind.min .u8 = 0 := by decide
    have h1 : IntKind.max .u8 = 255 := by decide
    rw [h0, h1] at hs
    refine ⟨UInt8.ofNat i.toNat, ?_, trivial⟩
    have e : ((UInt8.ofNat i.toNat).toNat : Int) = i := by
      rw [UInt8.toNat_ofNat']; omega
    simp only [bRow, e])
  exact ⟨l, rfl, by simpa using hlen⟩

theorem runs_15 (L : List UInt8) (hL : L.length < 2 ^ 63) : Runs Tryz.prog 15 [.one (.v (.list false 1 (L.map bRow)))] [.one (.v (.bool (decide (1048576 < (L.length : Int)))))] [] := by
  refine runs_tab (tab := [(0, .c (.list false 1 (L.map bRow)))]) (rts := []) (n := 6) (k := 1) Tryz.func15 rfl rfl (by simp) rfl (fun t => ?_) rfl ?_
  · rcases t with _ | t <;> rfl
  (refine vw_go rfl ?_; simp only [go_sem, setCells, setIn])
  (refine vw_go rfl ?_; simp only [go_sem, setCells, setIn])
  exact vw_ret (e_ret (ret_of rfl rfl (by simp [RB]) rfl rfl))

end Go.Proofs.YtoenfbbadfcfpaaGreatDoor
namespace Go.Proofs.YtoenfbbadfcfpaaGreatDoor
open Go.VM Go
set_option maxRecDepth 100000
set_option linter.unusedSimpArgs false
set_option linter.unusedVariables false
attribute [local congr] vw_congr runV_congr runH_congr runW_congr runX_congr stuckV_congr stuckX_congr

theorem iRow_noOwn (l : List It3) : ((l.map iRow).all fun r => r.all plainT) = true := by
  rw [List.all_map, List.all_eq_true]
  exact fun x _ => rfl
theorem big_41 {x : Nat} (h : x ≤ 2 ^ 22) : ¬ x * (40 + 1) > bigRow := by
  have h1 := Nat.mul_le_mul_right (40 + 1) h
  have h2 : (2 ^ 22 * (40 + 1) : Nat) ≤ bigRow := by decide
  omega
set_option maxHeartbeats 1000000 in
theorem runs_l12_0 (l : List ByteArray) (hl : l.length = 12) (hsz : ∀ s ∈ l, s.size ≤ 2 ^ 20) (f k : Nat) (hk : k < 12) (hd : deepOk l f k) (p : ByteArray) (hp : p.size + 10 * f ≤ 1000) (hf : lim f ≤ 2 ^ 20)
    (ih : ∀ g, f = g + 1 → ∀ (k : Nat) (p : ByteArray), k < 12 → deepOk l g k → p.size + 10 * g ≤ 1000 → lim g ≤ 2 ^ 20 →
      Runs Tryz.prog 47 [.one (.v (.list false 1 (l.map sRow))), .one (.v (.int .i64 k)), .one (.v (.str p))] [.one (.v (.list true 3 ((itemsG l g k p).map iRow)))] []) :
    Runs Tryz.prog 47 [.one (.v (.list false 1 (l.map sRow))), .one (.v (.int .i64 k)), .one (.v (.str p))] [.one (.v (.list true 3 ((itemsG l f k p).map iRow)))] [] := by
  refine runs_tab (tab := [(0, .c (.list false 1 (l.map sRow))), (1, .c (.int .i64 k)), (2, .c (.str p))]) (rts := []) (n := 70) (k := 3) Tryz.func47 rfl rfl (by simp) rfl (fun t => ?_) rfl ?_
  · rcases t with _ | _ | _ | t <;> rfl
  obtain ⟨g, rfl, hok, hkd⟩ := deep_step hd
  have hG : itemsG l (g + 1) k p = itemsK l (itemsG l g) (nodeRead (l.getD k ⟨#[]⟩)).1.names (nodeRead (l.getD k ⟨#[]⟩)).1.kids p := rfl
  rw [hG]
  have hnk := nodeOk_kids (nodeRead_ok hok)
  have hfew := nodeRead_few (l.getD k ⟨#[]⟩)
  have hnm : ∀ y ∈ (nodeRead (l.getD k ⟨#[]⟩)).1.names, y.size ≤ 6 ∧ 1 ≤ y.size := by
    intro y hy
    have hO := nodeRead_ok hok
    rcases hdd : (nodeRead (l.getD k ⟨#[]⟩)).1.dir with _ | _
    · obtain ⟨h1, _⟩ := nodeOk_file hdd hO
      rw [List.eq_nil_of_length_eq_zero h1] at hy; cases hy
    · obtain ⟨_, _, h3⟩ := nodeOk_dir hdd hO
      obtain ⟨i, hi, rfl⟩ := List.getElem_of_mem hy
      have := nodeAt_out (h3 i hi)
      rw [List.getD_eq_getElem?_getD, List.getElem?_eq_getElem hi] at this
      have h6 : ((nodeRead (l.getD k ⟨#[]⟩)).1.names[i]).size ≤ 6 ∧ 1 ≤ ((nodeRead (l.getD k ⟨#[]⟩)).1.names[i]).size := ⟨by simpa using this.1, by simpa using this.2.1⟩
      exact h6
  clear hG hd
  obtain ⟨s, hs⟩ : ∃ s, l[k]? = some s := ⟨_, List.getElem?_eq_getElem (by omega)⟩
  have rA := runs_81 s (hsz s (List.mem_of_getElem? hs)) _ rfl
  rw [getD_of hs] at hok hkd hnk hfew hnm ⊢
  generalize nodeRead s = r at rA hok hkd hnk hfew hnm ⊢
  obtain ⟨n, ok⟩ := r
  simp only at rA hok hkd hnk hfew hnm ⊢
  subst hok
  have c0 : (0:Int) ≤ (k : Int) := by omega
  have c1 : (k : Int) < (l.length : Int) := by omega
  have c3 : k < l.length := by omega
  have bn : List.take n.names.length (n.names.map sRow) = n.names.map sRow := List.take_of_length_le (by simp)
  have bk : List.take n.kids.length (n.kids.map nRow) = n.kids.map nRow := List.take_of_length_le (by simp)
  (refine vw_go rfl ?_; simp only [go_sem, setCells, setIn])
  (refine vw_go rfl ?_; simp only [range1, List.replicate_succ, List.replicate_zero, List.flatten_cons, List.flatten_nil, List.range_zero, gt_iff_lt, go_sem, setCells, setIn])
  (refine vw_go rfl ?_; simp only [c0, c1, c3, Int.toNat_natCast, getD_map_of hs, sRow, go_sem, setCells, setIn])
  (refine ⟨_, _, call_rx [0] Tryz.func81 (rA) rfl rfl rfl rfl rfl rfl rfl (by simp [lendAll, lendC, seek, fresh, nav, rcells, RT.cells, VV.cells, tabE_cons, tabS_cons, ev, take_map_len, sRow_r1, sRow_comp, sRow_clean, nRow_r1, nRow_comp, nRow_clean, iRow_clean, iRow_r1]) rfl (by simp [rcells, RT.cells, CT.clean, T.clean, sRow_r1, sRow_comp, sRow_clean, nRow_r1, nRow_comp, nRow_clean, iRow_clean, iRow_r1]) rfl rfl, ?_⟩)
  simp only [runH, runX, bn, bk, go_sem, setCells, setIn]
  refine vw_seq ?_
  (refine vw_go rfl ?_; simp only [go_sem, setCells, setIn])
  refine vw_block ?_
  refine vw_loop_tab (α := Nat × List It3 × List Path) (fun x => n.names.length - x.1) (fun x => ⟨tabE [(0, .c (.list false 1 (l.map sRow))), (2, .c (.str p)), (7, .al 4 [] 0 3 0 x.2.1.length), (8, .ptr 3 [] 0 0 0), (10, .c (.int .i64 x.1))],
      tabS [(3, some ⟨true, 4, [[.bool n.dir, .list true 1 (n.names.map sRow), .list true 1 (n.kids.map nRow), .str n.data]], [[(0, 1)], [(0, 2)]]⟩), (4, some ⟨false, 3, x.2.1.map iRow, x.2.2⟩)], 5⟩)
    (fun x => x.1 ≤ n.names.length ∧ x.2.1 ++ itemsK l (itemsG l g) (n.names.drop x.1) (n.kids.drop x.1) p = itemsK l (itemsG l g) n.names n.kids p ∧ x.2.1.length + (n.kids.length - x.1) * (1 + lim g) ≤ 2 ^ 20) (x := (0, [], [])) ?round ?h0 ?hn
  case h0 =>
    refine ⟨Nat.zero_le _, rfl, ?_⟩
    have := Nat.mul_le_mul_right (1 + lim g) hfew.1
    simp only [lim, Nat.sub_zero, List.length_nil] at hf ⊢
    omega
  case hn =>
    (refine norm_to [(65539, 4), (139267, 3)] rfl ?_ ?_ <;> simp only [go_sem])
  rintro ⟨i, q, lg⟩ ⟨hi, hg, hlen⟩
  simp only at hi hg hlen
  refine vw_seq ?_
  by_cases hc : (i : Int) < n.names.length
  case neg =>
    rw [List.drop_eq_nil_of_le (by omega), List.drop_eq_nil_of_le (by omega)] at hg
    have e0 : itemsK l (itemsG l g) [] [] p = [] := by unfold itemsK; rfl
    rw [e0, List.append_nil] at hg
    rw [← hg]
    have bq : List.take q.length (q.map iRow) = q.map iRow := List.take_of_length_le (by simp)
    (refine vw_go rfl ?_; simp only [hc, List.drop_length, go_sem, setCells, setIn])
    (refine vw_cond (t := false) rfl (fun h => nomatch h) (fun _ => ?_))
    refine vw_exit (x_then (x_then (x_block (n_then ?_))))
    (refine vw_go rfl ?_; simp only [go_sem, setCells, setIn])
    exact vw_ret (e_ret (ret_by rfl rfl (by simp [RB]) rfl (by simp only [takeCs, takeC, bq, go_sem, setCells, setIn])))
  have hin : i < n.names.length := by omega
  have hik : i < n.kids.length := by omega
  obtain ⟨a, ha⟩ : ∃ a, n.names[i]? = some a := ⟨_, List.getElem?_eq_getElem hin⟩
  obtain ⟨y, hy⟩ : ∃ y, n.kids[i]? = some y := ⟨_, List.getElem?_eq_getElem hik⟩
  have hda : n.names.drop i = a :: n.names.drop (i + 1) := by
    rw [List.drop_eq_getElem_cons hin]
    congr 1
    rw [List.getElem?_eq_getElem hin] at ha
    exact Option.some.inj ha
  have hdk : n.kids.drop i = y :: n.kids.drop (i + 1) := by
    rw [List.drop_eq_getElem_cons hik]
    congr 1
    rw [List.getElem?_eq_getElem hik] at hy
    exact Option.some.inj hy
  have hyr := hnk.1 y (List.mem_of_getElem? hy)
  have hyd := hkd y (List.mem_of_getElem? hy)
  have has := hnm a (List.mem_of_getElem? ha)
  obtain ⟨z, rfl⟩ : ∃ z : Nat, y = z := ⟨y.toNat, by omega⟩
  rw [Int.toNat_natCast] at hyd
  rw [hda, hdk, itemsK, Int.toNat_natCast] at hg
  obtain ⟨t, ht⟩ : ∃ s, l[z]? = some s := ⟨_, List.getElem?_eq_getElem (by omega)⟩
  rw [getD_of ht] at hg
  have rZ := runs_81 t (hsz t (List.mem_of_getElem? ht)) _ rfl
  generalize nodeRead t = zz at rZ hg
  obtain ⟨m, mok⟩ := zz
  simp only at rZ hg
  have d0 : (0:Int) ≤ (i : Int) := by omega
  have d1 : (i : Int) < n.kids.length := by omega
  have z0 : (0:Int) ≤ (z : Int) := by omega
  have z1 : (z : Int) < l.length := by omega
  have z2 : z < l.length := by omega
  have w3 : IntKind.wrap .i64 ((i:Int) + 1) = ((i + 1 : Nat) : Int) := by rw [wrap_i64 (by omega) (by omega)]; rfl
  have hown : (p ++ a).size ≤ p.size + 6 := by rw [ByteArray.size_append]; omega
  have A1 : p.size + a.size < 2 ^ 60 := by omega
  have A2 : (p ++ a).size + 1 < 2 ^ 60 := by omega
  have bn2 : List.take m.names.length (m.names.map sRow) = m.names.map sRow := List.take_of_length_le (by simp)
  have bk2 : List.take m.kids.length (m.kids.map nRow) = m.kids.map nRow := List.take_of_length_le (by simp)
  have bq : List.take q.length (q.map iRow) = q.map iRow := List.take_of_length_le (by simp)
  have hmul : (1 + lim g) ≤ (n.kids.length - i) * (1 + lim g) := Nat.le_mul_of_pos_left _ (by omega)
  have hmul2 : (n.kids.length - i) * (1 + lim g) = (n.kids.length - (i + 1)) * (1 + lim g) + (1 + lim g) := by
    rw [show n.kids.length - i = (n.kids.length - (i + 1)) + 1 from by omega, Nat.add_mul, Nat.one_mul]
  have B1 : ¬ (q.length + 1 + 1) * (40 + 1) > bigRow := big_41 (by omega)
  (refine vw_go rfl ?_; simp only [hc, List.drop_length, go_sem, setCells, setIn])
  (refine vw_cond (t := true) rfl (fun _ => ?_) (fun h => nomatch h))
  refine vw_skip (n_then ?_)
  refine vw_seq ?_
  refine vw_block ?_
  (refine vw_go rfl ?_; simp only [d0, d1, hik, z0, z1, z2, Int.toNat_natCast, getD_map_of hy, getD_map_of ht, nRow, sRow, List.drop_length, go_sem, setCells, setIn])
  (refine ⟨_, _, call_rx [0] Tryz.func81 (rZ) rfl rfl rfl rfl rfl rfl rfl (by simp [lendAll, lendC, seek, fresh, nav, rcells, RT.cells, VV.cells, tabE_cons, tabS_cons, ev, take_map_len, sRow_r1, sRow_comp, sRow_clean, nRow_r1, nRow_comp, nRow_clean, iRow_clean, iRow_r1]) rfl (by simp [rcells, RT.cells, CT.clean, T.clean, sRow_r1, sRow_comp, sRow_clean, nRow_r1, nRow_comp, nRow_clean, iRow_clean, iRow_r1]) rfl rfl, ?_⟩)
  simp only [runH, runX, bn2, bk2, go_sem, setCells, setIn]
  (refine vw_go rfl ?_; simp only [d0, hc, hin, Int.toNat_natCast, getD_map_of ha, sRow, List.drop_length, A1, go_sem, setCells, setIn])
  generalize p ++ a = own at hg hown A2 ⊢
  (refine vw_go rfl ?_; simp only [bq, B1, List.drop_length, List.length_append, range1, List.replicate_succ, List.replicate_zero, List.flatten_cons, List.flatten_nil, List.range_zero, gt_iff_lt, take_snocI, go_sem, setCells, setIn])
  have e4 : q.map iRow ++ [[.str own, .bool m.dir, .str m.data]] = (q ++ [((own, m.dir, m.data) : It3)]).map iRow := by simp [iRow]
  have e5 : q.length + 1 = (q ++ [((own, m.dir, m.data) : It3)]).length := by simp
  rw [e4, e5]
  have hq1 : (q ++ [((own, m.dir, m.data) : It3)]).length = q.length + 1 := by simp
  have hg' : (q ++ [((own, m.dir, m.data) : It3)]) ++ (itemsG l g z (own ++ ⟨#[47]⟩) ++ itemsK l (itemsG l g) (n.names.drop (i + 1)) (n.kids.drop (i + 1)) p) = itemsK l (itemsG l g) n.names n.kids p := by
    rw [← hg]; simp
  generalize q ++ [((own, m.dir, m.data) : It3)] = q1 at hq1 hg' ⊢
  have hsl : (own ++ (⟨#[47]⟩ : ByteArray)).size = own.size + 1 := by rw [ByteArray.size_append]; rfl
  have rI := ih g rfl z (own ++ ⟨#[47]⟩) (by omega) hyd (by omega) (by simp only [lim] at hf; omega)
  have hgl := itemsG_len l g z (own ++ ⟨#[47]⟩)
  generalize itemsG l g z (own ++ ⟨#[47]⟩) = it at rI hg' hgl
  have bq1 : List.take q1.length (q1.map iRow) = q1.map iRow := List.take_of_length_le (by simp)
  have bit : List.take it.length (it.map iRow) = it.map iRow := List.take_of_length_le (by simp)
  have B2 : ¬ (q1.length + it.length + 1) * (40 + 1) > bigRow := big_41 (by clear rI rA rZ ih hg hg'; omega)
  (refine vw_last rfl ?_; simp only [d0, d1, hik, Int.toNat_natCast, getD_map_of hy, nRow, List.drop_length, A2, ByteArray.size_append, sz_lit, List.size_toArray, List.length_cons, List.length_nil, go_sem, setCells, setIn])
  (refine ⟨_, _, call_rx [0, 0, 0] Tryz.func47 (rI) rfl rfl rfl rfl rfl rfl rfl (by simp [lendAll, lendC, seek, fresh, nav, rcells, RT.cells, VV.cells, tabE_cons, tabS_cons, ev, take_map_len, sRow_r1, sRow_comp, sRow_clean, nRow_r1, nRow_comp, nRow_clean, iRow_clean, iRow_r1]) rfl (by simp [rcells, RT.cells, CT.clean, T.clean, sRow_r1, sRow_comp, sRow_clean, nRow_r1, nRow_comp, nRow_clean, iRow_clean, iRow_r1]) rfl rfl, ?_⟩)
  simp only [runH, runX, bq1, bit, B2, List.drop_length, List.length_append, range1, List.replicate_succ, List.replicate_zero, List.flatten_cons, List.flatten_nil, List.range_zero, gt_iff_lt, iRow_noOwn, go_sem, setCells, setIn]
  refine (n_block (n_then ?_))
  (refine vw_last rfl ?_; simp only [w3, go_sem, setCells, setIn])
  refine (n_then ?_)
  have e6 : q1.map iRow ++ it.map iRow = (q1 ++ it).map iRow := by simp
  have e7 : q1.length + it.length = (q1 ++ it).length := by simp
  rw [← List.append_assoc] at hg'
  have hq2 : (q1 ++ it).length ≤ q.length + 1 + lim g := by rw [List.length_append]; omega
  rw [e6, e7]
  generalize q1 ++ it = q2 at hg' hq2 ⊢
  refine ⟨(i + 1, q2, []), by simp only; omega, ⟨by simp only; omega, hg', by simp only; omega⟩, ?_⟩
  (refine norm_to [(272389, 4), (3, 3)] rfl ?_ ?_ <;> simp only [go_sem])

theorem runs_47 (l : List ByteArray) (hl : l.length = 12) (hsz : ∀ s ∈ l, s.size ≤ 2 ^ 20) : ∀ (f k : Nat) (p : ByteArray), k < 12 → deepOk l f k → p.size + 10 * f ≤ 1000 → lim f ≤ 2 ^ 20 →
    Runs Tryz.prog 47 [.one (.v (.list false 1 (l.map sRow))), .one (.v (.int .i64 k)), .one (.v (.str p))] [.one (.v (.list true 3 ((itemsG l f k p).map iRow)))] []
  | 0, k, p, hk, hd, hp, ho => runs_l12_0 l hl hsz 0 k hk hd p hp ho (fun g e => by omega)
  | f + 1, k, p, hk0, hd0, hp0, ho0 => runs_l12_0 l hl hsz (f + 1) k hk0 hd0 p hp0 ho0 (fun g e k p hk hd hp ho => by
      have e' : g = f := by omega
      subst e'
      exact runs_47 l hl hsz g k p hk hd hp ho)

theorem runs_18 (l : List ByteArray) (hl : l.length < 2 ^ 60) (hsz : ∀ s ∈ l, s.size ≤ 2 ^ 20) : Runs Tryz.prog 18 [.one (.v (.list false 1 (l.map sRow)))] [.one (.v (.list true 3 ((itemsV l).map iRow)))] [] := by
  refine runs_tab (tab := [(0, .c (.list false 1 (l.map sRow)))]) (rts := []) (n := 9) (k := 1) Tryz.func18 rfl rfl (by simp) rfl (fun t => ?_) rfl ?_
  · rcases t with _ | t <;> rfl
  have rV := runs_46 l hl hsz
  unfold itemsV
  (refine vw_go rfl ?_; simp only [go_sem, setCells, setIn])
  refine vw_seq ?_
  (refine vw_go rfl ?_; simp only [go_sem, setCells, setIn])
  (refine ⟨_, _, call_rx [0] Tryz.func46 (rV) rfl rfl rfl rfl rfl rfl rfl (by simp [lendAll, lendC, seek, fresh, nav, rcells, RT.cells, VV.cells, tabE_cons, tabS_cons, ev, take_map_len, sRow_r1, sRow_comp, sRow_clean, nRow_r1, nRow_comp, nRow_clean, iRow_clean, iRow_r1]) rfl (by simp [rcells, RT.cells, CT.clean, T.clean, sRow_r1, sRow_comp, sRow_clean, nRow_r1, nRow_comp, nRow_clean, iRow_clean, iRow_r1]) rfl rfl, ?_⟩)
  cases hv : volOk l
  · simp only [runH, runX, go_sem, setCells, setIn]
    (refine vw_cond (t := true) rfl (fun _ => ?_) (fun h => nomatch h))
    (refine vw_go rfl ?_; simp only [range1, List.replicate_succ, List.replicate_zero, List.flatten_cons, List.flatten_nil, List.range_zero, gt_iff_lt, go_sem, setCells, setIn])
    exact vw_ret (r_then (e_ret (ret_of rfl rfl (by simp [RB]) rfl rfl)))
  obtain ⟨h12, hd⟩ := volOk_deep hv
  have rI := runs_47 l h12 hsz 5 0 ⟨#[]⟩ (by decide) hd (by decide) (by decide)
  have bi : List.take (itemsG l 5 0 ⟨#[]⟩).length ((itemsG l 5 0 ⟨#[]⟩).map iRow) = (itemsG l 5 0 ⟨#[]⟩).map iRow := List.take_of_length_le (by simp)
  simp only [runH, runX, go_sem, setCells, setIn]
  (refine vw_cond (t := false) rfl (fun h => nomatch h) (fun _ => ?_))
  refine vw_skip (n_then ?_)
  (refine vw_go rfl ?_; simp only [go_sem, setCells, setIn])
  (refine ⟨_, _, call_rx [0, 0, 0] Tryz.func47 (rI) rfl rfl rfl rfl rfl rfl rfl (by simp [lendAll, lendC, seek, fresh, nav, rcells, RT.cells, VV.cells, tabE_cons, tabS_cons, ev, take_map_len, lit, sRow_r1, sRow_comp, sRow_clean, nRow_r1, nRow_comp, nRow_clean, iRow_clean, iRow_r1]) rfl (by simp [rcells, RT.cells, CT.clean, T.clean, lit, sRow_r1, sRow_comp, sRow_clean, nRow_r1, nRow_comp, nRow_clean, iRow_clean, iRow_r1]) rfl rfl, ?_⟩)
  simp only [runH, runX, go_sem, setCells, setIn]
  exact vw_ret (e_ret (ret_by rfl rfl (by simp [RB]) rfl (by simp only [takeCs, takeC, go_sem, setCells, setIn])))
end Go.Proofs.YtoenfbbadfcfpaaGreatDoor
namespace Go.Proofs.YtoenfbbadfcfpaaGreatDoor
open Go.VM Go
set_option maxRecDepth 100000
set_option linter.unusedSimpArgs false
set_option linter.unusedVariables false
attribute [-go_sem] runW_cons
attribute [local congr] vw_congr runV_congr runH_congr runW_congr runX_congr stuckV_congr stuckX_congr



theorem moved_iff {l : List It3} (hok : itemsOk l = true) {o : OpV} (ho : pathOk o.to = true) (h0 : o.path ≠ ⟨#[]⟩) (h1 : o.to ≠ ⟨#[]⟩) {x : It3} (hx : x ∈ l) : pathOk (movedP o x.1) = decide (((movedP o x.1).data.toList.count 47 : Int) < 4) := by
  obtain ⟨j, hj⟩ := List.getElem?_of_mem hx
  obtain ⟨p1, p2⟩ := splitF_ok ((itemsOk_at hok).2 j x hj).1
  unfold movedP
  split
  · rename_i h
    exact (moved_ok h h0 ho h1).2
  · rw [p1]; exact (decide_eq_true (unmoved_ok p1 p2)).symm

set_option maxHeartbeats 2000000 in
theorem runs_38 (l : List It3) (hok : itemsOk l = true) (o : OpV) (hp : o.path.size ≤ 2 ^ 19) (ht : o.to.size ≤ 2 ^ 19) (hto : pathOk o.to = true) (R : List It3 × Int) (hR : R = if foldF l o.path = 2 then (l, 2) else moveL l o) :
    Runs Tryz.prog 38 [.one (.v (.list true 3 (l.map iRow))), .agg [.v (.int .i64 o.kind), .v (.str o.path), .v (.str o.to), .v (.str o.data)]] [.one (.v (.list true 3 (R.1.map iRow))), .one (.v (.int .i64 R.2))] [] := by
  refine runs_tab (tab := [(0, .al 0 [] 0 3 0 l.length), (1, .agg [.c (.int .i64 o.kind), .c (.str o.path), .c (.str o.to), .c (.str o.data)])]) (rts := [(0, some ⟨false, 3, l.map iRow, []⟩)]) (n := 76) (k := 5) Tryz.func38 rfl rfl (by simp) rfl (fun t => ?_) rfl ?_
  · rcases t with _ | _ | t <;> simp [envOf, rvv, RT.vv, CT.vv, cvv, tabE_cons, tabE_nil, rcells, RT.cells]
  obtain ⟨h11, h100⟩ := itemsOk_small hok
  have bl : List.take l.length (l.map iRow) = l.map iRow := List.take_of_length_le (by simp)
  have rT := runs_68 l (by omega) o.path
  have rY := runs_68 l (by omega) o.to
  have hth : thereB l o.to = true ↔ (o.to = ⟨#[]⟩ ∨ 0 ≤ findF l o.to) := by unfold thereB; simp
  have rU := runs_73 o.to o.path (by omega) (by omega)
  have rC := runs_69 l (by omega) o.to (by omega)
  rw [fold_iff l o.path] at hR
  generalize thereB l o.path = tb at rT hR
  (refine vw_go rfl ?_; simp only [go_sem, setCells, setIn])
  refine vw_seq ?_
  refine vw_block ?_
  (refine vw_go rfl ?_; simp only [bl, go_sem, setCells, setIn])
  (refine ⟨_, _, call_rx [0, 0] Tryz.func68 (rT) rfl rfl rfl rfl rfl rfl rfl (by simp [lendAll, lendC, seek, fresh, nav, rcells, RT.cells, VV.cells, tabE_cons, tabS_cons, ev, take_map_len, iRow_r1, iRow_clean, bl]) rfl (by simp [rcells, RT.cells, CT.clean, T.clean, iRow_r1, iRow_clean, bl]) rfl rfl, ?_⟩)
  cases tb
  · simp only [Bool.false_eq_true, if_false, if_true] at hR
    subst hR
    simp only [runH, runX, bl, go_sem, setCells, setIn]
    (refine vw_cond (t := true) rfl (fun _ => ?_) (fun h => nomatch h))
    (refine vw_go rfl ?_; simp only [go_sem, setCells, setIn])
    exact vw_ret (r_block (r_then (e_ret (ret_by rfl rfl (by simp [RB]) rfl (by simp only [takeCs, takeC, go_sem, setCells, setIn])))))
  have hne2 : ¬ (if isFold l o.path = true then (0 : Int) else 4) = 2 := by split <;> decide
  simp only [if_true] at hR
  rw [if_neg hne2] at hR
  unfold moveL at hR
  have hmi := fun (x : It3) (hx : x ∈ l) (h0 : o.path ≠ ⟨#[]⟩) (h1 : o.to ≠ ⟨#[]⟩) => moved_iff hok hto h0 h1 hx
  generalize underB o.to o.path = ub at rU hR
  generalize thereB l o.to = tb2 at rY hth
  generalize foldF l (splitF o.to).1 = fo at rC hR
  simp only [runH, runX, bl, go_sem, setCells, setIn]
  (refine vw_cond (t := false) rfl (fun h => nomatch h) (fun _ => ?_))
  by_cases hz : o.path = ⟨#[]⟩
  · rw [if_pos (.inl hz)] at hR
    subst hR
    have hz' : decide (o.path = ⟨#[]⟩) = true := by simp [hz]
    (refine vw_go rfl ?_; simp only [hz', bl, go_sem, setCells, setIn])
    (refine vw_cond (t := true) rfl (fun _ => ?_) (fun h => nomatch h))
    (refine vw_go rfl ?_; simp only [go_sem, setCells, setIn])
    exact vw_ret (r_block (r_then (e_ret (ret_by rfl rfl (by simp [RB]) rfl (by simp only [takeCs, takeC, go_sem, setCells, setIn])))))
  have hz' : decide (o.path = ⟨#[]⟩) = false := by simp [hz]
  (refine vw_go rfl ?_; simp only [hz', bl, go_sem, setCells, setIn])
  (refine ⟨_, _, call_rx [0, 0] Tryz.func73 (rU) rfl rfl rfl rfl rfl rfl rfl (by simp [lendAll, lendC, seek, fresh, nav, rcells, RT.cells, VV.cells, tabE_cons, tabS_cons, ev, take_map_len, iRow_r1, iRow_clean]) rfl (by simp [rcells, RT.cells, CT.clean, T.clean, iRow_r1, iRow_clean]) rfl rfl, ?_⟩)
  cases ub
  case true =>
    rw [if_pos (.inr rfl)] at hR
    subst hR
    simp only [runH, runX, bl, go_sem, setCells, setIn]
    (refine vw_cond (t := true) rfl (fun _ => ?_) (fun h => nomatch h))
    (refine vw_go rfl ?_; simp only [go_sem, setCells, setIn])
    exact vw_ret (r_block (r_then (e_ret (ret_by rfl rfl (by simp [RB]) rfl (by simp only [takeCs, takeC, go_sem, setCells, setIn])))))
  rw [if_neg (by rintro (h | h); exact hz h; cases h)] at hR
  simp only [runH, runX, bl, go_sem, setCells, setIn]
  (refine vw_cond (t := false) rfl (fun h => nomatch h) (fun _ => ?_))
  (refine vw_go rfl ?_; simp only [bl, go_sem, setCells, setIn])
  (refine ⟨_, _, call_rx [0, 0] Tryz.func68 (rY) rfl rfl rfl rfl rfl rfl rfl (by simp [lendAll, lendC, seek, fresh, nav, rcells, RT.cells, VV.cells, tabE_cons, tabS_cons, ev, take_map_len, iRow_r1, iRow_clean, bl]) rfl (by simp [rcells, RT.cells, CT.clean, T.clean, iRow_r1, iRow_clean, bl]) rfl rfl, ?_⟩)
  cases tb2
  case true =>
    rw [if_pos (hth.1 rfl)] at hR
    subst hR
    simp only [runH, runX, bl, go_sem, setCells, setIn]
    (refine vw_cond (t := true) rfl (fun _ => ?_) (fun h => nomatch h))
    (refine vw_go rfl ?_; simp only [go_sem, setCells, setIn])
    exact vw_ret (r_block (r_then (e_ret (ret_by rfl rfl (by simp [RB]) rfl (by simp only [takeCs, takeC, go_sem, setCells, setIn])))))
  have hnt : ¬ (o.to = ⟨#[]⟩ ∨ 0 ≤ findF l o.to) := fun h => by have := hth.2 h; cases this
  have hy : o.to ≠ ⟨#[]⟩ := fun h => hnt (.inl h)
  rw [if_neg hnt] at hR
  simp only [runH, runX, bl, go_sem, setCells, setIn]
  (refine vw_cond (t := false) rfl (fun h => nomatch h) (fun _ => ?_))
  refine vw_skip (n_block (n_then ?_))
  refine vw_seq ?_
  (refine vw_go rfl ?_; simp only [bl, go_sem, setCells, setIn])
  (refine ⟨_, _, call_rx [0, 0] Tryz.func69 (rC) rfl rfl rfl rfl rfl rfl rfl (by simp [lendAll, lendC, seek, fresh, nav, rcells, RT.cells, VV.cells, tabE_cons, tabS_cons, ev, take_map_len, iRow_r1, iRow_clean, bl]) rfl (by simp [rcells, RT.cells, CT.clean, T.clean, iRow_r1, iRow_clean, bl]) rfl rfl, ?_⟩)
  simp only [runH, runX, bl, go_sem, setCells, setIn]
  by_cases h0 : fo = 0
  case neg =>
    rw [if_pos h0] at hR
    subst hR
    (refine vw_go rfl ?_; simp only [h0, bl, go_sem, setCells, setIn])
    (refine vw_cond (t := true) rfl (fun _ => ?_) (fun h => nomatch h))
    (refine vw_go rfl ?_; simp only [go_sem, setCells, setIn])
    exact vw_ret (r_then (e_ret (ret_by rfl rfl (by simp [RB]) rfl (by simp only [takeCs, takeC, go_sem, setCells, setIn]))))
  rw [if_neg (fun h => h h0)] at hR
  (refine vw_go rfl ?_; simp only [h0, go_sem, setCells, setIn])
  (refine vw_cond (t := false) rfl (fun h => nomatch h) (fun _ => ?_))
  refine vw_skip (n_then ?_)
  (refine vw_go rfl ?_; simp only [range1, List.replicate_succ, List.replicate_zero, List.flatten_cons, List.flatten_nil, List.range_zero, gt_iff_lt, go_sem, setCells, setIn])
  refine vw_seq ?_
  (refine vw_go rfl ?_; simp only [bl, go_sem, setCells, setIn])
  refine vw_block ?_
  refine vw_loop_tab (α := Nat × List It3 × List Path) (fun x => l.length - x.1) (fun x => ⟨tabE [(0, .al 0 [] 0 3 0 l.length), (3, .ptr 5 [] 0 0 0), (7, .al 6 [] 0 3 0 x.2.1.length), (44, .al 0 [] 0 3 0 l.length), (45, .c (.int .i64 l.length)), (46, .c (.int .i64 x.1))],
      tabS [(0, some ⟨false, 3, l.map iRow, []⟩), (5, some ⟨true, 4, [[.int .i64 o.kind, .str o.path, .str o.to, .str o.data]], []⟩), (6, some ⟨false, 3, x.2.1.map iRow, x.2.2⟩)], 7⟩)
    (fun x => x.1 ≤ l.length ∧ moveG l o (l.drop x.1) x.2.1 = R ∧ x.2.1.length ≤ x.1) (x := (0, [], [])) ?round ?h0 ?hn
  case h0 => exact ⟨Nat.zero_le _, hR.symm, Nat.le_refl _⟩
  case hn =>
    (refine norm_to [(0, 0), (5, 5), (393221, 6)] rfl ?_ ?_ <;> simp only [go_sem])
  rintro ⟨i, q, lg⟩ ⟨hi, hg, hql⟩
  simp only at hi hg hql
  have bq : List.take q.length (q.map iRow) = q.map iRow := List.take_of_length_le (by simp)
  by_cases hc : (i : Int) < l.length
  case neg =>
    rw [List.drop_eq_nil_of_le (by omega), moveG] at hg
    subst hg
    (refine vw_go rfl ?_; simp only [hc, go_sem, setCells, setIn])
    refine vw_seq ?_
    (refine vw_cond (t := false) rfl (fun h => nomatch h) (fun _ => ?_))
    refine vw_exit (x_then (x_then (x_block (n_then ?_))))
    (refine vw_go rfl ?_; simp only [go_sem, setCells, setIn])
    exact vw_ret (e_ret (ret_by rfl rfl (by simp [RB]) rfl (by simp only [takeCs, takeC, bq, go_sem, setCells, setIn])))
  have hin : i < l.length := by omega
  obtain ⟨x, hx⟩ : ∃ x, l[i]? = some x := ⟨_, List.getElem?_eq_getElem hin⟩
  rw [drop_of hx, moveG] at hg
  have hxs := Nat.le_trans (h100 x (List.mem_of_getElem? hx)) (show 100 ≤ 2 ^ 19 by decide)
  have hmx := hmi x (List.mem_of_getElem? hx) hz hy
  have d0 : (0:Int) ≤ (i : Int) := by omega
  have w3 : IntKind.wrap .i64 ((i:Int) + 1) = ((i + 1 : Nat) : Int) := by rw [wrap_i64 (by omega) (by omega)]; rfl
  have rX := runs_73 x.1 o.path (by omega) (by omega)
  have hus := underB_size (p := x.1) (q := o.path)
  have B1 : ¬ (q.length + 1 + 1) * (40 + 1) > bigRow := big41 (by omega)
  have hmsz : (movedP o x.1).size ≤ 2 ^ 20 := by
    unfold movedP
    split
    · rw [add_size, extract_size (Nat.le_refl _)]; omega
    · omega
  have rP := runs_74 (movedP o x.1) 47
  have hmp : movedP o x.1 = if underB x.1 o.path = true then o.to ++ x.1.extract o.path.size x.1.size else x.1 := rfl
  generalize underB x.1 o.path = u at rX hus hmp
  generalize movedP o x.1 = mp at rP hg hmp hmx
  rw [hmx] at hg
  generalize mp.data.toList.count 47 = cn at rP hg
  (refine vw_go rfl ?_; simp only [hc, go_sem, setCells, setIn])
  refine vw_seq ?_
  (refine vw_cond (t := true) rfl (fun _ => ?_) (fun h => nomatch h))
  refine vw_skip (n_then ?_)
  refine vw_seq ?_
  refine vw_block ?_
  (refine vw_go rfl ?_; simp only [d0, hc, hin, Int.toNat_natCast, getD_map_of hx, iRow, go_sem, setCells, setIn])
  refine vw_join (α := Unit) (fun z => ⟨tabE [(0, .al 0 [] 0 3 0 l.length), (3, .ptr 5 [] 0 0 0), (7, .al 6 [] 0 3 0 q.length), (44, .al 0 [] 0 3 0 l.length), (45, .c (.int .i64 l.length)), (46, .c (.int .i64 i)), (9, .ptr 7 [] 0 0 0)],
      tabS [(0, some ⟨false, 3, l.map iRow, []⟩), (5, some ⟨true, 4, [[.int .i64 o.kind, .str o.path, .str o.to, .str o.data]], []⟩), (6, some ⟨false, 3, q.map iRow, lg⟩), (7, some ⟨true, 3, [[.str mp, .bool x.2.1, .str x.2.2]], []⟩)], 8⟩) (fun z => True) ?_ ?_
  · (refine vw_go rfl ?_; simp only [go_sem, setCells, setIn])
    (refine ⟨_, _, call_rx [0, 0] Tryz.func73 (rX) rfl rfl rfl rfl rfl rfl rfl (by simp [lendAll, lendC, seek, fresh, nav, rcells, RT.cells, VV.cells, tabE_cons, tabS_cons, ev, take_map_len, iRow_r1, iRow_clean]) rfl (by simp [rcells, RT.cells, CT.clean, T.clean, iRow_r1, iRow_clean]) rfl rfl, ?_⟩)
    cases u
    · rw [if_neg (by decide)] at hmp
      subst hmp
      simp only [runH, runX, go_sem, setCells, setIn]
      (refine vw_cond (t := false) rfl (fun h => nomatch h) (fun _ => ?_))
      refine vw_skip (n_then ⟨(), ?_⟩)
      (refine norm_to [(0, 0), (5, 5), (6, 6), (67591, 7)] rfl ?_ ?_ <;> simp only [go_sem])
    · rw [if_pos rfl] at hmp
      have hus := hus rfl
      subst hmp
      have l1 : (0 : Int) ≤ (o.path.size : Int) := by omega
      have zc : o.to.size + (x.1.extract o.path.size x.1.size).size < 2 ^ 60 := by rw [extract_size (Nat.le_refl _)]; omega
      simp only [runH, runX, go_sem, setCells, setIn]
      (refine vw_cond (t := true) rfl (fun _ => ?_) (fun h => nomatch h))
      refine vw_drawA_last mixed rfl rfl ?_
      intro A hAA
      simp (maxSteps := 1000000) only [l1, hus, zc, Int.toNat_natCast, go_sem, setCells, setIn, runW_step]
      refine ⟨by subst hAA; unfold allOk; kernel_rfl, ?_⟩
      refine (n_then ⟨(), ?_⟩)
      (refine norm_to [(0, 0), (5, 5), (6, 6), (67591, 7)] rfl ?_ ?_ <;> simp only [go_sem])
  intro z _
  refine vw_seq ?_
  (refine vw_go rfl ?_; simp only [go_sem, setCells, setIn])
  (refine ⟨_, _, call_rx [0, 0] Tryz.func74 (rP) rfl rfl rfl rfl rfl rfl rfl (by simp [lendAll, lendC, seek, fresh, nav, rcells, RT.cells, VV.cells, tabE_cons, tabS_cons, ev, take_map_len, lit, iRow_r1, iRow_clean]) rfl (by simp [rcells, RT.cells, CT.clean, T.clean, lit, iRow_r1, iRow_clean]) rfl rfl, ?_⟩)
  by_cases h4 : (cn : Int) < 4
  case neg =>
    rw [if_neg (by simpa using h4)] at hg
    subst hg
    have h4' : (4 : Int) ≤ (cn : Int) := by omega
    simp only [runH, runX, h4', go_sem, setCells, setIn]
    (refine vw_cond (t := true) rfl (fun _ => ?_) (fun h => nomatch h))
    (refine vw_go rfl ?_; simp only [go_sem, setCells, setIn])
    refine vw_ret ?_
    repeat (first | refine r_then ?_ | refine r_block ?_)
    exact e_ret (ret_by rfl rfl (by simp [RB]) rfl (by simp only [takeCs, takeC, bl, go_sem, setCells, setIn]))
  rw [if_pos (by simpa using h4)] at hg
  have h4' : ¬ (4 : Int) ≤ (cn : Int) := by omega
  simp only [runH, runX, h4', go_sem, setCells, setIn]
  (refine vw_cond (t := false) rfl (fun h => nomatch h) (fun _ => ?_))
  refine vw_skip (n_then ?_)
  (refine vw_last rfl ?_; simp only [B1, bq, List.drop_length, range1, List.replicate_succ, List.replicate_zero, List.flatten_cons, List.flatten_nil, List.range_zero, gt_iff_lt, go_sem, setCells, setIn])
  refine (n_block (n_then ?_))
  (refine vw_last rfl ?_; simp only [w3, go_sem, setCells, setIn])
  refine (n_then ?_)
  have e4 : q.map iRow ++ [[.str mp, .bool x.2.1, .str x.2.2]] = (q ++ [(mp, x.2)]).map iRow := by simp [iRow]
  rw [e4]
  refine ⟨(i + 1, q ++ [(mp, x.2)], []), by simp only; omega, ⟨by simp only; omega, hg, by simp; omega⟩, ?_⟩
  have e5 : q.length + 1 = (q ++ [(mp, x.2)]).length := by simp
  rw [e5]
  generalize q ++ [(mp, x.2)] = q'
  (refine norm_to [(0, 0), (5, 5), (68616, 6)] rfl ?_ ?_ <;> simp only [go_sem])
end Go.Proofs.YtoenfbbadfcfpaaGreatDoor
namespace Go.Proofs
open Go.Shelf
def Tryz.lays156_ren : Go.Shelf.Ren := ⟨fun | 156 => 102 | 165 => 118 | 166 => 119 | 169 => 120 | 240 => 142 | 241 => 143 | 276 => 161 | 277 => 162 | n => n, fun | 31 => 39 | 9 => 9 | 3 => 3 | 4 => 4 | 0 => 0 | 20 => 20 | 72 => 125 | 76 => 129 | 70 => 123 | 37 => 36 | 75 => 128 | 127 => 152 | 164 => 170 | 5 => 5 | 80 => 131 | n => n, fun | n => n⟩
theorem Tryz.lays156 : Go.Proofs.Lays.n156 Tryz.prog Tryz.lays156_ren := {
  mixed := by kernel_rfl
  f156 := Tryz.func102.trans (congrArg some (by kernel_rfl))
  f165 := Tryz.func118.trans (congrArg some (by kernel_rfl))
  f166 := Tryz.func119.trans (congrArg some (by kernel_rfl))
  f169 := Tryz.func120.trans (congrArg some (by kernel_rfl))
  f240 := Tryz.func142.trans (congrArg some (by kernel_rfl))
  f241 := Tryz.func143.trans (congrArg some (by kernel_rfl))
  f276 := Tryz.func161.trans (congrArg some (by kernel_rfl))
  f277 := Tryz.func162.trans (congrArg some (by kernel_rfl))
  t0 := Tryz.underlying0
  a0 := Tryz.isAgg0
  z0 := Tryz.sizeOf0
  v0 := Tryz.zeroValue0
  t3 := Tryz.underlying3
  a3 := Tryz.isAgg3
  z3 := Tryz.sizeOf3
  v3 := Tryz.zeroValue3
  t4 := Tryz.underlying4
  a4 := Tryz.isAgg4
  z4 := Tryz.sizeOf4
  v4 := Tryz.zeroValue4
  t9 := Tryz.underlying9
  a9 := Tryz.isAgg9
  z9 := Tryz.sizeOf9
  v9 := Tryz.zeroValue9
  t20 := Tryz.underlying20
  a20 := Tryz.isAgg20
  z20 := Tryz.sizeOf20
  v20 := Tryz.zeroValue20
  t31 := Tryz.underlying39
  a31 := Tryz.isAgg39
  z31 := Tryz.sizeOf39
  v31 := Tryz.zeroValue39
  t37 := Tryz.underlying36
  a37 := Tryz.isAgg36
  z37 := Tryz.sizeOf36
  v37 := Tryz.zeroValue36
  t70 := Tryz.underlying123
  a70 := Tryz.isAgg123
  z70 := Tryz.sizeOf123
  v70 := Tryz.zeroValue123
  t72 := Tryz.underlying125
  a72 := Tryz.isAgg125
  z72 := Tryz.sizeOf125
  v72 := Tryz.zeroValue125
  t75 := Tryz.underlying128
  a75 := Tryz.isAgg128
  z75 := Tryz.sizeOf128
  v75 := Tryz.zeroValue128
  t76 := Tryz.underlying129
  a76 := Tryz.isAgg129
  z76 := Tryz.sizeOf129
  v76 := Tryz.zeroValue129
  t127 := Tryz.underlying152
  a127 := Tryz.isAgg152
  z127 := Tryz.sizeOf152
  v127 := Tryz.zeroValue152
  t164 := Tryz.underlying170
  a164 := Tryz.isAgg170
  z164 := Tryz.sizeOf170
  v164 := Tryz.zeroValue170 }
theorem Tryz.Builder_Extra_156 : Builder.Extra Tryz.prog Tryz.lays156_ren := {
  sizeBuilder := by kernel_rfl
  liesBuilder := by kernel_rfl
  t5 := Tryz.underlying5
  a5 := Tryz.isAgg5
  z5 := Tryz.sizeOf5
  v5 := Tryz.zeroValue5
  infoByte := by kernel_rfl
  cellsByte := by kernel_rfl
  sizeByte := by kernel_rfl
  neB5 := by decide }
open Go.RowKit in
theorem Tryz.strings_Join_none (a : Option Addr) (c : Nat) (sep : ByteArray) (w : World) :
    Calls Tryz.prog 102 #[.slice a 0 c, .string sep] w fun e w' => e = .returned (.string ⟨#[]⟩) ∧ w' = w := Any.strings_Join_none Tryz.lays156 Tryz.Builder_Extra_156 a c sep w
open Go.RowKit in
theorem Tryz.strings_Join (bk o c : Nat) (xs : List ByteArray) (sep : ByteArray) (w : World) (hcells : ∀ (j : Nat) x, xs[j]? = some x → w.cell? ⟨bk, o + j, none⟩ = some (.string x)) (hbk : bk < w.heap.size) (hN : xs.length ≤ 140737488355328) (hcap : xs.length ≤ c) (hlen : (Lib.join (xs.map (·.data.toList)) sep.data.toList).length ≤ 140737488355328) :
    Calls Tryz.prog 102 #[.slice (some ⟨bk, o, none⟩) xs.length c, .string sep] w fun e w' => e = .returned (.string ⟨(Lib.join (xs.map (·.data.toList)) sep.data.toList).toArray⟩) ∧ Below w.heap.size w w' := Any.strings_Join Tryz.lays156 Tryz.Builder_Extra_156 bk o c xs sep w hcells hbk hN hcap hlen
def Tryz.lays125_ren : Go.Shelf.Ren := ⟨fun | 125 => 116 | 128 => 140 | 129 => 141 | n => n, fun | 46 => 121 | 3 => 3 | 51 => 149 | 53 => 151 | 4 => 4 | 5 => 5 | 9 => 9 | n => n, fun | n => n⟩
theorem Tryz.lays125 : Go.Proofs.Lays.n125 Tryz.prog Tryz.lays125_ren := {
  mixed := by kernel_rfl
  f125 := Tryz.func116.trans (congrArg some (by kernel_rfl))
  f128 := Tryz.func140.trans (congrArg some (by kernel_rfl))
  f129 := Tryz.func141.trans (congrArg some (by kernel_rfl))
  t3 := Tryz.underlying3
  a3 := Tryz.isAgg3
  z3 := Tryz.sizeOf3
  v3 := Tryz.zeroValue3
  t4 := Tryz.underlying4
  a4 := Tryz.isAgg4
  z4 := Tryz.sizeOf4
  v4 := Tryz.zeroValue4
  t5 := Tryz.underlying5
  a5 := Tryz.isAgg5
  z5 := Tryz.sizeOf5
  v5 := Tryz.zeroValue5
  t9 := Tryz.underlying9
  a9 := Tryz.isAgg9
  z9 := Tryz.sizeOf9
  v9 := Tryz.zeroValue9
  t46 := Tryz.underlying121
  a46 := Tryz.isAgg121
  z46 := Tryz.sizeOf121
  v46 := Tryz.zeroValue121
  t51 := Tryz.underlying149
  a51 := Tryz.isAgg149
  z51 := Tryz.sizeOf149
  v51 := Tryz.zeroValue149
  t53 := Tryz.underlying151
  a53 := Tryz.isAgg151
  z53 := Tryz.sizeOf151
  v53 := Tryz.zeroValue151 }
theorem Tryz.bits_Len (x : Int) (w : World) (h0 : 0 ≤ x) (h1 : x ≤ 18446744073709551615) :
    Calls Tryz.prog 116 #[.int .u64 x] w fun e w' => e = .returned (.int .i64 (Lib.bitLen x.toNat)) ∧ w' = w := Any.bits_Len Tryz.lays125 x w h0 h1
end Go.Proofs
namespace Go.Proofs.YtoenfbbadfcfpaaGreatDoor
open Go.VM Go Go.RowKit
set_option linter.unusedSimpArgs false
set_option linter.unusedVariables false
def joinS (sep : ByteArray) (l : List ByteArray) : ByteArray := ⟨(Lib.join (l.map (·.data.toList)) sep.data.toList).toArray⟩
theorem steady_below {w w' : World} {ow : Own} (h : Below w.heap.size w w') : Steady w ow w' (fun _ => none) :=
  ⟨fun b _ hb => ⟨h.block b hb, rfl⟩, h.size, h.os, h.tape, h.output⟩
theorem rel_bare {w : World} {bs : Base} {fr : Nat → Prop} : Rel w (fun _ => none) bs st0 fr :=
  ⟨(fun r R h => by simp [st0] at h), (fun r R h => by simp [st0] at h), (fun b ℓ h => by cases h), fun r h => rfl⟩
theorem runs_102 (l : List ByteArray) (sep : ByteArray) (hl : l.length ≤ 2 ^ 20) (hj : (Lib.join (l.map (·.data.toList)) sep.data.toList).length ≤ 2 ^ 40) :
    Runs Tryz.prog 102 [.one (.v (.list false 1 (l.map sRow))), .one (.v (.str sep))] [.one (.v (.str (joinS sep l)))] [] := by
  intro w ow bs vals hrel heach
  obtain ⟨hlen, hv⟩ := heach
  have hv0 := hv 0 _ rfl
  have hv1 := hv 1 _ rfl
  have hsz : vals.size = 2 := hlen.symm
  obtain ⟨v0, v1, rfl⟩ : ∃ v0 v1, vals = #[v0, v1] := by
    refine ⟨vals[0], vals[1], ?_⟩
    apply Array.ext
    · simp [hsz]
    · intro i h1 h2
      match i with
      | 0 => rfl
      | 1 => rfl
      | i + 2 => omega
  change RelV w ow bs _ _ (.c (.list false 1 (l.map sRow))) v0 at hv0
  change RelV w ow bs _ _ (.c (.str sep)) v1 at hv1
  obtain rfl := rel_str hv1
  have fin : ∀ (e : Ending) (w' : World), (e = .returned (.string (joinS sep l)) ∧ Below w.heap.size w w') → ∃ v ow' bs', e = .returned v ∧ Steady w ow w' ow' ∧ Rel w' ow' bs' (stOut [.one (.v (.str (joinS sep l)))] []) (fun _ => False) ∧
      RelV w' ow' bs' (stOut [.one (.v (.str (joinS sep l)))] []) (fun _ => False) (outV [.one (.v (.str (joinS sep l)))]) v ∧ ∀ p ∈ ([] : List (Nat × Root)), bs' (p.1, []) = bs (p.1, []) := by
    rintro e w' ⟨rfl, hb⟩
    exact ⟨_, fun _ => none, bs, rfl, steady_below hb, rel_bare, .c .str, fun p hp => nomatch hp⟩
  cases hv0 with
  | c hv0 =>
  generalize hrows : l.map sRow = rows at hv0
  cases hv0 with
  | @nil _ a cap =>
    have : l = [] := by simpa using hrows
    subst this
    refine (Tryz.strings_Join_none a cap sep w).mono (fun e w' ⟨h1, h2⟩ => fin e w' ⟨?_, ?_⟩)
    · rw [h1]; rfl
    · rw [h2]; exact Below.refl _ _
  | @list a _ _ len cap c e fr spot own blk hlen2 hcap fits hr hcells =>
    obtain rfl : len = l.length := by rw [hlen2, ← hrows]; simp
    obtain ⟨bk, o, s⟩ := a
    simp only at spot own blk fits hcells
    subst spot
    refine (Tryz.strings_Join bk o cap l sep w (fun j x hx => ?_) (lt_of_get blk) (by omega) hcap (by omega)).mono (fun e w' h => fin e w' h)
    have h1 : rows[j]? = some (sRow x) := by rw [← hrows, List.getElem?_map, hx]; rfl
    have h2 := hcells j (sRow x) 0 (.str x) h1 rfl
    have hjl := lt_of_getl hx
    rw [Nat.mul_one, Nat.add_zero] at h2
    have hc := cell_of (b := bk) (o := o + j) blk (by omega)
    rw [hc]
    cases hq : c.getD (o + j) undef with
    | string s => rw [hq] at h2; cases h2; rfl
    | _ => rw [hq] at h2; cases h2
theorem runs_116 (n : Nat) (hn : n ≤ 2 ^ 60) : Runs Tryz.prog 116 [.one (.v (.int .u64 (n : Int)))] [.one (.v (.int .i64 (Lib.bitLen n)))] [] := by
  intro w ow bs vals hrel heach
  obtain ⟨hlen, hv⟩ := heach
  have hv0 := hv 0 _ rfl
  have hsz : vals.size = 1 := hlen.symm
  obtain ⟨v0, rfl⟩ : ∃ v0, vals = #[v0] := by
    refine ⟨vals[0], ?_⟩
    apply Array.ext
    · simp [hsz]
    · intro i h1 h2
      match i with
      | 0 => rfl
      | i + 1 => omega
  change RelV w ow bs _ _ (.c (.int .u64 (n : Int))) v0 at hv0
  obtain rfl := rel_int hv0
  refine (Tryz.bits_Len (n : Int) w (by omega) (by omega)).mono (fun e w' ⟨h1, h2⟩ => ?_)
  subst h1 h2
  exact ⟨_, fun _ => none, bs, rfl, steady_below (Below.refl _ _), rel_bare, .c .int, fun p hp => nomatch hp⟩
end Go.Proofs.YtoenfbbadfcfpaaGreatDoor
