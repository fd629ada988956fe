/- Nodes: KidDrop and KidPut of the reference. Volumes: going through one, of both. -/
import Derived.Test.YtoenfbbadfcfpaaGreatDoorPFKid
import Derived.Test.YtoenfbbadfcfpaaGreatDoorPFTell
set_option linter.unusedSimpArgs false
set_option linter.unusedVariables false
namespace Go.Proofs.YtoenfbbadfcfpaaGreatDoor
open Go.VM Go
set_option maxRecDepth 100000
attribute [local congr] vw_congr runV_congr runH_congr runW_congr runX_congr stuckV_congr stuckX_congr
def skipN {α : Type} (at_ : Int) : Nat → List α → List α
  | _, [] => []
  | i, x :: l => if (i : Int) = at_ then skipN at_ (i + 1) l else x :: skipN at_ (i + 1) l
theorem skipN_le {α : Type} (at_ : Int) : ∀ (l : List α) (i : Nat), (skipN at_ i l).length ≤ l.length
  | [], i => Nat.le_refl _
  | x :: l, i => by
    have := skipN_le at_ l (i + 1)
    unfold skipN
    split
    · simp only [List.length_cons]; omega
    · simp only [List.length_cons]; omega
theorem skipN_len {α β : Type} (at_ : Int) : ∀ (l : List α) (m : List β) (i : Nat), l.length = m.length → (skipN at_ i l).length = (skipN at_ i m).length
  | [], [], i, _ => rfl
  | x :: l, y :: m, i, h => by
    have := skipN_len at_ l m (i + 1) (by simpa using h)
    unfold skipN
    split
    · exact this
    · simp only [List.length_cons, this]
theorem skipN_mem {α : Type} (at_ : Int) : ∀ (l : List α) (i : Nat) (x : α), x ∈ skipN at_ i l → x ∈ l
  | [], i, x, h => h
  | y :: l, i, x, h => by
    unfold skipN at h
    split at h
    · exact List.mem_cons_of_mem _ (skipN_mem at_ l _ x h)
    · rcases List.mem_cons.1 h with h | h
      · exact h ▸ List.mem_cons_self
      · exact List.mem_cons_of_mem _ (skipN_mem at_ l _ x h)
def kidDropF (n : NodeV) (s : ByteArray) : NodeV := ⟨n.dir, skipN (kidIx n.names n.kids s 0) 0 n.names, skipN (kidIx n.names n.kids s 0) 0 n.kids, n.data⟩
set_option maxHeartbeats 1000000 in
theorem runs_110 (n : NodeV) (h : n.names.length = n.kids.length) (h1 : n.names.length ≤ 1000) (s : ByteArray) (N : NodeV) (hN : N = kidDropF n s) :
    Runs Tryz.prog 110 [.agg [.v (.bool n.dir), .v (.list false 1 (n.names.map sRow)), .v (.list false 1 (n.kids.map nRow)), .v (.str n.data)], .one (.v (.str s))] [.agg [.v (.bool N.dir), .v (.list true 1 (N.names.map sRow)), .v (.list true 1 (N.kids.map nRow)), .v (.str N.data)]] [] := by
  refine runs_tab (tab := [(0, .agg [.c (.bool n.dir), .c (.list false 1 (n.names.map sRow)), .c (.list false 1 (n.kids.map nRow)), .c (.str n.data)]), (1, .c (.str s))]) (rts := []) (n := 54) (k := 5) Tryz.func110 rfl rfl (by simp) rfl (fun t => ?_) rfl ?_
  · rcases t with _ | _ | t <;> rfl
  have rL := runs_125 n (by omega) (by omega) s
  unfold kidDropF at hN
  generalize kidIx n.names n.kids s 0 = at_ at rL hN
  refine vw_go rfl ?_; simp only [go_sem, setCells, setIn]
  refine vw_go rfl ?_; simp only [go_sem, setCells, setIn]
  refine vw_go rfl ?_; simp only [go_sem, setCells, setIn]
  refine ⟨_, _, call_rx [0, 0] Tryz.func125 (rL) rfl rfl rfl rfl rfl rfl rfl (by simp [lendAll, lendC, seek, fresh, nav, rcells, RT.cells, VV.cells, tabE_cons, tabS_cons, ev, take_map_len, sRow_r1, sRow_comp, sRow_clean, nRow_r1, nRow_comp, nRow_clean]) rfl (by simp [rcells, RT.cells, CT.clean, T.clean, sRow_r1, sRow_comp, sRow_clean, nRow_r1, nRow_comp, nRow_clean]) rfl rfl, ?_⟩
  simp only [runH, runX, go_sem, setCells, setIn]
  refine vw_seq ?_
  refine vw_go rfl ?_; simp only [go_sem, setCells, setIn]
  refine vw_block ?_
  refine vw_loop_tab (α := Nat × List ByteArray × List Int × List Path) (fun x => n.names.length - x.1) (fun x => ⟨tabE [(2, .ptr 5 [] 0 0 0), (4, .ptr 6 [] 0 0 0), (5, .ptr 7 [] 0 0 0), (6, .c (.int .i64 at_)), (7, .c (.int .i64 x.1))],
      tabS [(5, some ⟨true, 4, [[.bool n.dir, .list false 1 (n.names.map sRow), .list false 1 (n.kids.map nRow), .str n.data]], []⟩), (6, some ⟨true, 4, [[.bool false, .list true 1 [], .list true 1 [], .str ⟨#[]⟩]], []⟩), (7, some ⟨true, 4, [[.bool n.dir, .list true 1 (x.2.1.map sRow), .list true 1 (x.2.2.1.map nRow), .str n.data]], x.2.2.2⟩)], 8⟩)
    (fun x => x.1 ≤ n.names.length ∧ skipN at_ 0 n.names = x.2.1 ++ skipN at_ x.1 (n.names.drop x.1) ∧ skipN at_ 0 n.kids = x.2.2.1 ++ skipN at_ x.1 (n.kids.drop x.1) ∧ x.2.1.length ≤ x.1 ∧ x.2.2.1.length ≤ x.1) (x := (0, [], [], [[(0, 1)], [(0, 2)]])) ?round ?h0 ?hn
  case h0 => exact ⟨Nat.zero_le _, rfl, rfl, Nat.le_refl _, Nat.le_refl _⟩
  case hn =>
    refine norm_to [(5, 5), (1029, 6), (70661, 7)] rfl ?_ ?_ <;> simp only [go_sem]
  rintro ⟨i, a, b, lg⟩ ⟨hi, ha, hb, hla, hlb⟩
  simp only at hi ha hb hla hlb
  refine vw_seq ?_
  have bt : List.take a.length (a.map sRow) = a.map sRow := List.take_of_length_le (by simp)
  have bt2 : List.take b.length (b.map nRow) = b.map nRow := List.take_of_length_le (by simp)
  by_cases hc : (i : Int) < n.names.length
  case neg =>
    rw [List.drop_eq_nil_of_le (by omega), skipN, List.append_nil] at ha hb
    rw [ha, hb] at hN
    subst hN
    refine vw_go rfl ?_; simp only [hc, go_sem, setCells, setIn]
    refine vw_cond (t := false) rfl (fun h => nomatch h) (fun _ => ?_)
    refine vw_exit (x_then (x_then (x_block (n_then ?_))))
    refine vw_go rfl ?_; simp only [List.drop_length, bt, bt2, go_sem, setCells, setIn]
    exact vw_ret (e_ret (ret_by rfl rfl (by simp [RB]) rfl (by simp only [takeCs, takeC, go_sem, setCells, setIn])))
  have hin : i < n.names.length := by omega
  have hik : i < n.kids.length := by omega
  have hc2 : (i : Int) < n.kids.length := by omega
  obtain ⟨u, hu⟩ : ∃ u, n.names[i]? = some u := ⟨_, List.getElem?_eq_getElem hin⟩
  obtain ⟨y, hy⟩ : ∃ y, n.kids[i]? = some y := ⟨_, List.getElem?_eq_getElem hik⟩
  rw [drop_of hu, skipN] at ha
  rw [drop_of hy, skipN] at hb
  have d0 : (0:Int) ≤ (i : Int) := by omega
  have w3 : IntKind.wrap .i64 ((i:Int) + 1) = ((i + 1 : Nat) : Int) := by rw [wrap_i64 (by omega) (by omega)]; rfl
  refine vw_go rfl ?_; simp only [hc, hc2, go_sem, setCells, setIn]
  refine vw_cond (t := true) rfl (fun _ => ?_) (fun h => nomatch h)
  refine vw_skip (n_then ?_)
  refine vw_seq ?_
  refine vw_block ?_
  by_cases he : (i : Int) = at_
  · rw [if_pos he] at ha hb
    obtain rfl : at_ = (i : Int) := he.symm
    refine vw_go rfl ?_; simp only [go_sem, setCells, setIn]
    refine vw_cond (t := false) rfl (fun h => nomatch h) (fun _ => ?_)
    refine vw_skip (n_block (n_then ?_))
    refine vw_last rfl ?_; simp only [w3, go_sem, setCells, setIn]
    refine (n_then ?_)
    refine ⟨(i + 1, a, b, lg), by simp only; omega, ⟨by simp only; omega, ha, hb, by simp only; omega, by simp only; omega⟩, ?_⟩
    refine norm_to [(5, 5), (6, 6), (7, 7)] rfl ?_ ?_ <;> simp only [go_sem]
  rw [if_neg he] at ha hb
  have B1 : ¬ (a.length + 1 + 1) * (16 + 1) > bigRow := by simp only [bigRow]; omega
  have B2 : ¬ (b.length + 1 + 1) * (8 + 1) > bigRow := by simp only [bigRow]; omega
  have bt : List.take a.length (a.map sRow) = a.map sRow := List.take_of_length_le (by simp)
  have bt2 : List.take b.length (b.map nRow) = b.map nRow := List.take_of_length_le (by simp)
  refine vw_go rfl ?_; simp only [he, go_sem, setCells, setIn]
  refine vw_cond (t := true) rfl (fun _ => ?_) (fun h => nomatch h)
  refine vw_draw mixed rfl rfl ?_; simp only [B1, d0, hc, hin, Int.toNat_natCast, getD_map_of hu, sRow, bt, List.drop_length, List.length_append, range1, List.replicate_succ, List.replicate_zero, List.flatten_cons, List.flatten_nil, List.range_zero, gt_iff_lt, take_snocR, go_sem, setCells, setIn]
  refine ⟨by unfold allOk; kernel_rfl, ?_⟩
  refine vw_draw_last mixed rfl rfl ?_; simp only [B2, d0, hc2, hik, Int.toNat_natCast, getD_map_of hy, nRow, bt2, List.drop_length, List.length_append, range1, List.replicate_succ, List.replicate_zero, List.flatten_cons, List.flatten_nil, List.range_zero, gt_iff_lt, take_snocR, drop_snocR, go_sem, setCells, setIn]
  refine ⟨by unfold allOk; kernel_rfl, ?_⟩
  refine (n_block (n_then ?_))
  refine vw_last rfl ?_; simp only [w3, go_sem, setCells, setIn]
  refine (n_then ?_)
  have e4 : a.map sRow ++ [[.str u]] = (a ++ [u]).map sRow := by simp [sRow]
  have e5 : b.map nRow ++ [[.int .i64 y]] = (b ++ [y]).map nRow := by simp
  rw [e4, e5]
  refine ⟨(i + 1, a ++ [u], b ++ [y], lg ++ [[(0, 1)]] ++ [[(0, 2)]]), by simp only; omega, ⟨by simp only; omega, by simpa using ha, by simpa using hb, by simp; omega, by simp; omega⟩, ?_⟩
  refine norm_to [(5, 5), (6, 6), (7, 7)] rfl ?_ ?_ <;> simp only [go_sem]
def gtS (u s : ByteArray) : Bool := !(Op.bytesLess u.toList s.toList || decide (u = s))
def putLoop (s : ByteArray) (k : Int) : Bool → List ByteArray → List Int → List ByteArray × List Int
  | true, xs, ys => (xs, ys)
  | false, a :: xs, b :: ys => if gtS a s = true then (s :: a :: xs, k :: b :: ys) else (a :: (putLoop s k false xs ys).1, b :: (putLoop s k false xs ys).2)
  | false, _, _ => ([s], [k])
def kidPutF (n : NodeV) (s : ByteArray) (k : Int) : NodeV :=
  ⟨n.dir, (putLoop s k false (kidDropF n s).names (kidDropF n s).kids).1, (putLoop s k false (kidDropF n s).names (kidDropF n s).kids).2, n.data⟩
set_option maxHeartbeats 1000000 in
theorem runs_91 (n : NodeV) (h : n.names.length = n.kids.length) (h1 : n.names.length ≤ 1000) (s : ByteArray) (k : Int) (N : NodeV) (hN : N = kidPutF n s k) :
    Runs Tryz.prog 91 [.agg [.v (.bool n.dir), .v (.list false 1 (n.names.map sRow)), .v (.list false 1 (n.kids.map nRow)), .v (.str n.data)], .one (.v (.str s)), .one (.v (.int .i64 k))] [.agg [.v (.bool N.dir), .v (.list true 1 (N.names.map sRow)), .v (.list true 1 (N.kids.map nRow)), .v (.str N.data)]] [] := by
  refine runs_tab (tab := [(0, .agg [.c (.bool n.dir), .c (.list false 1 (n.names.map sRow)), .c (.list false 1 (n.kids.map nRow)), .c (.str n.data)]), (1, .c (.str s)), (2, .c (.int .i64 k))]) (rts := []) (n := 84) (k := 6) Tryz.func91 rfl rfl (by simp) rfl (fun t => ?_) rfl ?_
  · rcases t with _ | _ | _ | t <;> rfl
  have rD := runs_110 n h h1 s _ rfl
  have hml : (kidDropF n s).names.length = (kidDropF n s).kids.length := skipN_len _ _ _ _ h
  have hm1 : (kidDropF n s).names.length ≤ 1000 := Nat.le_trans (skipN_le _ _ _) h1
  unfold kidPutF at hN
  generalize kidDropF n s = m at rD hml hm1 hN
  have bm : List.take m.names.length (m.names.map sRow) = m.names.map sRow := List.take_of_length_le (by simp)
  have bm2 : List.take m.kids.length (m.kids.map nRow) = m.kids.map nRow := List.take_of_length_le (by simp)
  refine vw_go rfl ?_; simp only [go_sem, setCells, setIn]
  refine vw_go rfl ?_; simp only [go_sem, setCells, setIn]
  refine ⟨_, _, call_rx [0, 0] Tryz.func110 (rD) rfl rfl rfl rfl rfl rfl rfl (by simp [lendAll, lendC, seek, fresh, nav, rcells, RT.cells, VV.cells, tabE_cons, tabS_cons, ev, take_map_len, sRow_r1, sRow_comp, sRow_clean, nRow_r1, nRow_comp, nRow_clean]) rfl (by simp [rcells, RT.cells, CT.clean, T.clean, sRow_r1, sRow_comp, sRow_clean, nRow_r1, nRow_comp, nRow_clean]) rfl rfl, ?_⟩
  simp only [runH, runX, bm, bm2, go_sem, setCells, setIn]
  refine vw_go rfl ?_; simp only [go_sem, setCells, setIn]
  refine vw_go rfl ?_; simp only [go_sem, setCells, setIn]
  refine vw_seq ?_
  refine vw_go rfl ?_; simp only [go_sem, setCells, setIn]
  refine vw_block ?_
  refine vw_loop_tab (α := Nat × List ByteArray × List Int × Bool × List Path) (fun x => m.names.length - x.1) (fun x => ⟨tabE [(1, .c (.str s)), (2, .c (.int .i64 k)), (6, .ptr 7 [] 0 0 0), (7, .ptr 8 [] 0 0 0), (8, .ptr 9 [] 0 0 0), (9, .c (.bool x.2.2.2.1)), (10, .c (.int .i64 x.1))],
      tabS [(7, some ⟨true, 4, [[.bool false, .list true 1 [], .list true 1 [], .str ⟨#[]⟩]], []⟩), (8, some ⟨true, 4, [[.bool m.dir, .list true 1 (m.names.map sRow), .list true 1 (m.kids.map nRow), .str m.data]], [[(0, 1)], [(0, 2)]]⟩), (9, some ⟨true, 4, [[.bool n.dir, .list true 1 (x.2.1.map sRow), .list true 1 (x.2.2.1.map nRow), .str n.data]], x.2.2.2.2⟩)], 10⟩)
    (fun x => x.1 ≤ m.names.length ∧ (putLoop s k false m.names m.kids).1 = x.2.1 ++ (putLoop s k x.2.2.2.1 (m.names.drop x.1) (m.kids.drop x.1)).1 ∧ (putLoop s k false m.names m.kids).2 = x.2.2.1 ++ (putLoop s k x.2.2.2.1 (m.names.drop x.1) (m.kids.drop x.1)).2 ∧ x.2.1.length ≤ 2 * x.1 + 1 ∧ x.2.2.1.length ≤ 2 * x.1 + 1) (x := (0, [], [], false, [[(0, 1)], [(0, 2)]])) ?round ?h0 ?hn
  case h0 => exact ⟨Nat.zero_le _, rfl, rfl, Nat.zero_le _, Nat.zero_le _⟩
  case hn =>
    refine norm_to [(1030, 7), (68614, 8), (136198, 9)] rfl ?_ ?_ <;> simp only [go_sem]
  rintro ⟨i, a, b, put, lg⟩ ⟨hi, ha, hb, hla, hlb⟩
  simp only at hi ha hb hla hlb
  refine vw_seq ?_
  have bt : List.take a.length (a.map sRow) = a.map sRow := List.take_of_length_le (by simp)
  have bt2 : List.take b.length (b.map nRow) = b.map nRow := List.take_of_length_le (by simp)
  have B1 : ¬ (a.length + 1 + 1) * (16 + 1) > bigRow := by simp only [bigRow]; omega
  have B2 : ¬ (b.length + 1 + 1) * (8 + 1) > bigRow := by simp only [bigRow]; omega
  by_cases hc : (i : Int) < m.names.length
  case neg =>
    rw [List.drop_eq_nil_of_le (by omega), List.drop_eq_nil_of_le (by omega)] at ha hb
    cases put
    · simp only [putLoop] at ha hb
      rw [ha, hb] at hN
      subst hN
      refine vw_go rfl ?_; simp only [hc, bm, bm2, go_sem, setCells, setIn]
      refine vw_cond (t := false) rfl (fun h => nomatch h) (fun _ => ?_)
      refine vw_exit (x_then (x_then (x_block (n_then ?_))))
      refine vw_seq ?_
      refine vw_go rfl ?_; simp only [go_sem, setCells, setIn]
      refine vw_cond (t := true) rfl (fun _ => ?_) (fun h => nomatch h)
      refine vw_go rfl ?_; simp only [B1, bt, List.drop_length, List.length_append, range1, List.replicate_succ, List.replicate_zero, List.flatten_cons, List.flatten_nil, List.range_zero, gt_iff_lt, take_snocR, go_sem, setCells, setIn]
      refine vw_last rfl ?_; simp only [B2, bt2, List.drop_length, List.length_append, range1, List.replicate_succ, List.replicate_zero, List.flatten_cons, List.flatten_nil, List.range_zero, gt_iff_lt, take_snocR, drop_snocR, go_sem, setCells, setIn]
      refine (n_then ?_)
      have e4 : a.map sRow ++ [[.str s]] = (a ++ [s]).map sRow := by simp [sRow]
      have e5 : b.map nRow ++ [[.int .i64 k]] = (b ++ [k]).map nRow := by simp
      rw [e4, e5]
      have bt3 : List.take (a.length + 1) ((a ++ [s]).map sRow) = (a ++ [s]).map sRow := List.take_of_length_le (by simp)
      have bt4 : List.take (b.length + 1) ((b ++ [k]).map nRow) = (b ++ [k]).map nRow := List.take_of_length_le (by simp)
      have ll : (a ++ [s]).length = a.length + 1 := by simp
      have ll2 : (b ++ [k]).length = b.length + 1 := by simp
      refine vw_go rfl ?_; simp only [List.drop_length, bt3, bt4, ll, ll2, go_sem, setCells, setIn]
      exact vw_ret (e_ret (ret_by rfl rfl (by simp [RB]) rfl (by simp only [takeCs, takeC, go_sem, setCells, setIn])))
    · simp only [putLoop, List.append_nil] at ha hb
      rw [ha, hb] at hN
      subst hN
      refine vw_go rfl ?_; simp only [hc, bm, bm2, go_sem, setCells, setIn]
      refine vw_cond (t := false) rfl (fun h => nomatch h) (fun _ => ?_)
      refine vw_exit (x_then (x_then (x_block (n_then ?_))))
      refine vw_seq ?_
      refine vw_go rfl ?_; simp only [go_sem, setCells, setIn]
      refine vw_cond (t := false) rfl (fun h => nomatch h) (fun _ => ?_)
      refine vw_skip (n_then ?_)
      refine vw_go rfl ?_; simp only [List.drop_length, bt, bt2, go_sem, setCells, setIn]
      exact vw_ret (e_ret (ret_by rfl rfl (by simp [RB]) rfl (by simp only [takeCs, takeC, go_sem, setCells, setIn])))
  have hin : i < m.names.length := by omega
  have hik : i < m.kids.length := by omega
  have hc2 : (i : Int) < m.kids.length := by omega
  obtain ⟨u, hu⟩ : ∃ u, m.names[i]? = some u := ⟨_, List.getElem?_eq_getElem hin⟩
  obtain ⟨y, hy⟩ : ∃ y, m.kids[i]? = some y := ⟨_, List.getElem?_eq_getElem hik⟩
  rw [drop_of hu, drop_of hy] at ha hb
  have d0 : (0:Int) ≤ (i : Int) := by omega
  have w3 : IntKind.wrap .i64 ((i:Int) + 1) = ((i + 1 : Nat) : Int) := by rw [wrap_i64 (by omega) (by omega)]; rfl
  refine vw_go rfl ?_; simp only [hc, bm, bm2, go_sem, setCells, setIn]
  refine vw_cond (t := true) rfl (fun _ => ?_) (fun h => nomatch h)
  refine vw_skip (n_then ?_)
  refine vw_seq ?_
  refine vw_block ?_
  cases put
  case true =>
    simp only [putLoop] at ha hb
    refine vw_seq ?_
    refine vw_go rfl ?_; simp only [d0, hc, hin, Int.toNat_natCast, getD_map_of hu, sRow, bm, bm2, go_sem, setCells, setIn]
    refine vw_cond (t := false) rfl (fun h => nomatch h) (fun _ => ?_)
    refine vw_skip (n_then ?_)
    refine vw_draw mixed rfl rfl ?_; simp only [B1, d0, hc, hin, Int.toNat_natCast, getD_map_of hu, sRow, bt, bm, bm2, List.drop_length, List.length_append, range1, List.replicate_succ, List.replicate_zero, List.flatten_cons, List.flatten_nil, List.range_zero, gt_iff_lt, take_snocR, go_sem, setCells, setIn]
    refine ⟨by unfold allOk; kernel_rfl, ?_⟩
    refine vw_draw_last mixed rfl rfl ?_; simp only [B2, d0, hc2, hik, Int.toNat_natCast, getD_map_of hy, nRow, bt2, bm, bm2, List.drop_length, List.length_append, range1, List.replicate_succ, List.replicate_zero, List.flatten_cons, List.flatten_nil, List.range_zero, gt_iff_lt, take_snocR, drop_snocR, go_sem, setCells, setIn]
    refine ⟨by unfold allOk; kernel_rfl, ?_⟩
    refine (n_block (n_then ?_))
    refine vw_last rfl ?_; simp only [w3, go_sem, setCells, setIn]
    refine (n_then ?_)
    have e4 : a.map sRow ++ [[.str u]] = (a ++ [u]).map sRow := by simp [sRow]
    have e5 : b.map nRow ++ [[.int .i64 y]] = (b ++ [y]).map nRow := by simp
    rw [e4, e5]
    refine ⟨(i + 1, a ++ [u], b ++ [y], true, lg ++ [[(0, 1)]] ++ [[(0, 2)]]), by simp only; omega, ⟨by simp only; omega, by simpa [putLoop] using ha, by simpa [putLoop] using hb, by simp; omega, by simp; omega⟩, ?_⟩
    refine norm_to [(6, 6), (7, 7), (8, 8), (9, 9)] rfl ?_ ?_ <;> simp only [go_sem]
  refine vw_seq ?_
  refine vw_go rfl ?_; simp only [d0, hc, hin, Int.toNat_natCast, getD_map_of hu, sRow, bm, bm2, go_sem, setCells, setIn]
  cases hg : gtS u s
  · rw [putLoop, hg] at ha hb
    simp only [Bool.false_eq_true, if_false] at ha hb
    refine vw_cond (t := false) (by rw [← hg]; rfl) (fun h => nomatch h) (fun _ => ?_)
    refine vw_skip (n_then ?_)
    refine vw_draw mixed rfl rfl ?_; simp only [B1, d0, hc, hin, Int.toNat_natCast, getD_map_of hu, sRow, bt, bm, bm2, List.drop_length, List.length_append, range1, List.replicate_succ, List.replicate_zero, List.flatten_cons, List.flatten_nil, List.range_zero, gt_iff_lt, take_snocR, go_sem, setCells, setIn]
    refine ⟨by unfold allOk; kernel_rfl, ?_⟩
    refine vw_draw_last mixed rfl rfl ?_; simp only [B2, d0, hc2, hik, Int.toNat_natCast, getD_map_of hy, nRow, bt2, bm, bm2, List.drop_length, List.length_append, range1, List.replicate_succ, List.replicate_zero, List.flatten_cons, List.flatten_nil, List.range_zero, gt_iff_lt, take_snocR, drop_snocR, go_sem, setCells, setIn]
    refine ⟨by unfold allOk; kernel_rfl, ?_⟩
    refine (n_block (n_then ?_))
    refine vw_last rfl ?_; simp only [w3, go_sem, setCells, setIn]
    refine (n_then ?_)
    have e4 : a.map sRow ++ [[.str u]] = (a ++ [u]).map sRow := by simp [sRow]
    have e5 : b.map nRow ++ [[.int .i64 y]] = (b ++ [y]).map nRow := by simp
    rw [e4, e5]
    refine ⟨(i + 1, a ++ [u], b ++ [y], false, lg ++ [[(0, 1)]] ++ [[(0, 2)]]), by simp only; omega, ⟨by simp only; omega, by simpa using ha, by simpa using hb, by simp; omega, by simp; omega⟩, ?_⟩
    refine norm_to [(6, 6), (7, 7), (8, 8), (9, 9)] rfl ?_ ?_ <;> simp only [go_sem]
  rw [putLoop, hg] at ha hb
  simp only [if_true] at ha hb
  refine vw_cond (t := true) (by rw [← hg]; rfl) (fun _ => ?_) (fun h => nomatch h)
  refine vw_go rfl ?_; simp only [B1, bt, List.drop_length, List.length_append, range1, List.replicate_succ, List.replicate_zero, List.flatten_cons, List.flatten_nil, List.range_zero, gt_iff_lt, take_snocR, go_sem, setCells, setIn]
  refine vw_go rfl ?_; simp only [B2, bt2, List.drop_length, List.length_append, range1, List.replicate_succ, List.replicate_zero, List.flatten_cons, List.flatten_nil, List.range_zero, gt_iff_lt, take_snocR, drop_snocR, go_sem, setCells, setIn]
  refine vw_last rfl ?_; simp only [go_sem, setCells, setIn]
  refine (n_then ?_)
  have e6 : a.map sRow ++ [[.str s]] = (a ++ [s]).map sRow := by simp [sRow]
  have e7 : b.map nRow ++ [[.int .i64 k]] = (b ++ [k]).map nRow := by simp
  rw [e6, e7]
  have ha' : (putLoop s k false m.names m.kids).1 = (a ++ [s]) ++ u :: List.drop (i + 1) m.names := by rw [ha]; simp
  have hb' : (putLoop s k false m.names m.kids).2 = (b ++ [k]) ++ y :: List.drop (i + 1) m.kids := by rw [hb]; simp
  have hla2 : (a ++ [s]).length ≤ 2 * i + 2 := by simp; omega
  have hlb2 : (b ++ [k]).length ≤ 2 * i + 2 := by simp; omega
  clear B1 B2 bt bt2 e6 e7 ha hb
  generalize a ++ [s] = a2 at ha' hla2 ⊢
  generalize b ++ [k] = b2 at hb' hlb2 ⊢
  generalize lg ++ [[(0, 1)]] ++ [[(0, 2)]] = lg2
  have bt : List.take a2.length (a2.map sRow) = a2.map sRow := List.take_of_length_le (by simp)
  have bt2 : List.take b2.length (b2.map nRow) = b2.map nRow := List.take_of_length_le (by simp)
  have B1 : ¬ (a2.length + 1 + 1) * (16 + 1) > bigRow := by simp only [bigRow]; omega
  have B2 : ¬ (b2.length + 1 + 1) * (8 + 1) > bigRow := by simp only [bigRow]; omega
  refine vw_draw mixed rfl rfl ?_; simp only [B1, d0, hc, hin, Int.toNat_natCast, getD_map_of hu, sRow, bt, bm, bm2, List.drop_length, List.length_append, range1, List.replicate_succ, List.replicate_zero, List.flatten_cons, List.flatten_nil, List.range_zero, gt_iff_lt, take_snocR, go_sem, setCells, setIn]
  refine ⟨by unfold allOk; kernel_rfl, ?_⟩
  refine vw_draw_last mixed rfl rfl ?_; simp only [B2, d0, hc2, hik, Int.toNat_natCast, getD_map_of hy, nRow, bt2, bm, bm2, List.drop_length, List.length_append, range1, List.replicate_succ, List.replicate_zero, List.flatten_cons, List.flatten_nil, List.range_zero, gt_iff_lt, take_snocR, drop_snocR, go_sem, setCells, setIn]
  refine ⟨by unfold allOk; kernel_rfl, ?_⟩
  refine (n_block (n_then ?_))
  refine vw_last rfl ?_; simp only [w3, go_sem, setCells, setIn]
  refine (n_then ?_)
  have e4 : a2.map sRow ++ [[.str u]] = (a2 ++ [u]).map sRow := by simp [sRow]
  have e5 : b2.map nRow ++ [[.int .i64 y]] = (b2 ++ [y]).map nRow := by simp
  rw [e4, e5]
  refine ⟨(i + 1, a2 ++ [u], b2 ++ [y], true, lg2 ++ [[(0, 1)]] ++ [[(0, 2)]]), by simp only; omega, ⟨by simp only; omega, by simpa [putLoop] using ha', by simpa [putLoop] using hb', by simp; omega, by simp; omega⟩, ?_⟩
  refine norm_to [(6, 6), (7, 7), (8, 8), (9, 9)] rfl ?_ ?_ <;> simp only [go_sem]
end Go.Proofs.YtoenfbbadfcfpaaGreatDoor
namespace Go.Proofs.YtoenfbbadfcfpaaGreatDoor
open Go.VM Go
set_option maxRecDepth 100000
attribute [local congr] vw_congr runV_congr runH_congr runW_congr runX_congr stuckV_congr stuckX_congr
def tRow (b : Bool) : List T := [.bool b]
theorem tRow_r1 (x : Bool) : (tRow x).map T.toRO = tRow x := by simp [tRow]
theorem tRow_clean (l : List Bool) : cleanRs (l.map tRow) = true := clean_map (fun x => rfl) l
theorem tRow_fine (H : Value → Nat → List (List T) → Prop) (l : List Bool) : fineRs H (l.map tRow) := fineRs_of (tRow_clean l)
theorem nodeRead_ok {s : ByteArray} (h : (nodeRead s).2 = true) : nodeOk (nodeRead s).1 = true := by
  unfold nodeRead at h ⊢
  split at h
  · cases h
  · rename_i h0
    split at h
    · rename_i ht
      rw [if_neg h0, if_pos ht]
      simp only
      cases hk : nodeOk (nodeRaw s) with
      | true => rfl
      | false =>
        exfalso
        have e : nodeText (nodeRaw s) = ⟨#[]⟩ := by unfold nodeText; rw [hk]; rfl
        rw [e] at ht
        exact h0 (by rw [← ht]; rfl)
    · cases h
theorem nodeOk_kids {n : NodeV} (h : nodeOk n = true) : (∀ y ∈ n.kids, 1 ≤ y ∧ y ≤ 11) ∧ n.names.length = n.kids.length := by
  rcases hd : n.dir with _ | _
  · obtain ⟨h1, h2, _⟩ := nodeOk_file hd h
    refine ⟨fun y hy => ?_, by omega⟩
    rw [List.eq_nil_of_length_eq_zero h2] at hy
    cases hy
  · obtain ⟨h1, _, h3⟩ := nodeOk_dir hd h
    refine ⟨fun y hy => ?_, h1⟩
    obtain ⟨i, hi, rfl⟩ := List.getElem_of_mem hy
    have := nodeAt_out (h3 i (by omega))
    rw [List.getD_eq_getElem?_getD (l := n.kids), List.getElem?_eq_getElem hi] at this
    simpa using this.2.2
theorem distinct_le : ∀ (n : Nat) (l : List Int), (∀ y ∈ l, 1 ≤ y ∧ y ≤ (n : Int)) → l.Nodup → l.length ≤ n
  | 0, l, h, _ => by
    cases l with
    | nil => exact Nat.le_refl _
    | cons y l => have := h y (by simp); omega
  | n + 1, l, h, hd => by
    by_cases hc : ((n + 1 : Nat) : Int) ∈ l
    · have h1 := distinct_le n (l.erase ((n + 1 : Nat) : Int)) (fun y hy => by
        have h2 := (List.Nodup.mem_erase_iff hd).1 hy
        have h3 := h y h2.2
        have h4 := h2.1
        omega) (hd.erase _)
      rw [List.length_erase_of_mem hc] at h1
      omega
    · have h1 := distinct_le n l (fun y hy => by
        have h3 := h y hy
        have h4 : y ≠ ((n + 1 : Nat) : Int) := fun e => hc (e ▸ hy)
        omega) hd
      omega
theorem nodeAt_new {n : NodeV} {i : Nat} (h : nodeAtOk n i = true) : hasK (n.kids.take i) (n.kids.getD i 0) = false := by
  unfold nodeAtOk at h
  simp only [Bool.and_eq_true] at h
  simpa using h.2.2.2
theorem nodeOk_few {n : NodeV} (h : nodeOk n = true) : n.kids.length ≤ 11 := by
  have hk := (nodeOk_kids h).1
  rcases hd : n.dir with _ | _
  · obtain ⟨_, h2, _⟩ := nodeOk_file hd h
    omega
  · obtain ⟨h1, _, h3⟩ := nodeOk_dir hd h
    refine distinct_le 11 n.kids hk ?_
    refine List.pairwise_iff_getElem.2 (fun i j hi hj hij e => ?_)
    have := nodeAt_new (h3 j (by omega))
    rw [List.getD_eq_getElem?_getD, List.getElem?_eq_getElem hj] at this
    unfold hasK at this
    rw [List.any_eq_false] at this
    have hm : n.kids[i] ∈ n.kids.take j := List.mem_take_iff_getElem.2 ⟨i, by omega, rfl⟩
    exact this _ hm (by simp [e])
/-- Over the numbers of a folder. -/
def goKids (g : Nat → List Bool → Bool × List Bool) : List Int → List Bool → Bool × List Bool
  | [], met => (true, met)
  | y :: ys, met => if (g y.toNat met).1 = true then goKids g ys (g y.toNat met).2 else (false, (g y.toNat met).2)
/-- As the program goes. -/
def goI (l : List ByteArray) : Nat → Nat → List Bool → Bool × List Bool
  | 0, _, met => (false, met)
  | f + 1, k, met =>
    if (nodeRead (l.getD k ⟨#[]⟩)).2 = true ∧ met.getD k false = false ∧ ¬ (k = 0 ∧ (nodeRead (l.getD k ⟨#[]⟩)).1.dir = false) then goKids (goI l f) (nodeRead (l.getD k ⟨#[]⟩)).1.kids (met.set k true)
    else (false, met)
theorem goKids_len {g : Nat → List Bool → Bool × List Bool} (hg : ∀ k m, m.length = 12 → (g k m).2.length = 12) : ∀ (ys : List Int) (m : List Bool), m.length = 12 → (goKids g ys m).2.length = 12
  | [], m, h => h
  | y :: ys, m, h => by
    rw [goKids]
    split
    · exact goKids_len hg ys _ (hg _ _ h)
    · exact hg _ _ h
theorem goI_len (l : List ByteArray) : ∀ (f k : Nat) (m : List Bool), m.length = 12 → (goI l f k m).2.length = 12
  | 0, k, m, h => h
  | f + 1, k, m, h => by
    rw [goI]
    split
    · exact goKids_len (goI_len l f) _ _ (by rw [List.length_set]; exact h)
    · exact h
structure GoFit (ok b : Bool) (f k : Nat) (n : NodeV) : Prop where
  ok : ok = true
  new : b = false
  fuel : ¬ f = 0
  root : ¬ (k = 0 ∧ n.dir = false)
theorem runs_from0 (v : Value) (l : List ByteArray) (hl : l.length = 12) (hsz : ∀ s ∈ l, s.size ≤ 2 ^ 20) (f : Nat) (k : Nat) (met : List Bool) (deep : Nat) (hm : met.length = 12) (hk : k < 12) (hf : f + deep = 5)
    (ih : ∀ g, f = g + 1 → ∀ (k : Nat) (met : List Bool), met.length = 12 → k < 12 → Runs Tryz.prog 76 [.one (.box [.held v 1 (l.map sRow), .list true 1 (met.map tRow)]), .one (.v (.int .i64 k)), .one (.v (.int .i64 ((deep + 1 : Nat) : Int)))] [.one (.v (.bool (goI l g k met).1))] [(0, ⟨true, 2, [[.held v 1 (l.map sRow), .list true 1 ((goI l g k met).2.map tRow)]], []⟩)]) :
    Runs Tryz.prog 76 [.one (.box [.held v 1 (l.map sRow), .list true 1 (met.map tRow)]), .one (.v (.int .i64 k)), .one (.v (.int .i64 deep))] [.one (.v (.bool (goI l f k met).1))] [(0, ⟨true, 2, [[.held v 1 (l.map sRow), .list true 1 ((goI l f k met).2.map tRow)]], []⟩)] := by
  refine runs_tabB (tab := [(0, .ptr 0 [] 0 0 0), (1, .c (.int .i64 k)), (2, .c (.int .i64 deep))]) (rts := [(0, some ⟨true, 2, [[.held v 1 (l.map sRow), .list true 1 (met.map tRow)]], []⟩)]) (n := 66) (k := 3) Tryz.func76 rfl rfl (by simp) rfl (fun t => ?_) rfl ?_
  · rcases t with _ | _ | _ | t <;> rfl
  obtain ⟨s, hs⟩ : ∃ s, l[k]? = some s := ⟨_, List.getElem?_eq_getElem (by omega)⟩
  obtain ⟨b, hb⟩ : ∃ b, met[k]? = some b := ⟨_, List.getElem?_eq_getElem (by omega)⟩
  have rR := runs_103 s (hsz s (List.mem_of_getElem? hs)) _ rfl
  have hno : ((nodeRead s).2 = false ∨ b = true ∨ f = 0 ∨ (k = 0 ∧ (nodeRead s).1.dir = false)) → goI l f k met = (false, met) := by
    intro h
    cases f with
    | zero => rfl
    | succ g =>
      rw [goI, getD_of hs, getD_of hb, if_neg]
      rintro ⟨h1, h2, h3⟩
      rcases h with h | h | h | h
      · rw [h1] at h; cases h
      · rw [h2] at h; cases h
      · cases h
      · exact h3 h
  have hyes : ∀ g, f = g + 1 → (nodeRead s).2 = true → b = false → ¬ (k = 0 ∧ (nodeRead s).1.dir = false) → goI l f k met = goKids (goI l g) (nodeRead s).1.kids (met.set k true) := by
    rintro g rfl h1 h2 h3
    rw [goI, getD_of hs, getD_of hb, if_pos ⟨h1, h2, h3⟩]
  have hkids : (nodeRead s).2 = true → ∀ y ∈ (nodeRead s).1.kids, 1 ≤ y ∧ y ≤ 11 := fun h => (nodeOk_kids (nodeRead_ok h)).1
  have hkl : (nodeRead s).2 = true → (nodeRead s).1.kids.length ≤ 11 := fun h => nodeOk_few (nodeRead_ok h)
  generalize goI l f k met = R at hno hyes ⊢
  generalize nodeRead s = r at rR hkids hkl hno hyes
  obtain ⟨n, ok⟩ := r
  simp only at rR hkids hkl hno hyes
  have c0 : (0:Int) ≤ (k : Int) := by omega
  have c1 : (k : Int) < (l.length : Int) := by omega
  have c2 : (k : Int) < (met.length : Int) := by omega
  have c3 : k < l.length := by omega
  have c4 : k < met.length := by omega
  have bn : List.take n.names.length (n.names.map sRow) = n.names.map sRow := List.take_of_length_le (by simp)
  have bk : List.take n.kids.length (n.kids.map nRow) = n.kids.map nRow := List.take_of_length_le (by simp)
  have bm : List.take met.length (met.map tRow) = met.map tRow := List.take_of_length_le (by simp)
  refine vw_go rfl ?_; simp only [go_sem, setCells, setIn]
  refine vw_go rfl ?_; simp only [c0, c1, c3, Int.toNat_natCast, getD_map_of hs, sRow, go_sem, setCells, setIn]
  refine ⟨_, _, call_rx [0] Tryz.func103 (rR) rfl rfl rfl rfl rfl rfl rfl (by simp [lendAll, lendC, seek, fresh, nav, rcells, RT.cells, VV.cells, tabE_cons, tabS_cons, ev, take_map_len, sRow_r1, sRow_comp, sRow_clean, nRow_r1, nRow_comp, nRow_clean, tRow_r1, tRow_clean]) rfl (by simp [rcells, RT.cells, CT.clean, T.clean, sRow_r1, sRow_comp, sRow_clean, nRow_r1, nRow_comp, nRow_clean, tRow_r1, tRow_clean]) rfl rfl, ?_⟩
  simp only [runH, runX, bn, bk, go_sem, setCells, setIn]
  refine vw_join (α := Unit) (fun _ => ⟨tabE [(0, .ptr 0 [] 0 0 0), (1, .c (.int .i64 k)), (2, .c (.int .i64 deep)), (7, .ptr 3 [] 0 0 0)], tabS [(0, some ⟨true, 2, [[.held v 1 (l.map sRow), .list true 1 (met.map tRow)]], []⟩),
      (3, some ⟨true, 4, [[.bool n.dir, .list true 1 (n.names.map sRow), .list true 1 (n.kids.map nRow), .str n.data]], [[(0, 1)], [(0, 2)]]⟩)], 4⟩) (fun _ => GoFit ok b f k n) ?_ ?_
  · cases ok
    case false =>
      rw [hno (.inl rfl)]
      refine vw_go rfl ?_; simp only [go_sem, setCells, setIn]
      refine vw_cond (t := true) rfl (fun _ => ?_) (fun h => nomatch h)
      refine vw_go rfl ?_; simp only [go_sem, setCells, setIn]
      exact vw_ret (r_then (e_ret (ret_b rfl rfl (by simp [RB]) rfl (by simp only [takeCs, takeC, bm, go_sem, setCells, setIn]; rfl) (by exact ⟨⟨by simp, _, rfl, rfl, rfl, rfl⟩, trivial⟩))))
    cases b
    case true =>
      rw [hno (.inr (.inl rfl))]
      refine vw_go rfl ?_; simp only [c0, c2, c4, Int.toNat_natCast, getD_map_of hb, tRow, List.drop_length, bm, go_sem, setCells, setIn]
      refine vw_cond (t := true) rfl (fun _ => ?_) (fun h => nomatch h)
      refine vw_go rfl ?_; simp only [go_sem, setCells, setIn]
      exact vw_ret (r_then (e_ret (ret_b rfl rfl (by simp [RB]) rfl (by simp only [takeCs, takeC, bm, go_sem, setCells, setIn]; rfl) (by exact ⟨⟨by simp, _, rfl, rfl, rfl, rfl⟩, trivial⟩))))
    by_cases hf0 : f = 0
    · have hdp : (4 : Int) < (deep : Int) := by omega
      rw [hno (.inr (.inr (.inl hf0)))]
      refine vw_go rfl ?_; simp only [c0, c2, c4, Int.toNat_natCast, getD_map_of hb, tRow, List.drop_length, bm, hdp, go_sem, setCells, setIn]
      refine vw_cond (t := true) rfl (fun _ => ?_) (fun h => nomatch h)
      refine vw_go rfl ?_; simp only [go_sem, setCells, setIn]
      exact vw_ret (r_then (e_ret (ret_b rfl rfl (by simp [RB]) rfl (by simp only [takeCs, takeC, bm, go_sem, setCells, setIn]; rfl) (by exact ⟨⟨by simp, _, rfl, rfl, rfl, rfl⟩, trivial⟩))))
    have hdp : ¬ (4 : Int) < (deep : Int) := by omega
    by_cases hk0 : k = 0
    · have hki : ((k : Int) = 0) = True := eq_true (by omega)
      cases hd : n.dir
      · rw [hno (.inr (.inr (.inr ⟨hk0, hd⟩)))]
        refine vw_go rfl ?_; simp only [c0, c2, c4, Int.toNat_natCast, getD_map_of hb, tRow, List.drop_length, bm, hdp, hki, go_sem, setCells, setIn]
        refine vw_cond (t := true) rfl (fun _ => ?_) (fun h => nomatch h)
        refine vw_go rfl ?_; simp only [go_sem, setCells, setIn]
        exact vw_ret (r_then (e_ret (ret_b rfl rfl (by simp [RB]) rfl (by simp only [takeCs, takeC, bm, go_sem, setCells, setIn]; rfl) (by exact ⟨⟨by simp, _, rfl, rfl, rfl, rfl⟩, trivial⟩))))
      · (refine vw_go rfl ?_; simp only [c0, c2, c4, Int.toNat_natCast, getD_map_of hb, tRow, List.drop_length, bm, hdp, hki, go_sem, setCells, setIn])
        refine vw_cond (t := false) rfl (fun h => nomatch h) (fun _ => ?_)
        refine vw_skip (n_then ⟨(), ⟨rfl, rfl, hf0, fun h => by rw [hd] at h; cases h.2⟩, ?_⟩)
        refine norm_to [(0, 0), (76803, 3)] rfl ?_ ?_ <;> simp only [go_sem]
    · have hki : ((k : Int) = 0) = False := eq_false (by omega)
      refine vw_go rfl ?_; simp only [c0, c2, c4, Int.toNat_natCast, getD_map_of hb, tRow, List.drop_length, bm, hdp, hki, go_sem, setCells, setIn]
      refine vw_cond (t := false) rfl (fun h => nomatch h) (fun _ => ?_)
      refine vw_skip (n_then ⟨(), ⟨rfl, rfl, hf0, fun h => hk0 h.1⟩, ?_⟩)
      refine norm_to [(0, 0), (76803, 3)] rfl ?_ ?_ <;> simp only [go_sem]
  rintro _ ⟨rfl, rfl, hf0, hz⟩
  obtain ⟨g, rfl⟩ : ∃ g, f = g + 1 := ⟨f - 1, by omega⟩
  have hkids := hkids rfl
  have hkl := hkl rfl
  have hR := hyes g rfl rfl rfl hz
  clear hno hyes
  have e4 : (met.map tRow).set k [.bool true] = (met.set k true).map tRow := by rw [List.map_set]; rfl
  have hm2 : (met.set k true).length = 12 := by rw [List.length_set]; exact hm
  refine vw_go rfl ?_; simp only [c0, c2, c4, Int.toNat_natCast, getD_map_of hb, tRow, List.drop_length, bm, e4, go_sem, setCells, setIn]
  refine vw_seq ?_
  refine vw_go rfl ?_; simp only [List.drop_length, bk, go_sem, setCells, setIn]
  generalize met.set k true = met0 at hm2 hR ⊢
  refine vw_block ?_
  refine vw_loop_tab (α := Nat × List Bool × List Path) (fun x => n.kids.length - x.1) (fun x => ⟨tabE [(0, .ptr 0 [] 0 0 0), (2, .c (.int .i64 deep)), (53, .al 3 [(0, 2)] 2 1 0 n.kids.length), (54, .c (.int .i64 n.kids.length)), (55, .c (.int .i64 x.1))],
      tabS [(0, some ⟨true, 2, [[.held v 1 (l.map sRow), .list true 1 (x.2.1.map tRow)]], x.2.2⟩), (3, some ⟨true, 4, [[.bool n.dir, .list true 1 (n.names.map sRow), .list true 1 (n.kids.map nRow), .str n.data]], [[(0, 1)], [(0, 2)]]⟩)], 4⟩)
    (fun x => x.1 ≤ n.kids.length ∧ goKids (goI l g) (n.kids.drop x.1) x.2.1 = R ∧ x.2.1.length = 12) (x := (0, met0, [])) ?round ?h0 ?hn
  case h0 => exact ⟨Nat.zero_le _, hR.symm, hm2⟩
  case hn =>
    refine norm_to [(0, 0), (3, 3)] rfl ?_ ?_ <;> simp only [go_sem]
  rintro ⟨i, m, lg⟩ ⟨hi, hg, hm3⟩
  simp only at hi hg hm3
  by_cases hc : (i : Int) < n.kids.length
  case neg =>
    rw [List.drop_eq_nil_of_le (by omega), goKids] at hg
    subst hg
    have bm : List.take m.length (m.map tRow) = m.map tRow := List.take_of_length_le (by simp)
    refine vw_go rfl ?_; simp only [hc, go_sem, setCells, setIn]
    refine vw_seq ?_
    refine vw_cond (t := false) rfl (fun h => nomatch h) (fun _ => ?_)
    refine vw_exit (x_then (x_then (x_block (n_then ?_))))
    refine vw_go rfl ?_; simp only [go_sem, setCells, setIn]
    exact vw_ret (e_ret (ret_b rfl rfl (by simp [RB]) rfl (by simp only [takeCs, takeC, bm, List.drop_length, go_sem, setCells, setIn]; rfl) (by exact ⟨⟨by simp, _, rfl, rfl, rfl, rfl⟩, trivial⟩)))
  obtain ⟨y, hy⟩ : ∃ y, n.kids[i]? = some y := ⟨_, List.getElem?_eq_getElem (by omega)⟩
  have hdr : n.kids.drop i = y :: n.kids.drop (i + 1) := by
    rw [List.drop_eq_getElem_cons (by omega)]
    congr 1
    rw [List.getElem?_eq_getElem (by omega)] at hy
    exact Option.some.inj hy
  have hyr := hkids y (List.mem_of_getElem? hy)
  obtain ⟨q, rfl⟩ : ∃ q : Nat, y = q := ⟨y.toNat, by omega⟩
  rw [hdr, goKids, Int.toNat_natCast] at hg
  have rI := ih g rfl q m hm3 (by omega)
  have hgl := goI_len l g q m hm3
  generalize goI l g q m = o at rI hg hgl
  obtain ⟨o, m2⟩ := o
  simp only at rI hg hgl
  have d0 : (0:Int) ≤ (i : Int) := by omega
  have w3 : IntKind.wrap .i64 ((i:Int) + 1) = ((i + 1 : Nat) : Int) := by rw [wrap_i64 (by omega) (by omega)]; rfl
  have w4 : IntKind.wrap .i64 ((deep:Int) + 1) = ((deep + 1 : Nat) : Int) := by rw [wrap_i64 (by omega) (by omega)]; rfl
  have hin : i < n.kids.length := by omega
  have bm : List.take m.length (m.map tRow) = m.map tRow := List.take_of_length_le (by simp)
  have bm2 : List.take m2.length (m2.map tRow) = m2.map tRow := List.take_of_length_le (by simp)
  refine vw_go rfl ?_; simp only [hc, go_sem, setCells, setIn]
  refine vw_seq ?_
  refine vw_cond (t := true) rfl (fun _ => ?_) (fun h => nomatch h)
  refine vw_skip (n_then ?_)
  refine vw_seq ?_
  refine vw_block ?_
  refine vw_go rfl ?_; simp only [d0, hc, hin, Int.toNat_natCast, getD_map_of hy, nRow, List.drop_length, go_sem, setCells, setIn]
  refine vw_go rfl ?_; simp only [w4, go_sem, setCells, setIn]
  refine ⟨_, _, call_pt [0, 0, 0] 0 Tryz.func76 (rI) rfl rfl rfl rfl rfl rfl rfl rfl (by simp [lendAll, lendC, seek, fresh, nav, rcells, RT.cells, VV.cells, tabE_cons, tabS_cons, St.put, ev, lit, take_map_len, bm]) rfl rfl (by simp [rcells, RT.cells, CT.fine, T.fine, bm]) (by exact ⟨.inr ⟨0, _, _, rfl, .head _, .head _⟩, tRow_fine _ _, trivial⟩) rfl rfl, ?_⟩
  simp only [runH, runX, go_sem, setCells, setIn]
  cases o
  case false =>
    rw [if_neg (by decide)] at hg
    subst hg
    refine vw_cond (t := true) rfl (fun _ => ?_) (fun h => nomatch h)
    refine vw_go rfl ?_; simp only [go_sem, setCells, setIn]
    exact vw_ret (r_block (r_then (r_then (r_block (r_then (e_ret (ret_b rfl rfl (by simp [RB]) rfl (by simp only [takeCs, takeC, bm2, List.drop_length, go_sem, setCells, setIn]; rfl) (by exact ⟨⟨by simp, _, rfl, rfl, rfl, rfl⟩, trivial⟩))))))))
  rw [if_pos rfl] at hg
  refine vw_cond (t := false) rfl (fun h => nomatch h) (fun _ => ?_)
  refine vw_skip (n_block (n_then ?_))
  refine vw_last rfl ?_; simp only [w3, go_sem, setCells, setIn]
  refine (n_then ?_)
  refine ⟨(i + 1, m2, lg ++ [[]]), by simp only; omega, ⟨by simp only; omega, hg, hgl⟩, ?_⟩
  refine norm_to [(0, 0), (3, 3)] rfl ?_ ?_ <;> simp only [go_sem]
theorem runs_76 (v : Value) (l : List ByteArray) (hl : l.length = 12) (hsz : ∀ s ∈ l, s.size ≤ 2 ^ 20) : ∀ (f k : Nat) (met : List Bool) (deep : Nat), met.length = 12 → k < 12 → f + deep = 5 →
    Runs Tryz.prog 76 [.one (.box [.held v 1 (l.map sRow), .list true 1 (met.map tRow)]), .one (.v (.int .i64 k)), .one (.v (.int .i64 deep))] [.one (.v (.bool (goI l f k met).1))] [(0, ⟨true, 2, [[.held v 1 (l.map sRow), .list true 1 ((goI l f k met).2.map tRow)]], []⟩)]
  | 0, k, met, deep, hm, hk, hf => runs_from0 v l hl hsz 0 k met deep hm hk hf (fun g e => by omega)
  | f + 1, k, met, deep, hm, hk, hf => runs_from0 v l hl hsz (f + 1) k met deep hm hk hf (fun g e k met hm hk => by
      have e' : g = f := by omega
      subst e'
      exact runs_76 v l hl hsz g k met (deep + 1) hm hk (by omega))
end Go.Proofs.YtoenfbbadfcfpaaGreatDoor
