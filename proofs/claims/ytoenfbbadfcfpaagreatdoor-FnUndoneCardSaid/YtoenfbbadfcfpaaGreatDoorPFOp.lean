/- Nodes: KidDrop and KidPut of the reference. The order of texts; a text put into a list that ascends. Put values: trees, and the walks of their size, their copy, their comparing (one; a slice). Printed by a program (tfun.py). Op values: trees, and the walks of their size, their copy, their comparing (one; a slice). Printed by a program (tfun.py). -/
import Derived.Test.YtoenfbbadfcfpaaGreatDoorPFCall
import Derived.Test.YtoenfbbadfcfpaaGreatDoorPFBase
namespace Go.Proofs.YtoenfbbadfcfpaaGreatDoor
open Go.VM Go
set_option maxRecDepth 100000
set_option linter.unusedSimpArgs false
set_option linter.unusedVariables false
attribute [local congr] vw_congr runV_congr runH_congr runW_congr runX_congr stuckV_congr stuckX_congr

def skipN {α : Type} (at_ : Int) : Nat → List α → List α
  | _, [] => []
  | i, x :: l => if (i : Int) = at_ then skipN at_ (i + 1) l else x :: skipN at_ (i + 1) l
theorem skipN_le {α : Type} (at_ : Int) : ∀ (l : List α) (i : Nat), (skipN at_ i l).length ≤ l.length
  | [], i => Nat.le_refl _
  | x :: l, i => by
    have := skipN_le at_ l (i + 1)
    unfold skipN
    split
    · simp only [List.length_cons]; omega
    · simp only [List.length_cons]; omega
theorem skipN_len {α β : Type} (at_ : Int) : ∀ (l : List α) (m : List β) (i : Nat), l.length = m.length → (skipN at_ i l).length = (skipN at_ i m).length
  | [], [], i, _ => rfl
  | x :: l, y :: m, i, h => by
    have := skipN_len at_ l m (i + 1) (by simpa using h)
    unfold skipN
    split
    · exact this
    · simp only [List.length_cons, this]
theorem skipN_mem {α : Type} (at_ : Int) : ∀ (l : List α) (i : Nat) (x : α), x ∈ skipN at_ i l → x ∈ l
  | [], i, x, h => h
  | y :: l, i, x, h => by
    unfold skipN at h
    split at h
    · exact List.mem_cons_of_mem _ (skipN_mem at_ l _ x h)
    · rcases List.mem_cons.1 h with h | h
      · exact h ▸ List.mem_cons_self
      · exact List.mem_cons_of_mem _ (skipN_mem at_ l _ x h)
def kidDropF (n : NodeV) (s : ByteArray) : NodeV := ⟨n.dir, skipN (kidIx n.names n.kids s 0) 0 n.names, skipN (kidIx n.names n.kids s 0) 0 n.kids, n.data⟩

set_option maxHeartbeats 1000000 in
theorem runs_110 (n : NodeV) (h : n.names.length = n.kids.length) (h1 : n.names.length ≤ 1000) (s : ByteArray) (N : NodeV) (hN : N = kidDropF n s) :
    Runs Tryz.prog 110 [.agg [.v (.bool n.dir), .v (.list false 1 (n.names.map sRow)), .v (.list false 1 (n.kids.map nRow)), .v (.str n.data)], .one (.v (.str s))] [.agg [.v (.bool N.dir), .v (.list true 1 (N.names.map sRow)), .v (.list true 1 (N.kids.map nRow)), .v (.str N.data)]] [] := by
  refine runs_tab (tab := [(0, .agg [.c (.bool n.dir), .c (.list false 1 (n.names.map sRow)), .c (.list false 1 (n.kids.map nRow)), .c (.str n.data)]), (1, .c (.str s))]) (rts := []) (n := 54) (k := 5) Tryz.func110 rfl rfl (by simp) rfl (fun t => ?_) rfl ?_
  · rcases t with _ | _ | t <;> rfl
  have rL := runs_125 n (by omega) (by omega) s
  unfold kidDropF at hN
  generalize kidIx n.names n.kids s 0 = at_ at rL hN
  (refine vw_go rfl ?_; simp only [go_sem, setCells, setIn])
  (refine vw_go rfl ?_; simp only [go_sem, setCells, setIn])
  (refine vw_go rfl ?_; simp only [go_sem, setCells, setIn])
  (refine ⟨_, _, call_rx [0, 0] Tryz.func125 (rL) rfl rfl rfl rfl rfl rfl rfl (by simp [lendAll, lendC, seek, fresh, nav, rcells, RT.cells, VV.cells, tabE_cons, tabS_cons, ev, take_map_len, sRow_r1, sRow_comp, sRow_clean, nRow_r1, nRow_comp, nRow_clean]) rfl (by simp [rcells, RT.cells, CT.clean, T.clean, sRow_r1, sRow_comp, sRow_clean, nRow_r1, nRow_comp, nRow_clean]) rfl rfl, ?_⟩)
  simp only [runH, runX, go_sem, setCells, setIn]
  refine vw_seq ?_
  (refine vw_go rfl ?_; simp only [go_sem, setCells, setIn])
  refine vw_block ?_
  refine vw_loop_tab (α := Nat × List ByteArray × List Int × List Path) (fun x => n.names.length - x.1) (fun x => ⟨tabE [(2, .ptr 5 [] 0 0 0), (4, .ptr 6 [] 0 0 0), (5, .ptr 7 [] 0 0 0), (6, .c (.int .i64 at_)), (7, .c (.int .i64 x.1))],
      tabS [(5, some ⟨true, 4, [[.bool n.dir, .list false 1 (n.names.map sRow), .list false 1 (n.kids.map nRow), .str n.data]], []⟩), (6, some ⟨true, 4, [[.bool false, .list true 1 [], .list true 1 [], .str ⟨#[]⟩]], []⟩), (7, some ⟨true, 4, [[.bool n.dir, .list true 1 (x.2.1.map sRow), .list true 1 (x.2.2.1.map nRow), .str n.data]], x.2.2.2⟩)], 8⟩)
    (fun x => x.1 ≤ n.names.length ∧ skipN at_ 0 n.names = x.2.1 ++ skipN at_ x.1 (n.names.drop x.1) ∧ skipN at_ 0 n.kids = x.2.2.1 ++ skipN at_ x.1 (n.kids.drop x.1) ∧ x.2.1.length ≤ x.1 ∧ x.2.2.1.length ≤ x.1) (x := (0, [], [], [[(0, 1)], [(0, 2)]])) ?round ?h0 ?hn
  case h0 => exact ⟨Nat.zero_le _, rfl, rfl, Nat.le_refl _, Nat.le_refl _⟩
  case hn =>
    (refine norm_to [(5, 5), (1029, 6), (70661, 7)] rfl ?_ ?_ <;> simp only [go_sem])
  rintro ⟨i, a, b, lg⟩ ⟨hi, ha, hb, hla, hlb⟩
  simp only at hi ha hb hla hlb
  refine vw_seq ?_
  have bt : List.take a.length (a.map sRow) = a.map sRow := List.take_of_length_le (by simp)
  have bt2 : List.take b.length (b.map nRow) = b.map nRow := List.take_of_length_le (by simp)
  by_cases hc : (i : Int) < n.names.length
  case neg =>
    rw [List.drop_eq_nil_of_le (by omega), skipN, List.append_nil] at ha hb
    rw [ha, hb] at hN
    subst hN
    (refine vw_go rfl ?_; simp only [hc, go_sem, setCells, setIn])
    (refine vw_cond (t := false) rfl (fun h => nomatch h) (fun _ => ?_))
    refine vw_exit (x_then (x_then (x_block (n_then ?_))))
    (refine vw_go rfl ?_; simp only [List.drop_length, bt, bt2, go_sem, setCells, setIn])
    exact vw_ret (e_ret (ret_by rfl rfl (by simp [RB]) rfl (by simp only [takeCs, takeC, go_sem, setCells, setIn])))
  have hin : i < n.names.length := by omega
  have hik : i < n.kids.length := by omega
  have hc2 : (i : Int) < n.kids.length := by omega
  obtain ⟨u, hu⟩ : ∃ u, n.names[i]? = some u := ⟨_, List.getElem?_eq_getElem hin⟩
  obtain ⟨y, hy⟩ : ∃ y, n.kids[i]? = some y := ⟨_, List.getElem?_eq_getElem hik⟩
  rw [drop_of hu, skipN] at ha
  rw [drop_of hy, skipN] at hb
  have d0 : (0:Int) ≤ (i : Int) := by omega
  have w3 : IntKind.wrap .i64 ((i:Int) + 1) = ((i + 1 : Nat) : Int) := by rw [wrap_i64 (by omega) (by omega)]; rfl
  (refine vw_go rfl ?_; simp only [hc, hc2, go_sem, setCells, setIn])
  (refine vw_cond (t := true) rfl (fun _ => ?_) (fun h => nomatch h))
  refine vw_skip (n_then ?_)
  refine vw_seq ?_
  refine vw_block ?_
  by_cases he : (i : Int) = at_
  · rw [if_pos he] at ha hb
    obtain rfl : at_ = (i : Int) := he.symm
    (refine vw_go rfl ?_; simp only [go_sem, setCells, setIn])
    (refine vw_cond (t := false) rfl (fun h => nomatch h) (fun _ => ?_))
    refine vw_skip (n_block (n_then ?_))
    (refine vw_last rfl ?_; simp only [w3, go_sem, setCells, setIn])
    refine (n_then ?_)
    refine ⟨(i + 1, a, b, lg), by simp only; omega, ⟨by simp only; omega, ha, hb, by simp only; omega, by simp only; omega⟩, ?_⟩
    (refine norm_to [(5, 5), (6, 6), (7, 7)] rfl ?_ ?_ <;> simp only [go_sem])
  rw [if_neg he] at ha hb
  have B1 : ¬ (a.length + 1 + 1) * (16 + 1) > bigRow := by simp only [bigRow]; omega
  have B2 : ¬ (b.length + 1 + 1) * (8 + 1) > bigRow := by simp only [bigRow]; omega
  have bt : List.take a.length (a.map sRow) = a.map sRow := List.take_of_length_le (by simp)
  have bt2 : List.take b.length (b.map nRow) = b.map nRow := List.take_of_length_le (by simp)
  (refine vw_go rfl ?_; simp only [he, go_sem, setCells, setIn])
  (refine vw_cond (t := true) rfl (fun _ => ?_) (fun h => nomatch h))
  (refine vw_draw mixed rfl rfl ?_; simp only [B1, d0, hc, hin, Int.toNat_natCast, getD_map_of hu, sRow, bt, List.drop_length, List.length_append, range1, List.replicate_succ, List.replicate_zero, List.flatten_cons, List.flatten_nil, List.range_zero, gt_iff_lt, take_snocR, go_sem, setCells, setIn])
  refine ⟨by unfold allOk; kernel_rfl, ?_⟩
  (refine vw_draw_last mixed rfl rfl ?_; simp only [B2, d0, hc2, hik, Int.toNat_natCast, getD_map_of hy, nRow, bt2, List.drop_length, List.length_append, range1, List.replicate_succ, List.replicate_zero, List.flatten_cons, List.flatten_nil, List.range_zero, gt_iff_lt, take_snocR, drop_snocR, go_sem, setCells, setIn])
  refine ⟨by unfold allOk; kernel_rfl, ?_⟩
  refine (n_block (n_then ?_))
  (refine vw_last rfl ?_; simp only [w3, go_sem, setCells, setIn])
  refine (n_then ?_)
  have e4 : a.map sRow ++ [[.str u]] = (a ++ [u]).map sRow := by simp [sRow]
  have e5 : b.map nRow ++ [[.int .i64 y]] = (b ++ [y]).map nRow := by simp
  rw [e4, e5]
  refine ⟨(i + 1, a ++ [u], b ++ [y], lg ++ [[(0, 1)]] ++ [[(0, 2)]]), by simp only; omega, ⟨by simp only; omega, by simpa using ha, by simpa using hb, by simp; omega, by simp; omega⟩, ?_⟩
  (refine norm_to [(5, 5), (6, 6), (7, 7)] rfl ?_ ?_ <;> simp only [go_sem])

def gtS (u s : ByteArray) : Bool := !(Op.bytesLess u.toList s.toList || decide (u = s))
def putLoop (s : ByteArray) (k : Int) : Bool → List ByteArray → List Int → List ByteArray × List Int
  | true, xs, ys => (xs, ys)
  | false, a :: xs, b :: ys => if gtS a s = true then (s :: a :: xs, k :: b :: ys) else (a :: (putLoop s k false xs ys).1, b :: (putLoop s k false xs ys).2)
  | false, _, _ => ([s], [k])
def kidPutF (n : NodeV) (s : ByteArray) (k : Int) : NodeV :=
  ⟨n.dir, (putLoop s k false (kidDropF n s).names (kidDropF n s).kids).1, (putLoop s k false (kidDropF n s).names (kidDropF n s).kids).2, n.data⟩

set_option maxHeartbeats 1000000 in
theorem runs_91 (n : NodeV) (h : n.names.length = n.kids.length) (h1 : n.names.length ≤ 1000) (s : ByteArray) (k : Int) (N : NodeV) (hN : N = kidPutF n s k) :
    Runs Tryz.prog 91 [.agg [.v (.bool n.dir), .v (.list false 1 (n.names.map sRow)), .v (.list false 1 (n.kids.map nRow)), .v (.str n.data)], .one (.v (.str s)), .one (.v (.int .i64 k))] [.agg [.v (.bool N.dir), .v (.list true 1 (N.names.map sRow)), .v (.list true 1 (N.kids.map nRow)), .v (.str N.data)]] [] := by
  refine runs_tab (tab := [(0, .agg [.c (.bool n.dir), .c (.list false 1 (n.names.map sRow)), .c (.list false 1 (n.kids.map nRow)), .c (.str n.data)]), (1, .c (.str s)), (2, .c (.int .i64 k))]) (rts := []) (n := 84) (k := 6) Tryz.func91 rfl rfl (by simp) rfl (fun t => ?_) rfl ?_
  · rcases t with _ | _ | _ | t <;> rfl
  have rD := runs_110 n h h1 s _ rfl
  have hml : (kidDropF n s).names.length = (kidDropF n s).kids.length := skipN_len _ _ _ _ h
  have hm1 : (kidDropF n s).names.length ≤ 1000 := Nat.le_trans (skipN_le _ _ _) h1
  unfold kidPutF at hN
  generalize kidDropF n s = m at rD hml hm1 hN
  have bm : List.take m.names.length (m.names.map sRow) = m.names.map sRow := List.take_of_length_le (by simp)
  have bm2 : List.take m.kids.length (m.kids.map nRow) = m.kids.map nRow := List.take_of_length_le (by simp)
  (refine vw_go rfl ?_; simp only [go_sem, setCells, setIn])
  (refine vw_go rfl ?_; simp only [go_sem, setCells, setIn])
  (refine ⟨_, _, call_rx [0, 0] Tryz.func110 (rD) rfl rfl rfl rfl rfl rfl rfl (by simp [lendAll, lendC, seek, fresh, nav, rcells, RT.cells, VV.cells, tabE_cons, tabS_cons, ev, take_map_len, sRow_r1, sRow_comp, sRow_clean, nRow_r1, nRow_comp, nRow_clean]) rfl (by simp [rcells, RT.cells, CT.clean, T.clean, sRow_r1, sRow_comp, sRow_clean, nRow_r1, nRow_comp, nRow_clean]) rfl rfl, ?_⟩)
  simp only [runH, runX, bm, bm2, go_sem, setCells, setIn]
  (refine vw_go rfl ?_; simp only [go_sem, setCells, setIn])
  (refine vw_go rfl ?_; simp only [go_sem, setCells, setIn])
  refine vw_seq ?_
  (refine vw_go rfl ?_; simp only [go_sem, setCells, setIn])
  refine vw_block ?_
  refine vw_loop_tab (α := Nat × List ByteArray × List Int × Bool × List Path) (fun x => m.names.length - x.1) (fun x => ⟨tabE [(1, .c (.str s)), (2, .c (.int .i64 k)), (6, .ptr 7 [] 0 0 0), (7, .ptr 8 [] 0 0 0), (8, .ptr 9 [] 0 0 0), (9, .c (.bool x.2.2.2.1)), (10, .c (.int .i64 x.1))],
      tabS [(7, some ⟨true, 4, [[.bool false, .list true 1 [], .list true 1 [], .str ⟨#[]⟩]], []⟩), (8, some ⟨true, 4, [[.bool m.dir, .list true 1 (m.names.map sRow), .list true 1 (m.kids.map nRow), .str m.data]], [[(0, 1)], [(0, 2)]]⟩), (9, some ⟨true, 4, [[.bool n.dir, .list true 1 (x.2.1.map sRow), .list true 1 (x.2.2.1.map nRow), .str n.data]], x.2.2.2.2⟩)], 10⟩)
    (fun x => x.1 ≤ m.names.length ∧ (putLoop s k false m.names m.kids).1 = x.2.1 ++ (putLoop s k x.2.2.2.1 (m.names.drop x.1) (m.kids.drop x.1)).1 ∧ (putLoop s k false m.names m.kids).2 = x.2.2.1 ++ (putLoop s k x.2.2.2.1 (m.names.drop x.1) (m.kids.drop x.1)).2 ∧ x.2.1.length ≤ 2 * x.1 + 1 ∧ x.2.2.1.length ≤ 2 * x.1 + 1) (x := (0, [], [], false, [[(0, 1)], [(0, 2)]])) ?round ?h0 ?hn
  case h0 => exact ⟨Nat.zero_le _, rfl, rfl, Nat.zero_le _, Nat.zero_le _⟩
  case hn =>
    (refine norm_to [(1030, 7), (68614, 8), (136198, 9)] rfl ?_ ?_ <;> simp only [go_sem])
  rintro ⟨i, a, b, put, lg⟩ ⟨hi, ha, hb, hla, hlb⟩
  simp only at hi ha hb hla hlb
  refine vw_seq ?_
  have bt : List.take a.length (a.map sRow) = a.map sRow := List.take_of_length_le (by simp)
  have bt2 : List.take b.length (b.map nRow) = b.map nRow := List.take_of_length_le (by simp)
  have B1 : ¬ (a.length + 1 + 1) * (16 + 1) > bigRow := by simp only [bigRow]; omega
  have B2 : ¬ (b.length + 1 + 1) * (8 + 1) > bigRow := by simp only [bigRow]; omega
  by_cases hc : (i : Int) < m.names.length
  case neg =>
    rw [List.drop_eq_nil_of_le (by omega), List.drop_eq_nil_of_le (by omega)] at ha hb
    cases put
    · simp only [putLoop] at ha hb
      rw [ha, hb] at hN
      subst hN
      (refine vw_go rfl ?_; simp only [hc, bm, bm2, go_sem, setCells, setIn])
      (refine vw_cond (t := false) rfl (fun h => nomatch h) (fun _ => ?_))
      refine vw_exit (x_then (x_then (x_block (n_then ?_))))
      refine vw_seq ?_
      (refine vw_go rfl ?_; simp only [go_sem, setCells, setIn])
      (refine vw_cond (t := true) rfl (fun _ => ?_) (fun h => nomatch h))
      (refine vw_go rfl ?_; simp only [B1, bt, List.drop_length, List.length_append, range1, List.replicate_succ, List.replicate_zero, List.flatten_cons, List.flatten_nil, List.range_zero, gt_iff_lt, take_snocR, go_sem, setCells, setIn])
      (refine vw_last rfl ?_; simp only [B2, bt2, List.drop_length, List.length_append, range1, List.replicate_succ, List.replicate_zero, List.flatten_cons, List.flatten_nil, List.range_zero, gt_iff_lt, take_snocR, drop_snocR, go_sem, setCells, setIn])
      refine (n_then ?_)
      have e4 : a.map sRow ++ [[.str s]] = (a ++ [s]).map sRow := by simp [sRow]
      have e5 : b.map nRow ++ [[.int .i64 k]] = (b ++ [k]).map nRow := by simp
      rw [e4, e5]
      have bt3 : List.take (a.length + 1) ((a ++ [s]).map sRow) = (a ++ [s]).map sRow := List.take_of_length_le (by simp)
      have bt4 : List.take (b.length + 1) ((b ++ [k]).map nRow) = (b ++ [k]).map nRow := List.take_of_length_le (by simp)
      have ll : (a ++ [s]).length = a.length + 1 := by simp
      have ll2 : (b ++ [k]).length = b.length + 1 := by simp
      (refine vw_go rfl ?_; simp only [List.drop_length, bt3, bt4, ll, ll2, go_sem, setCells, setIn])
      exact vw_ret (e_ret (ret_by rfl rfl (by simp [RB]) rfl (by simp only [takeCs, takeC, go_sem, setCells, setIn])))
    · simp only [putLoop, List.append_nil] at ha hb
      rw [ha, hb] at hN
      subst hN
      (refine vw_go rfl ?_; simp only [hc, bm, bm2, go_sem, setCells, setIn])
      (refine vw_cond (t := false) rfl (fun h => nomatch h) (fun _ => ?_))
      refine vw_exit (x_then (x_then (x_block (n_then ?_))))
      refine vw_seq ?_
      (refine vw_go rfl ?_; simp only [go_sem, setCells, setIn])
      (refine vw_cond (t := false) rfl (fun h => nomatch h) (fun _ => ?_))
      refine vw_skip (n_then ?_)
      (refine vw_go rfl ?_; simp only [List.drop_length, bt, bt2, go_sem, setCells, setIn])
      exact vw_ret (e_ret (ret_by rfl rfl (by simp [RB]) rfl (by simp only [takeCs, takeC, go_sem, setCells, setIn])))
  have hin : i < m.names.length := by omega
  have hik : i < m.kids.length := by omega
  have hc2 : (i : Int) < m.kids.length := by omega
  obtain ⟨u, hu⟩ : ∃ u, m.names[i]? = some u := ⟨_, List.getElem?_eq_getElem hin⟩
  obtain ⟨y, hy⟩ : ∃ y, m.kids[i]? = some y := ⟨_, List.getElem?_eq_getElem hik⟩
  rw [drop_of hu, drop_of hy] at ha hb
  have d0 : (0:Int) ≤ (i : Int) := by omega
  have w3 : IntKind.wrap .i64 ((i:Int) + 1) = ((i + 1 : Nat) : Int) := by rw [wrap_i64 (by omega) (by omega)]; rfl
  (refine vw_go rfl ?_; simp only [hc, bm, bm2, go_sem, setCells, setIn])
  (refine vw_cond (t := true) rfl (fun _ => ?_) (fun h => nomatch h))
  refine vw_skip (n_then ?_)
  refine vw_seq ?_
  refine vw_block ?_
  cases put
  case true =>
    simp only [putLoop] at ha hb
    refine vw_seq ?_
    (refine vw_go rfl ?_; simp only [d0, hc, hin, Int.toNat_natCast, getD_map_of hu, sRow, bm, bm2, go_sem, setCells, setIn])
    (refine vw_cond (t := false) rfl (fun h => nomatch h) (fun _ => ?_))
    refine vw_skip (n_then ?_)
    (refine vw_draw mixed rfl rfl ?_; simp only [B1, d0, hc, hin, Int.toNat_natCast, getD_map_of hu, sRow, bt, bm, bm2, List.drop_length, List.length_append, range1, List.replicate_succ, List.replicate_zero, List.flatten_cons, List.flatten_nil, List.range_zero, gt_iff_lt, take_snocR, go_sem, setCells, setIn])
    refine ⟨by unfold allOk; kernel_rfl, ?_⟩
    (refine vw_draw_last mixed rfl rfl ?_; simp only [B2, d0, hc2, hik, Int.toNat_natCast, getD_map_of hy, nRow, bt2, bm, bm2, List.drop_length, List.length_append, range1, List.replicate_succ, List.replicate_zero, List.flatten_cons, List.flatten_nil, List.range_zero, gt_iff_lt, take_snocR, drop_snocR, go_sem, setCells, setIn])
    refine ⟨by unfold allOk; kernel_rfl, ?_⟩
    refine (n_block (n_then ?_))
    (refine vw_last rfl ?_; simp only [w3, go_sem, setCells, setIn])
    refine (n_then ?_)
    have e4 : a.map sRow ++ [[.str u]] = (a ++ [u]).map sRow := by simp [sRow]
    have e5 : b.map nRow ++ [[.int .i64 y]] = (b ++ [y]).map nRow := by simp
    rw [e4, e5]
    refine ⟨(i + 1, a ++ [u], b ++ [y], true, lg ++ [[(0, 1)]] ++ [[(0, 2)]]), by simp only; omega, ⟨by simp only; omega, by simpa [putLoop] using ha, by simpa [putLoop] using hb, by simp; omega, by simp; omega⟩, ?_⟩
    (refine norm_to [(6, 6), (7, 7), (8, 8), (9, 9)] rfl ?_ ?_ <;> simp only [go_sem])
  refine vw_seq ?_
  (refine vw_go rfl ?_; simp only [d0, hc, hin, Int.toNat_natCast, getD_map_of hu, sRow, bm, bm2, go_sem, setCells, setIn])
  cases hg : gtS u s
  · rw [putLoop, hg] at ha hb
    simp only [Bool.false_eq_true, if_false] at ha hb
    refine vw_cond (t := false) (by rw [← hg]; rfl) (fun h => nomatch h) (fun _ => ?_)
    refine vw_skip (n_then ?_)
    (refine vw_draw mixed rfl rfl ?_; simp only [B1, d0, hc, hin, Int.toNat_natCast, getD_map_of hu, sRow, bt, bm, bm2, List.drop_length, List.length_append, range1, List.replicate_succ, List.replicate_zero, List.flatten_cons, List.flatten_nil, List.range_zero, gt_iff_lt, take_snocR, go_sem, setCells, setIn])
    refine ⟨by unfold allOk; kernel_rfl, ?_⟩
    (refine vw_draw_last mixed rfl rfl ?_; simp only [B2, d0, hc2, hik, Int.toNat_natCast, getD_map_of hy, nRow, bt2, bm, bm2, List.drop_length, List.length_append, range1, List.replicate_succ, List.replicate_zero, List.flatten_cons, List.flatten_nil, List.range_zero, gt_iff_lt, take_snocR, drop_snocR, go_sem, setCells, setIn])
    refine ⟨by unfold allOk; kernel_rfl, ?_⟩
    refine (n_block (n_then ?_))
    (refine vw_last rfl ?_; simp only [w3, go_sem, setCells, setIn])
    refine (n_then ?_)
    have e4 : a.map sRow ++ [[.str u]] = (a ++ [u]).map sRow := by simp [sRow]
    have e5 : b.map nRow ++ [[.int .i64 y]] = (b ++ [y]).map nRow := by simp
    rw [e4, e5]
    refine ⟨(i + 1, a ++ [u], b ++ [y], false, lg ++ [[(0, 1)]] ++ [[(0, 2)]]), by simp only; omega, ⟨by simp only; omega, by simpa using ha, by simpa using hb, by simp; omega, by simp; omega⟩, ?_⟩
    (refine norm_to [(6, 6), (7, 7), (8, 8), (9, 9)] rfl ?_ ?_ <;> simp only [go_sem])
  rw [putLoop, hg] at ha hb
  simp only [if_true] at ha hb
  refine vw_cond (t := true) (by rw [← hg]; rfl) (fun _ => ?_) (fun h => nomatch h)
  (refine vw_go rfl ?_; simp only [B1, bt, List.drop_length, List.length_append, range1, List.replicate_succ, List.replicate_zero, List.flatten_cons, List.flatten_nil, List.range_zero, gt_iff_lt, take_snocR, go_sem, setCells, setIn])
  (refine vw_go rfl ?_; simp only [B2, bt2, List.drop_length, List.length_append, range1, List.replicate_succ, List.replicate_zero, List.flatten_cons, List.flatten_nil, List.range_zero, gt_iff_lt, take_snocR, drop_snocR, go_sem, setCells, setIn])
  (refine vw_last rfl ?_; simp only [go_sem, setCells, setIn])
  refine (n_then ?_)
  have e6 : a.map sRow ++ [[.str s]] = (a ++ [s]).map sRow := by simp [sRow]
  have e7 : b.map nRow ++ [[.int .i64 k]] = (b ++ [k]).map nRow := by simp
  rw [e6, e7]
  have ha' : (putLoop s k false m.names m.kids).1 = (a ++ [s]) ++ u :: List.drop (i + 1) m.names := by rw [ha]; simp
  have hb' : (putLoop s k false m.names m.kids).2 = (b ++ [k]) ++ y :: List.drop (i + 1) m.kids := by rw [hb]; simp
  have hla2 : (a ++ [s]).length ≤ 2 * i + 2 := by simp; omega
  have hlb2 : (b ++ [k]).length ≤ 2 * i + 2 := by simp; omega
  clear B1 B2 bt bt2 e6 e7 ha hb
  generalize a ++ [s] = a2 at ha' hla2 ⊢
  generalize b ++ [k] = b2 at hb' hlb2 ⊢
  generalize lg ++ [[(0, 1)]] ++ [[(0, 2)]] = lg2
  have bt : List.take a2.length (a2.map sRow) = a2.map sRow := List.take_of_length_le (by simp)
  have bt2 : List.take b2.length (b2.map nRow) = b2.map nRow := List.take_of_length_le (by simp)
  have B1 : ¬ (a2.length + 1 + 1) * (16 + 1) > bigRow := by simp only [bigRow]; omega
  have B2 : ¬ (b2.length + 1 + 1) * (8 + 1) > bigRow := by simp only [bigRow]; omega
  (refine vw_draw mixed rfl rfl ?_; simp only [B1, d0, hc, hin, Int.toNat_natCast, getD_map_of hu, sRow, bt, bm, bm2, List.drop_length, List.length_append, range1, List.replicate_succ, List.replicate_zero, List.flatten_cons, List.flatten_nil, List.range_zero, gt_iff_lt, take_snocR, go_sem, setCells, setIn])
  refine ⟨by unfold allOk; kernel_rfl, ?_⟩
  (refine vw_draw_last mixed rfl rfl ?_; simp only [B2, d0, hc2, hik, Int.toNat_natCast, getD_map_of hy, nRow, bt2, bm, bm2, List.drop_length, List.length_append, range1, List.replicate_succ, List.replicate_zero, List.flatten_cons, List.flatten_nil, List.range_zero, gt_iff_lt, take_snocR, drop_snocR, go_sem, setCells, setIn])
  refine ⟨by unfold allOk; kernel_rfl, ?_⟩
  refine (n_block (n_then ?_))
  (refine vw_last rfl ?_; simp only [w3, go_sem, setCells, setIn])
  refine (n_then ?_)
  have e4 : a2.map sRow ++ [[.str u]] = (a2 ++ [u]).map sRow := by simp [sRow]
  have e5 : b2.map nRow ++ [[.int .i64 y]] = (b2 ++ [y]).map nRow := by simp
  rw [e4, e5]
  refine ⟨(i + 1, a2 ++ [u], b2 ++ [y], true, lg2 ++ [[(0, 1)]] ++ [[(0, 2)]]), by simp only; omega, ⟨by simp only; omega, by simpa [putLoop] using ha', by simpa [putLoop] using hb', by simp; omega, by simp; omega⟩, ?_⟩
  (refine norm_to [(6, 6), (7, 7), (8, 8), (9, 9)] rfl ?_ ?_ <;> simp only [go_sem])
end Go.Proofs.YtoenfbbadfcfpaaGreatDoor
namespace Go.Proofs.YtoenfbbadfcfpaaGreatDoor
open Go.VM Go
set_option linter.unusedSimpArgs false
set_option linter.unusedVariables false
theorem bl_irrefl : ∀ x : List UInt8, Op.bytesLess x x = false
  | [] => rfl
  | a :: x => by
    rw [Op.bytesLess, bl_irrefl x]
    simp
theorem bl_cons {a b : UInt8} {x y : List UInt8} : Op.bytesLess (a :: x) (b :: y) = true ↔ (a < b ∨ (a = b ∧ Op.bytesLess x y = true)) := by
  rw [Op.bytesLess]
  simp
theorem bl_trans : ∀ {x y z : List UInt8}, Op.bytesLess x y = true → Op.bytesLess y z = true → Op.bytesLess x z = true
  | x, [], z, h, _ => by cases x <;> simp [Op.bytesLess] at h
  | x, b :: y, [], _, h => by simp [Op.bytesLess] at h
  | [], b :: y, c :: z, _, _ => rfl
  | a :: x, b :: y, c :: z, h1, h2 => by
    rw [bl_cons] at h1 h2 ⊢
    rcases h1 with h1 | ⟨rfl, h1⟩ <;> rcases h2 with h2 | ⟨rfl, h2⟩
    · exact .inl (UInt8.lt_trans h1 h2)
    · exact .inl h1
    · exact .inl h2
    · exact .inr ⟨rfl, bl_trans h1 h2⟩
theorem bl_total : ∀ {x y : List UInt8}, Op.bytesLess x y = false → Op.bytesLess y x = false → x = y
  | [], [], _, _ => rfl
  | [], b :: y, h, _ => by simp [Op.bytesLess] at h
  | a :: x, [], _, h => by simp [Op.bytesLess] at h
  | a :: x, b :: y, h1, h2 => by
    have n1 : ¬ (a < b ∨ (a = b ∧ Op.bytesLess x y = true)) := fun h => by rw [bl_cons.2 h] at h1; cases h1
    have n2 : ¬ (b < a ∨ (b = a ∧ Op.bytesLess y x = true)) := fun h => by rw [bl_cons.2 h] at h2; cases h2
    have hab : a = b := UInt8.le_antisymm (UInt8.not_lt.1 (fun h => n2 (.inl h))) (UInt8.not_lt.1 (fun h => n1 (.inl h)))
    subst hab
    have e1 : Op.bytesLess x y = false := by
      cases h : Op.bytesLess x y
      · rfl
      · exact absurd (.inr ⟨rfl, h⟩) n1
    have e2 : Op.bytesLess y x = false := by
      cases h : Op.bytesLess y x
      · rfl
      · exact absurd (.inr ⟨rfl, h⟩) n2
    rw [bl_total e1 e2]
def ltB (a b : ByteArray) : Bool := Op.bytesLess a.toList b.toList
theorem ltB_irrefl (a : ByteArray) : ltB a a = false := bl_irrefl _
theorem ltB_trans {a b c : ByteArray} (h1 : ltB a b = true) (h2 : ltB b c = true) : ltB a c = true := bl_trans h1 h2
theorem ltB_asymm {a b : ByteArray} (h : ltB a b = true) : ltB b a = false := by
  cases h2 : ltB b a
  · rfl
  · have := ltB_trans h h2; rw [ltB_irrefl] at this; cases this
theorem ltB_total {a b : ByteArray} (h1 : ltB a b = false) (h2 : ltB b a = false) : a = b := by
  have h := bl_total h1 h2
  have e := toList_beq a b
  rw [h, beq_self_eq_true] at e
  exact of_decide_eq_true e.symm
theorem gtS_lt {u s : ByteArray} (h : ltB u s = true) : gtS u s = false := by
  unfold gtS ltB at *
  rw [h]; rfl
theorem gtS_gt {u s : ByteArray} (h : ltB s u = true) : gtS u s = true := by
  have h1 := ltB_asymm h
  have h2 : u ≠ s := fun e => by rw [e, ltB_irrefl] at h; cases h
  unfold gtS ltB at *
  rw [h1, decide_eq_false h2]; rfl
theorem putLoop_at (s : ByteArray) (k : Int) : ∀ (A B : List ByteArray) (KA KB : List Int), A.length = KA.length → B.length = KB.length → (∀ u ∈ A, ltB u s = true) → (∀ u ∈ B, ltB s u = true) → putLoop s k false (A ++ B) (KA ++ KB) = (A ++ s :: B, KA ++ k :: KB)
  | [], [], [], [], _, _, _, _ => rfl
  | [], b :: B, [], c :: KB, _, _, _, hB => by
    simp only [List.nil_append]
    rw [putLoop, if_pos (gtS_gt (hB b (by simp)))]
  | a :: A, B, c :: KA, KB, h1, h2, hA, hB => by
    simp only [List.cons_append]
    rw [putLoop, if_neg (by rw [gtS_lt (hA a (by simp))]; decide), putLoop_at s k A B KA KB (by simpa using h1) h2 (fun u hu => hA u (by simp [hu])) hB]
  | [], [], [], _ :: _, _, h, _, _ => nomatch h
  | [], _ :: _, [], [], _, h, _, _ => nomatch h
  | [], _, _ :: _, _, h, _, _, _ => nomatch h
  | _ :: _, _, [], _, h, _, _, _ => nomatch h
theorem kidIx_none (s : ByteArray) : ∀ (xs : List ByteArray) (ys : List Int) (i : Nat), s ∉ xs → kidIx xs ys s i = -1
  | [], ys, i, _ => by cases ys <;> rfl
  | a :: xs, [], i, _ => rfl
  | a :: xs, b :: ys, i, h => by
    simp only [List.mem_cons, not_or] at h
    rw [kidIx]
    have := kidIx_none s xs ys (i + 1) h.2
    have h1 : ¬ a = s := fun e => h.1 e.symm
    simp [h1, this]
theorem skipN_none {α : Type} : ∀ (l : List α) (i : Nat), skipN (-1) i l = l
  | [], i => rfl
  | a :: l, i => by
    rw [skipN]
    have h : ¬ ((i : Int) = -1) := by omega
    simp [h, skipN_none l (i + 1)]
/-- A new name is put where it belongs. -/
theorem kidPut_at {n : NodeV} {s : ByteArray} {k : Int} {A B : List ByteArray} {KA KB : List Int} (hn : n.names = A ++ B) (hk : n.kids = KA ++ KB) (h1 : A.length = KA.length) (h2 : B.length = KB.length) (hA : ∀ u ∈ A, ltB u s = true) (hB : ∀ u ∈ B, ltB s u = true) :
    kidPutF n s k = ⟨n.dir, A ++ s :: B, KA ++ k :: KB, n.data⟩ := by
  have hs : s ∉ n.names := by
    rw [hn]
    intro h
    rcases List.mem_append.1 h with h | h
    · have := hA s h; rw [ltB_irrefl] at this; cases this
    · have := hB s h; rw [ltB_irrefl] at this; cases this
  have hd : kidDropF n s = n := by
    unfold kidDropF
    rw [kidIx_none s n.names n.kids 0 hs, skipN_none, skipN_none]
  unfold kidPutF
  rw [hd, hn, hk, putLoop_at s k A B KA KB h1 h2 hA hB]

/-! ### sorting by putting in -/
def Asc (l : List ByteArray) : Prop := l.Pairwise fun a b => ltB a b = true
def insG (L : List ByteArray) (s : ByteArray) : List ByteArray := L.takeWhile (fun u => ltB u s) ++ s :: L.dropWhile (fun u => ltB u s)
def sortL (l : List ByteArray) : List ByteArray := l.foldl insG []
theorem ins_of {A B : List ByteArray} {s : ByteArray} (hA : ∀ u ∈ A, ltB u s = true) (hB : ∀ u ∈ B, ltB s u = true) : insG (A ++ B) s = A ++ s :: B := by
  unfold insG
  induction A with
  | nil =>
    cases B with
    | nil => rfl
    | cons b B =>
      have : ltB b s = false := ltB_asymm (hB b (by simp))
      simp [List.takeWhile_cons, List.dropWhile_cons, this]
  | cons a A ih =>
    have h := hA a (by simp)
    have ih := ih (fun u hu => hA u (by simp [hu]))
    simp only [List.cons_append, List.takeWhile_cons, List.dropWhile_cons, h, if_true]
    rw [ih]
theorem ins_split : ∀ {L : List ByteArray} {s : ByteArray}, Asc L → s ∉ L → ∃ A B, L = A ++ B ∧ (∀ u ∈ A, ltB u s = true) ∧ (∀ u ∈ B, ltB s u = true) ∧ Asc (A ++ s :: B)
  | [], s, _, _ => ⟨[], [], rfl, (fun u h => nomatch h), (fun u h => nomatch h), by simp [Asc]⟩
  | a :: L, s, h, hs => by
    simp only [List.mem_cons, not_or] at hs
    have h' := List.pairwise_cons.1 h
    cases ha : ltB a s
    · have hsa : ltB s a = true := by
        cases h2 : ltB s a
        · exact absurd (ltB_total h2 ha) (fun e => hs.1 e)
        · rfl
      refine ⟨[], a :: L, rfl, (fun u h => nomatch h), fun u hu => ?_, ?_⟩
      · rcases List.mem_cons.1 hu with rfl | hu
        · exact hsa
        · exact ltB_trans hsa (h'.1 u hu)
      · refine List.pairwise_cons.2 ⟨fun u hu => ?_, h⟩
        rcases List.mem_cons.1 hu with rfl | hu
        · exact hsa
        · exact ltB_trans hsa (h'.1 u hu)
    · obtain ⟨A, B, e, hA, hB, hP⟩ := ins_split (L := L) (s := s) h'.2 hs.2
      refine ⟨a :: A, B, by rw [e]; rfl, fun u hu => ?_, hB, ?_⟩
      · rcases List.mem_cons.1 hu with rfl | hu
        · exact ha
        · exact hA u hu
      · refine List.pairwise_cons.2 ⟨fun u hu => ?_, hP⟩
        rcases List.mem_append.1 hu with hu | hu
        · exact h'.1 u (by rw [e]; exact List.mem_append.2 (.inl hu))
        · rcases List.mem_cons.1 hu with rfl | hu
          · exact ha
          · exact h'.1 u (by rw [e]; exact List.mem_append.2 (.inr hu))
theorem ins_mem {L : List ByteArray} {s x : ByteArray} : x ∈ insG L s ↔ x = s ∨ x ∈ L := by
  unfold insG
  have h := List.takeWhile_append_dropWhile (p := fun u => ltB u s) (l := L)
  rw [List.mem_append, List.mem_cons]
  constructor
  · rintro (h1 | h1 | h1)
    · exact .inr (by rw [← h]; exact List.mem_append.2 (.inl h1))
    · exact .inl h1
    · exact .inr (by rw [← h]; exact List.mem_append.2 (.inr h1))
  · rintro (h1 | h1)
    · exact .inr (.inl h1)
    · rw [← h] at h1
      rcases List.mem_append.1 h1 with h1 | h1
      · exact .inl h1
      · exact .inr (.inr h1)
theorem ins_asc {L : List ByteArray} {s : ByteArray} (h : Asc L) (hs : s ∉ L) : Asc (insG L s) := by
  obtain ⟨A, B, rfl, hA, hB, hP⟩ := ins_split h hs
  rw [ins_of hA hB]; exact hP
theorem ins_len (L : List ByteArray) (s : ByteArray) : (insG L s).length = L.length + 1 := by
  unfold insG
  have h := congrArg List.length (List.takeWhile_append_dropWhile (p := fun u => ltB u s) (l := L))
  simp only [List.length_append, List.length_cons] at h ⊢
  omega
theorem sort_asc : ∀ (l acc : List ByteArray), Asc acc → l.Nodup → (∀ x ∈ l, x ∉ acc) → Asc (l.foldl insG acc) ∧ ∀ x, x ∈ l.foldl insG acc ↔ x ∈ l ∨ x ∈ acc
  | [], acc, h, _, _ => ⟨h, fun x => by simp⟩
  | s :: l, acc, h, hd, hn => by
    rw [List.nodup_cons] at hd
    have hs := hn s (by simp)
    obtain ⟨h1, h2⟩ := sort_asc l (insG acc s) (ins_asc h hs) hd.2 (fun x hx hx2 => by
      rcases ins_mem.1 hx2 with rfl | hx2
      · exact hd.1 hx
      · exact hn x (by simp [hx]) hx2)
    refine ⟨h1, fun x => ?_⟩
    rw [List.foldl_cons, h2 x, ins_mem, List.mem_cons]
    constructor
    · rintro (h | h | h)
      · exact .inl (.inr h)
      · exact .inl (.inl h)
      · exact .inr h
    · rintro ((h | h) | h)
      · exact .inr (.inl h)
      · exact .inl h
      · exact .inr (.inr h)
end Go.Proofs.YtoenfbbadfcfpaaGreatDoor
namespace Go.Proofs.YtoenfbbadfcfpaaGreatDoor
open Go.VM
set_option maxRecDepth 100000
set_option linter.unusedSimpArgs false
set_option linter.unusedVariables false
attribute [local congr] vw_congr runV_congr runH_congr runW_congr runX_congr stuckV_congr stuckX_congr

structure PutV where
  sector : Int
  data : ByteArray
  deriving DecidableEq
def putRow (x : PutV) : List T := [.int .i64 x.sector, .str x.data]
def PutV.ok (x : PutV) : Prop := x.data.size < 2 ^ 63
theorem putRow_r1 (x : PutV) : (putRow x).map T.toRO = putRow x := by simp [putRow]
theorem putRow_clean (l : List PutV) : cleanRs (l.map putRow) = true := clean_map (fun x => rfl) l
end Go.Proofs.YtoenfbbadfcfpaaGreatDoor
namespace Go.Proofs.YtoenfbbadfcfpaaGreatDoor
open Go.VM
set_option maxRecDepth 100000
set_option linter.unusedSimpArgs false
set_option linter.unusedVariables false
attribute [local congr] vw_congr runV_congr runH_congr runW_congr runX_congr stuckV_congr stuckX_congr

structure OpV where
  kind : Int
  path : ByteArray
  to : ByteArray
  data : ByteArray
  deriving DecidableEq
def OpV.ok (x : OpV) : Prop := x.path.size < 2 ^ 63 ∧ x.to.size < 2 ^ 63 ∧ x.data.size < 2 ^ 63
end Go.Proofs.YtoenfbbadfcfpaaGreatDoor
