/- Nodes: KidDrop and KidPut of the reference. Volumes: going through one, of both. A call that turns one list behind one thing that is only read. -/
import Derived.Test.YtkijdbljnefeaaaGreatDoorPFKid
import Derived.Test.YtkijdbljnefeaaaGreatDoorPFWorkS
import Derived.Test.YtkijdbljnefeaaaGreatDoorPFOp
set_option linter.unusedSimpArgs false
set_option linter.unusedVariables false
namespace Go.Proofs.YtkijdbljnefeaaaGreatDoor
open Go.VM Go
set_option maxRecDepth 100000
attribute [local congr] vw_congr runV_congr runH_congr runW_congr runX_congr stuckV_congr stuckX_congr
def skipN {α : Type} (at_ : Int) : Nat → List α → List α
  | _, [] => []
  | i, x :: l => if (i : Int) = at_ then skipN at_ (i + 1) l else x :: skipN at_ (i + 1) l
theorem skipN_le {α : Type} (at_ : Int) : ∀ (l : List α) (i : Nat), (skipN at_ i l).length ≤ l.length
  | [], i => Nat.le_refl _
  | x :: l, i => by
    have := skipN_le at_ l (i + 1)
    unfold skipN
    split
    · simp only [List.length_cons]; omega
    · simp only [List.length_cons]; omega
theorem skipN_len {α β : Type} (at_ : Int) : ∀ (l : List α) (m : List β) (i : Nat), l.length = m.length → (skipN at_ i l).length = (skipN at_ i m).length
  | [], [], i, _ => rfl
  | x :: l, y :: m, i, h => by
    have := skipN_len at_ l m (i + 1) (by simpa using h)
    unfold skipN
    split
    · exact this
    · simp only [List.length_cons,this]
theorem skipN_mem {α : Type} (at_ : Int) : ∀ (l : List α) (i : Nat) (x : α), x ∈ skipN at_ i l → x ∈ l
  | [], i, x, h => h
  | y :: l, i, x, h => by
    unfold skipN at h
    split at h
    · exact List.mem_cons_of_mem _ (skipN_mem at_ l _ x h)
    · rcases List.mem_cons.1 h with h | h
      · exact h ▸ List.mem_cons_self
      · exact List.mem_cons_of_mem _ (skipN_mem at_ l _ x h)
def kidDropF (n : NodeV) (s : ByteArray) : NodeV := ⟨n.dir, skipN (kidIx n.names n.kids s 0) 0 n.names, skipN (kidIx n.names n.kids s 0) 0 n.kids, n.data⟩
set_option maxHeartbeats 1000000 in
theorem runs_152 (n : NodeV) (h : n.names.length = n.kids.length) (h1 : n.names.length ≤ 1000) (s : ByteArray) (N : NodeV) (hN : N = kidDropF n s) :
    Runs Tryz.prog 152 [.agg [.v (.bool n.dir), .v (.list false 1 (n.names.map sRow)), .v (.list false 1 (n.kids.map nRow)), .v (.str n.data)], .one (.v (.str s))] [.agg [.v (.bool N.dir), .v (.list true 1 (N.names.map sRow)), .v (.list true 1 (N.kids.map nRow)), .v (.str N.data)]] [] := by
  refine runs_tab (tab := [(0, .agg [.c (.bool n.dir), .c (.list false 1 (n.names.map sRow)), .c (.list false 1 (n.kids.map nRow)), .c (.str n.data)]), (1, .c (.str s))]) (rts := []) (n := 54) (k := 5) Tryz.func152 rfl rfl (by simp) rfl (fun t => ?_) rfl ?_
  · rcases t with _ | _ | t <;> rfl
  have rL := runs_158 n (by omega) (by omega) s
  unfold kidDropF at hN
  generalize kidIx n.names n.kids s 0 = at_ at rL hN
  refine vw_go rfl ?_; simp only [go_sem,setCells,setIn]
  refine vw_go rfl ?_; simp only [go_sem,setCells,setIn]
  refine vw_go rfl ?_; simp only [go_sem,setCells,setIn]
  refine ⟨_, _, call_rx [0, 0] Tryz.func158 (rL) rfl rfl rfl rfl rfl rfl rfl (by simp [lendAll,lendC,seek,fresh,nav,rcells,RT.cells,VV.cells,tabE_cons,tabS_cons,ev,take_map_len,sRow_r1,sRow_comp,sRow_clean,nRow_r1,nRow_comp,nRow_clean]) rfl (by simp [rcells,RT.cells,CT.clean,T.clean,sRow_r1,sRow_comp,sRow_clean,nRow_r1,nRow_comp,nRow_clean]) rfl rfl, ?_⟩
  simp only [runH,runX,go_sem,setCells,setIn]
  refine vw_seq ?_
  refine vw_go rfl ?_; simp only [go_sem,setCells,setIn]
  refine vw_block ?_
  refine vw_loop_tab (α := Nat × List ByteArray × List Int × List Path) (fun x => n.names.length - x.1) (fun x => ⟨tabE [(2, .ptr 5 [] 0 0 0), (4, .ptr 6 [] 0 0 0), (5, .ptr 7 [] 0 0 0), (6, .c (.int .i64 at_)), (7, .c (.int .i64 x.1))],
      tabS [(5, some ⟨true, 4, [[.bool n.dir, .list false 1 (n.names.map sRow), .list false 1 (n.kids.map nRow), .str n.data]], []⟩), (6, some ⟨true, 4, [[.bool false, .list true 1 [], .list true 1 [], .str ⟨#[]⟩]], []⟩), (7, some ⟨true, 4, [[.bool n.dir, .list true 1 (x.2.1.map sRow), .list true 1 (x.2.2.1.map nRow), .str n.data]], x.2.2.2⟩)], 8⟩)
    (fun x => x.1 ≤ n.names.length ∧ skipN at_ 0 n.names = x.2.1 ++ skipN at_ x.1 (n.names.drop x.1) ∧ skipN at_ 0 n.kids = x.2.2.1 ++ skipN at_ x.1 (n.kids.drop x.1) ∧ x.2.1.length ≤ x.1 ∧ x.2.2.1.length ≤ x.1) (x := (0, [], [], [[(0, 1)], [(0, 2)]])) ?round ?h0 ?hn
  case h0 => exact ⟨Nat.zero_le _, rfl, rfl, Nat.le_refl _, Nat.le_refl _⟩
  case hn =>
    refine norm_to [(5, 5), (1029, 6), (70661, 7)] rfl ?_ ?_ <;> simp only [go_sem]
  rintro ⟨i, a, b, lg⟩ ⟨hi, ha, hb, hla, hlb⟩
  simp only at hi ha hb hla hlb
  refine vw_seq ?_
  have bt : List.take a.length (a.map sRow) = a.map sRow := List.take_of_length_le (by simp)
  have bt2 : List.take b.length (b.map nRow) = b.map nRow := List.take_of_length_le (by simp)
  by_cases hc : (i : Int) < n.names.length
  case neg =>
    rw [List.drop_eq_nil_of_le (by omega), skipN, List.append_nil] at ha hb
    rw [ha, hb] at hN
    subst hN
    refine vw_go rfl ?_; simp only [hc,go_sem,setCells,setIn]
    refine vw_cond (t := false) rfl (fun h => nomatch h) (fun _ => ?_)
    refine vw_exit (x_then (x_then (x_block (n_then ?_))))
    refine vw_go rfl ?_; simp only [List.drop_length,bt,bt2,go_sem,setCells,setIn]
    exact vw_ret (e_ret (ret_by rfl rfl (by simp [RB]) rfl (by simp only [takeCs,takeC,go_sem,setCells,setIn])))
  have hin : i < n.names.length := by omega
  have hik : i < n.kids.length := by omega
  have hc2 : (i : Int) < n.kids.length := by omega
  obtain ⟨u, hu⟩ : ∃ u, n.names[i]? = some u := ⟨_, List.getElem?_eq_getElem hin⟩
  obtain ⟨y, hy⟩ : ∃ y, n.kids[i]? = some y := ⟨_, List.getElem?_eq_getElem hik⟩
  rw [drop_of hu, skipN] at ha
  rw [drop_of hy, skipN] at hb
  have d0 : (0:Int) ≤ (i : Int) := by omega
  have w3 : IntKind.wrap .i64 ((i:Int) + 1) = ((i + 1 : Nat) : Int) := by rw [wrap_i64 (by omega) (by omega)]; rfl
  refine vw_go rfl ?_; simp only [hc,hc2,go_sem,setCells,setIn]
  refine vw_cond (t := true) rfl (fun _ => ?_) (fun h => nomatch h)
  refine vw_skip (n_then ?_)
  refine vw_seq ?_
  refine vw_block ?_
  by_cases he : (i : Int) = at_
  · rw [if_pos he] at ha hb
    obtain rfl : at_ = (i : Int) := he.symm
    refine vw_go rfl ?_; simp only [go_sem,setCells,setIn]
    refine vw_cond (t := false) rfl (fun h => nomatch h) (fun _ => ?_)
    refine vw_skip (n_block (n_then ?_))
    refine vw_last rfl ?_; simp only [w3,go_sem,setCells,setIn]
    refine (n_then ?_)
    refine ⟨(i + 1, a, b, lg), by simp only; omega, ⟨by simp only; omega, ha, hb, by simp only; omega, by simp only; omega⟩, ?_⟩
    refine norm_to [(5, 5), (6, 6), (7, 7)] rfl ?_ ?_ <;> simp only [go_sem]
  rw [if_neg he] at ha hb
  have B1 : ¬ (a.length + 1 + 1) * (16 + 1) > bigRow := by simp only [bigRow]; omega
  have B2 : ¬ (b.length + 1 + 1) * (8 + 1) > bigRow := by simp only [bigRow]; omega
  have bt : List.take a.length (a.map sRow) = a.map sRow := List.take_of_length_le (by simp)
  have bt2 : List.take b.length (b.map nRow) = b.map nRow := List.take_of_length_le (by simp)
  refine vw_go rfl ?_; simp only [he,go_sem,setCells,setIn]
  refine vw_cond (t := true) rfl (fun _ => ?_) (fun h => nomatch h)
  refine vw_draw mixed rfl rfl ?_; simp only [B1,d0,hc,hin,Int.toNat_natCast,getD_map_of hu,sRow,bt,List.drop_length,List.length_append,range1,List.replicate_succ,List.replicate_zero,List.flatten_cons,List.flatten_nil,List.range_zero,gt_iff_lt,take_snocR,go_sem,setCells,setIn]
  refine ⟨by unfold allOk; kernel_rfl, ?_⟩
  refine vw_draw_last mixed rfl rfl ?_; simp only [B2,d0,hc2,hik,Int.toNat_natCast,getD_map_of hy,nRow,bt2,List.drop_length,List.length_append,range1,List.replicate_succ,List.replicate_zero,List.flatten_cons,List.flatten_nil,List.range_zero,gt_iff_lt,take_snocR,drop_snocR,go_sem,setCells,setIn]
  refine ⟨by unfold allOk; kernel_rfl, ?_⟩
  refine (n_block (n_then ?_))
  refine vw_last rfl ?_; simp only [w3,go_sem,setCells,setIn]
  refine (n_then ?_)
  have e4 : a.map sRow ++ [[.str u]] = (a ++ [u]).map sRow := by simp [sRow]
  have e5 : b.map nRow ++ [[.int .i64 y]] = (b ++ [y]).map nRow := by simp
  rw [e4, e5]
  refine ⟨(i + 1, a ++ [u], b ++ [y], lg ++ [[(0, 1)]] ++ [[(0, 2)]]), by simp only; omega, ⟨by simp only; omega, by simpa using ha, by simpa using hb, by simp; omega, by simp; omega⟩, ?_⟩
  refine norm_to [(5, 5), (6, 6), (7, 7)] rfl ?_ ?_ <;> simp only [go_sem]
def gtS (u s : ByteArray) : Bool := !(Op.bytesLess u.toList s.toList || decide (u = s))
def putLoop (s : ByteArray) (k : Int) : Bool → List ByteArray → List Int → List ByteArray × List Int
  | true, xs, ys => (xs, ys)
  | false, a :: xs, b :: ys => if gtS a s = true then (s :: a :: xs, k :: b :: ys) else (a :: (putLoop s k false xs ys).1, b :: (putLoop s k false xs ys).2)
  | false, _, _ => ([s], [k])
def kidPutF (n : NodeV) (s : ByteArray) (k : Int) : NodeV :=
  ⟨n.dir, (putLoop s k false (kidDropF n s).names (kidDropF n s).kids).1, (putLoop s k false (kidDropF n s).names (kidDropF n s).kids).2, n.data⟩
set_option maxHeartbeats 1000000 in
theorem runs_150 (n : NodeV) (h : n.names.length = n.kids.length) (h1 : n.names.length ≤ 1000) (s : ByteArray) (k : Int) (N : NodeV) (hN : N = kidPutF n s k) :
    Runs Tryz.prog 150 [.agg [.v (.bool n.dir), .v (.list false 1 (n.names.map sRow)), .v (.list false 1 (n.kids.map nRow)), .v (.str n.data)], .one (.v (.str s)), .one (.v (.int .i64 k))] [.agg [.v (.bool N.dir), .v (.list true 1 (N.names.map sRow)), .v (.list true 1 (N.kids.map nRow)), .v (.str N.data)]] [] := by
  refine runs_tab (tab := [(0, .agg [.c (.bool n.dir), .c (.list false 1 (n.names.map sRow)), .c (.list false 1 (n.kids.map nRow)), .c (.str n.data)]), (1, .c (.str s)), (2, .c (.int .i64 k))]) (rts := []) (n := 84) (k := 6) Tryz.func150 rfl rfl (by simp) rfl (fun t => ?_) rfl ?_
  · rcases t with _ | _ | _ | t <;> rfl
  have rD := runs_152 n h h1 s _ rfl
  have hml : (kidDropF n s).names.length = (kidDropF n s).kids.length := skipN_len _ _ _ _ h
  have hm1 : (kidDropF n s).names.length ≤ 1000 := Nat.le_trans (skipN_le _ _ _) h1
  unfold kidPutF at hN
  generalize kidDropF n s = m at rD hml hm1 hN
  have bm : List.take m.names.length (m.names.map sRow) = m.names.map sRow := List.take_of_length_le (by simp)
  have bm2 : List.take m.kids.length (m.kids.map nRow) = m.kids.map nRow := List.take_of_length_le (by simp)
  refine vw_go rfl ?_; simp only [go_sem,setCells,setIn]
  refine vw_go rfl ?_; simp only [go_sem,setCells,setIn]
  refine ⟨_, _, call_rx [0, 0] Tryz.func152 (rD) rfl rfl rfl rfl rfl rfl rfl (by simp [lendAll,lendC,seek,fresh,nav,rcells,RT.cells,VV.cells,tabE_cons,tabS_cons,ev,take_map_len,sRow_r1,sRow_comp,sRow_clean,nRow_r1,nRow_comp,nRow_clean]) rfl (by simp [rcells,RT.cells,CT.clean,T.clean,sRow_r1,sRow_comp,sRow_clean,nRow_r1,nRow_comp,nRow_clean]) rfl rfl, ?_⟩
  simp only [runH,runX,bm,bm2,go_sem,setCells,setIn]
  refine vw_go rfl ?_; simp only [go_sem,setCells,setIn]
  refine vw_go rfl ?_; simp only [go_sem,setCells,setIn]
  refine vw_seq ?_
  refine vw_go rfl ?_; simp only [go_sem,setCells,setIn]
  refine vw_block ?_
  refine vw_loop_tab (α := Nat × List ByteArray × List Int × Bool × List Path) (fun x => m.names.length - x.1) (fun x => ⟨tabE [(1, .c (.str s)), (2, .c (.int .i64 k)), (6, .ptr 7 [] 0 0 0), (7, .ptr 8 [] 0 0 0), (8, .ptr 9 [] 0 0 0), (9, .c (.bool x.2.2.2.1)), (10, .c (.int .i64 x.1))],
      tabS [(7, some ⟨true, 4, [[.bool false, .list true 1 [], .list true 1 [], .str ⟨#[]⟩]], []⟩), (8, some ⟨true, 4, [[.bool m.dir, .list true 1 (m.names.map sRow), .list true 1 (m.kids.map nRow), .str m.data]], [[(0, 1)], [(0, 2)]]⟩), (9, some ⟨true, 4, [[.bool n.dir, .list true 1 (x.2.1.map sRow), .list true 1 (x.2.2.1.map nRow), .str n.data]], x.2.2.2.2⟩)], 10⟩)
    (fun x => x.1 ≤ m.names.length ∧ (putLoop s k false m.names m.kids).1 = x.2.1 ++ (putLoop s k x.2.2.2.1 (m.names.drop x.1) (m.kids.drop x.1)).1 ∧ (putLoop s k false m.names m.kids).2 = x.2.2.1 ++ (putLoop s k x.2.2.2.1 (m.names.drop x.1) (m.kids.drop x.1)).2 ∧ x.2.1.length ≤ 2 * x.1 + 1 ∧ x.2.2.1.length ≤ 2 * x.1 + 1) (x := (0, [], [], false, [[(0, 1)], [(0, 2)]])) ?round ?h0 ?hn
  case h0 => exact ⟨Nat.zero_le _, rfl, rfl, Nat.zero_le _, Nat.zero_le _⟩
  case hn =>
    refine norm_to [(1030, 7), (68614, 8), (136198, 9)] rfl ?_ ?_ <;> simp only [go_sem]
  rintro ⟨i, a, b, put, lg⟩ ⟨hi, ha, hb, hla, hlb⟩
  simp only at hi ha hb hla hlb
  refine vw_seq ?_
  have bt : List.take a.length (a.map sRow) = a.map sRow := List.take_of_length_le (by simp)
  have bt2 : List.take b.length (b.map nRow) = b.map nRow := List.take_of_length_le (by simp)
  have B1 : ¬ (a.length + 1 + 1) * (16 + 1) > bigRow := by simp only [bigRow]; omega
  have B2 : ¬ (b.length + 1 + 1) * (8 + 1) > bigRow := by simp only [bigRow]; omega
  by_cases hc : (i : Int) < m.names.length
  case neg =>
    rw [List.drop_eq_nil_of_le (by omega), List.drop_eq_nil_of_le (by omega)] at ha hb
    cases put
    · simp only [putLoop] at ha hb
      rw [ha, hb] at hN
      subst hN
      refine vw_go rfl ?_; simp only [hc,bm,bm2,go_sem,setCells,setIn]
      refine vw_cond (t := false) rfl (fun h => nomatch h) (fun _ => ?_)
      refine vw_exit (x_then (x_then (x_block (n_then ?_))))
      refine vw_seq ?_
      refine vw_go rfl ?_; simp only [go_sem,setCells,setIn]
      refine vw_cond (t := true) rfl (fun _ => ?_) (fun h => nomatch h)
      refine vw_go rfl ?_; simp only [B1,bt,List.drop_length,List.length_append,range1,List.replicate_succ,List.replicate_zero,List.flatten_cons,List.flatten_nil,List.range_zero,gt_iff_lt,take_snocR,go_sem,setCells,setIn]
      refine vw_last rfl ?_; simp only [B2,bt2,List.drop_length,List.length_append,range1,List.replicate_succ,List.replicate_zero,List.flatten_cons,List.flatten_nil,List.range_zero,gt_iff_lt,take_snocR,drop_snocR,go_sem,setCells,setIn]
      refine (n_then ?_)
      have e4 : a.map sRow ++ [[.str s]] = (a ++ [s]).map sRow := by simp [sRow]
      have e5 : b.map nRow ++ [[.int .i64 k]] = (b ++ [k]).map nRow := by simp
      rw [e4, e5]
      have bt3 : List.take (a.length + 1) ((a ++ [s]).map sRow) = (a ++ [s]).map sRow := List.take_of_length_le (by simp)
      have bt4 : List.take (b.length + 1) ((b ++ [k]).map nRow) = (b ++ [k]).map nRow := List.take_of_length_le (by simp)
      have ll : (a ++ [s]).length = a.length + 1 := by simp
      have ll2 : (b ++ [k]).length = b.length + 1 := by simp
      refine vw_go rfl ?_; simp only [List.drop_length,bt3,bt4,ll,ll2,go_sem,setCells,setIn]
      exact vw_ret (e_ret (ret_by rfl rfl (by simp [RB]) rfl (by simp only [takeCs,takeC,go_sem,setCells,setIn])))
    · simp only [putLoop,List.append_nil] at ha hb
      rw [ha, hb] at hN
      subst hN
      refine vw_go rfl ?_; simp only [hc,bm,bm2,go_sem,setCells,setIn]
      refine vw_cond (t := false) rfl (fun h => nomatch h) (fun _ => ?_)
      refine vw_exit (x_then (x_then (x_block (n_then ?_))))
      refine vw_seq ?_
      refine vw_go rfl ?_; simp only [go_sem,setCells,setIn]
      refine vw_cond (t := false) rfl (fun h => nomatch h) (fun _ => ?_)
      refine vw_skip (n_then ?_)
      refine vw_go rfl ?_; simp only [List.drop_length,bt,bt2,go_sem,setCells,setIn]
      exact vw_ret (e_ret (ret_by rfl rfl (by simp [RB]) rfl (by simp only [takeCs,takeC,go_sem,setCells,setIn])))
  have hin : i < m.names.length := by omega
  have hik : i < m.kids.length := by omega
  have hc2 : (i : Int) < m.kids.length := by omega
  obtain ⟨u, hu⟩ : ∃ u, m.names[i]? = some u := ⟨_, List.getElem?_eq_getElem hin⟩
  obtain ⟨y, hy⟩ : ∃ y, m.kids[i]? = some y := ⟨_, List.getElem?_eq_getElem hik⟩
  rw [drop_of hu, drop_of hy] at ha hb
  have d0 : (0:Int) ≤ (i : Int) := by omega
  have w3 : IntKind.wrap .i64 ((i:Int) + 1) = ((i + 1 : Nat) : Int) := by rw [wrap_i64 (by omega) (by omega)]; rfl
  refine vw_go rfl ?_; simp only [hc,bm,bm2,go_sem,setCells,setIn]
  refine vw_cond (t := true) rfl (fun _ => ?_) (fun h => nomatch h)
  refine vw_skip (n_then ?_)
  refine vw_seq ?_
  refine vw_block ?_
  cases put
  case true =>
    simp only [putLoop] at ha hb
    refine vw_seq ?_
    refine vw_go rfl ?_; simp only [d0,hc,hin,Int.toNat_natCast,getD_map_of hu,sRow,bm,bm2,go_sem,setCells,setIn]
    refine vw_cond (t := false) rfl (fun h => nomatch h) (fun _ => ?_)
    refine vw_skip (n_then ?_)
    refine vw_draw mixed rfl rfl ?_; simp only [B1,d0,hc,hin,Int.toNat_natCast,getD_map_of hu,sRow,bt,bm,bm2,List.drop_length,List.length_append,range1,List.replicate_succ,List.replicate_zero,List.flatten_cons,List.flatten_nil,List.range_zero,gt_iff_lt,take_snocR,go_sem,setCells,setIn]
    refine ⟨by unfold allOk; kernel_rfl, ?_⟩
    refine vw_draw_last mixed rfl rfl ?_; simp only [B2,d0,hc2,hik,Int.toNat_natCast,getD_map_of hy,nRow,bt2,bm,bm2,List.drop_length,List.length_append,range1,List.replicate_succ,List.replicate_zero,List.flatten_cons,List.flatten_nil,List.range_zero,gt_iff_lt,take_snocR,drop_snocR,go_sem,setCells,setIn]
    refine ⟨by unfold allOk; kernel_rfl, ?_⟩
    refine (n_block (n_then ?_))
    refine vw_last rfl ?_; simp only [w3,go_sem,setCells,setIn]
    refine (n_then ?_)
    have e4 : a.map sRow ++ [[.str u]] = (a ++ [u]).map sRow := by simp [sRow]
    have e5 : b.map nRow ++ [[.int .i64 y]] = (b ++ [y]).map nRow := by simp
    rw [e4, e5]
    refine ⟨(i + 1, a ++ [u], b ++ [y], true, lg ++ [[(0, 1)]] ++ [[(0, 2)]]), by simp only; omega, ⟨by simp only; omega, by simpa [putLoop] using ha, by simpa [putLoop] using hb, by simp; omega, by simp; omega⟩, ?_⟩
    refine norm_to [(6, 6), (7, 7), (8, 8), (9, 9)] rfl ?_ ?_ <;> simp only [go_sem]
  refine vw_seq ?_
  refine vw_go rfl ?_; simp only [d0,hc,hin,Int.toNat_natCast,getD_map_of hu,sRow,bm,bm2,go_sem,setCells,setIn]
  cases hg : gtS u s
  · rw [putLoop, hg] at ha hb
    simp only [Bool.false_eq_true,if_false] at ha hb
    refine vw_cond (t := false) (by rw [← hg]; rfl) (fun h => nomatch h) (fun _ => ?_)
    refine vw_skip (n_then ?_)
    refine vw_draw mixed rfl rfl ?_; simp only [B1,d0,hc,hin,Int.toNat_natCast,getD_map_of hu,sRow,bt,bm,bm2,List.drop_length,List.length_append,range1,List.replicate_succ,List.replicate_zero,List.flatten_cons,List.flatten_nil,List.range_zero,gt_iff_lt,take_snocR,go_sem,setCells,setIn]
    refine ⟨by unfold allOk; kernel_rfl, ?_⟩
    refine vw_draw_last mixed rfl rfl ?_; simp only [B2,d0,hc2,hik,Int.toNat_natCast,getD_map_of hy,nRow,bt2,bm,bm2,List.drop_length,List.length_append,range1,List.replicate_succ,List.replicate_zero,List.flatten_cons,List.flatten_nil,List.range_zero,gt_iff_lt,take_snocR,drop_snocR,go_sem,setCells,setIn]
    refine ⟨by unfold allOk; kernel_rfl, ?_⟩
    refine (n_block (n_then ?_))
    refine vw_last rfl ?_; simp only [w3,go_sem,setCells,setIn]
    refine (n_then ?_)
    have e4 : a.map sRow ++ [[.str u]] = (a ++ [u]).map sRow := by simp [sRow]
    have e5 : b.map nRow ++ [[.int .i64 y]] = (b ++ [y]).map nRow := by simp
    rw [e4, e5]
    refine ⟨(i + 1, a ++ [u], b ++ [y], false, lg ++ [[(0, 1)]] ++ [[(0, 2)]]), by simp only; omega, ⟨by simp only; omega, by simpa using ha, by simpa using hb, by simp; omega, by simp; omega⟩, ?_⟩
    refine norm_to [(6, 6), (7, 7), (8, 8), (9, 9)] rfl ?_ ?_ <;> simp only [go_sem]
  rw [putLoop, hg] at ha hb
  simp only [if_true] at ha hb
  refine vw_cond (t := true) (by rw [← hg]; rfl) (fun _ => ?_) (fun h => nomatch h)
  refine vw_go rfl ?_; simp only [B1,bt,List.drop_length,List.length_append,range1,List.replicate_succ,List.replicate_zero,List.flatten_cons,List.flatten_nil,List.range_zero,gt_iff_lt,take_snocR,go_sem,setCells,setIn]
  refine vw_go rfl ?_; simp only [B2,bt2,List.drop_length,List.length_append,range1,List.replicate_succ,List.replicate_zero,List.flatten_cons,List.flatten_nil,List.range_zero,gt_iff_lt,take_snocR,drop_snocR,go_sem,setCells,setIn]
  refine vw_last rfl ?_; simp only [go_sem,setCells,setIn]
  refine (n_then ?_)
  have e6 : a.map sRow ++ [[.str s]] = (a ++ [s]).map sRow := by simp [sRow]
  have e7 : b.map nRow ++ [[.int .i64 k]] = (b ++ [k]).map nRow := by simp
  rw [e6, e7]
  have ha' : (putLoop s k false m.names m.kids).1 = (a ++ [s]) ++ u :: List.drop (i + 1) m.names := by rw [ha]; simp
  have hb' : (putLoop s k false m.names m.kids).2 = (b ++ [k]) ++ y :: List.drop (i + 1) m.kids := by rw [hb]; simp
  have hla2 : (a ++ [s]).length ≤ 2 * i + 2 := by simp; omega
  have hlb2 : (b ++ [k]).length ≤ 2 * i + 2 := by simp; omega
  clear B1 B2 bt bt2 e6 e7 ha hb
  generalize a ++ [s] = a2 at ha' hla2 ⊢
  generalize b ++ [k] = b2 at hb' hlb2 ⊢
  generalize lg ++ [[(0, 1)]] ++ [[(0, 2)]] = lg2
  have bt : List.take a2.length (a2.map sRow) = a2.map sRow := List.take_of_length_le (by simp)
  have bt2 : List.take b2.length (b2.map nRow) = b2.map nRow := List.take_of_length_le (by simp)
  have B1 : ¬ (a2.length + 1 + 1) * (16 + 1) > bigRow := by simp only [bigRow]; omega
  have B2 : ¬ (b2.length + 1 + 1) * (8 + 1) > bigRow := by simp only [bigRow]; omega
  refine vw_draw mixed rfl rfl ?_; simp only [B1,d0,hc,hin,Int.toNat_natCast,getD_map_of hu,sRow,bt,bm,bm2,List.drop_length,List.length_append,range1,List.replicate_succ,List.replicate_zero,List.flatten_cons,List.flatten_nil,List.range_zero,gt_iff_lt,take_snocR,go_sem,setCells,setIn]
  refine ⟨by unfold allOk; kernel_rfl, ?_⟩
  refine vw_draw_last mixed rfl rfl ?_; simp only [B2,d0,hc2,hik,Int.toNat_natCast,getD_map_of hy,nRow,bt2,bm,bm2,List.drop_length,List.length_append,range1,List.replicate_succ,List.replicate_zero,List.flatten_cons,List.flatten_nil,List.range_zero,gt_iff_lt,take_snocR,drop_snocR,go_sem,setCells,setIn]
  refine ⟨by unfold allOk; kernel_rfl, ?_⟩
  refine (n_block (n_then ?_))
  refine vw_last rfl ?_; simp only [w3,go_sem,setCells,setIn]
  refine (n_then ?_)
  have e4 : a2.map sRow ++ [[.str u]] = (a2 ++ [u]).map sRow := by simp [sRow]
  have e5 : b2.map nRow ++ [[.int .i64 y]] = (b2 ++ [y]).map nRow := by simp
  rw [e4, e5]
  refine ⟨(i + 1, a2 ++ [u], b2 ++ [y], true, lg2 ++ [[(0, 1)]] ++ [[(0, 2)]]), by simp only; omega, ⟨by simp only; omega, by simpa [putLoop] using ha', by simpa [putLoop] using hb', by simp; omega, by simp; omega⟩, ?_⟩
  refine norm_to [(6, 6), (7, 7), (8, 8), (9, 9)] rfl ?_ ?_ <;> simp only [go_sem]
end Go.Proofs.YtkijdbljnefeaaaGreatDoor
namespace Go.Proofs.YtkijdbljnefeaaaGreatDoor
open Go.VM Go
set_option maxRecDepth 100000
attribute [local congr] vw_congr runV_congr runH_congr runW_congr runX_congr stuckV_congr stuckX_congr
def tRow (b : Bool) : List T := [.bool b]
theorem tRow_r1 (x : Bool) : (tRow x).map T.toRO = tRow x := by simp [tRow]
theorem tRow_clean (l : List Bool) : cleanRs (l.map tRow) = true := clean_map (fun x => rfl) l
theorem tRow_fine (H : Value → Nat → List (List T) → Prop) (l : List Bool) : fineRs H (l.map tRow) := fineRs_of (tRow_clean l)
theorem nodeRead_ok {s : ByteArray} (h : (nodeRead s).2 = true) : nodeOk (nodeRead s).1 = true := by
  unfold nodeRead at h ⊢
  split at h
  · cases h
  · rename_i h0
    split at h
    · rename_i ht
      rw [if_neg h0, if_pos ht]
      simp only
      cases hk : nodeOk (nodeRaw s) with
      | true => rfl
      | false =>
        exfalso
        have e : nodeText (nodeRaw s) = ⟨#[]⟩ := by unfold nodeText; rw [hk]; rfl
        rw [e] at ht
        exact h0 (by rw [← ht]; rfl)
    · cases h
theorem nodeOk_kids {n : NodeV} (h : nodeOk n = true) : (∀ y ∈ n.kids, 1 ≤ y ∧ y ≤ 11) ∧ n.names.length = n.kids.length := by
  rcases hd : n.dir with _ | _
  · obtain ⟨h1, h2, _⟩ := nodeOk_file hd h
    refine ⟨fun y hy => ?_, by omega⟩
    rw [List.eq_nil_of_length_eq_zero h2] at hy
    cases hy
  · obtain ⟨h1, _, h3⟩ := nodeOk_dir hd h
    refine ⟨fun y hy => ?_, h1⟩
    obtain ⟨i, hi, rfl⟩ := List.getElem_of_mem hy
    have := nodeAt_out (h3 i (by omega))
    rw [List.getD_eq_getElem?_getD (l := n.kids), List.getElem?_eq_getElem hi] at this
    simpa using this.2.2
theorem distinct_le : ∀ (n : Nat) (l : List Int), (∀ y ∈ l, 1 ≤ y ∧ y ≤ (n : Int)) → l.Nodup → l.length ≤ n
  | 0, l, h, _ => by
    cases l with
    | nil => exact Nat.le_refl _
    | cons y l => have := h y (by simp); omega
  | n + 1, l, h, hd => by
    by_cases hc : ((n + 1 : Nat) : Int) ∈ l
    · have h1 := distinct_le n (l.erase ((n + 1 : Nat) : Int)) (fun y hy => by
        have h2 := (List.Nodup.mem_erase_iff hd).1 hy
        have h3 := h y h2.2
        have h4 := h2.1
        omega) (hd.erase _)
      rw [List.length_erase_of_mem hc] at h1
      omega
    · have h1 := distinct_le n l (fun y hy => by
        have h3 := h y hy
        have h4 : y ≠ ((n + 1 : Nat) : Int) := fun e => hc (e ▸ hy)
        omega) hd
      omega
theorem nodeAt_new {n : NodeV} {i : Nat} (h : nodeAtOk n i = true) : hasK (n.kids.take i) (n.kids.getD i 0) = false := by
  unfold nodeAtOk at h
  simp only [Bool.and_eq_true] at h
  simpa using h.2.2.2
theorem nodeOk_few {n : NodeV} (h : nodeOk n = true) : n.kids.length ≤ 11 := by
  have hk := (nodeOk_kids h).1
  rcases hd : n.dir with _ | _
  · obtain ⟨_, h2, _⟩ := nodeOk_file hd h
    omega
  · obtain ⟨h1, _, h3⟩ := nodeOk_dir hd h
    refine distinct_le 11 n.kids hk ?_
    refine List.pairwise_iff_getElem.2 (fun i j hi hj hij e => ?_)
    have := nodeAt_new (h3 j (by omega))
    rw [List.getD_eq_getElem?_getD, List.getElem?_eq_getElem hj] at this
    unfold hasK at this
    rw [List.any_eq_false] at this
    have hm : n.kids[i] ∈ n.kids.take j := List.mem_take_iff_getElem.2 ⟨i, by omega, rfl⟩
    exact this _ hm (by simp [e])
/-- Over the numbers of a folder. -/
def goKids (g : Nat → List Bool → Bool × List Bool) : List Int → List Bool → Bool × List Bool
  | [], met => (true, met)
  | y :: ys, met => if (g y.toNat met).1 = true then goKids g ys (g y.toNat met).2 else (false, (g y.toNat met).2)
/-- As the program goes. -/
def goI (l : List ByteArray) : Nat → Nat → List Bool → Bool × List Bool
  | 0, _, met => (false, met)
  | f + 1, k, met =>
    if (nodeRead (l.getD k ⟨#[]⟩)).2 = true ∧ met.getD k false = false ∧ ¬ (k = 0 ∧ (nodeRead (l.getD k ⟨#[]⟩)).1.dir = false) then goKids (goI l f) (nodeRead (l.getD k ⟨#[]⟩)).1.kids (met.set k true)
    else (false, met)
theorem goKids_len {g : Nat → List Bool → Bool × List Bool} (hg : ∀ k m, m.length = 12 → (g k m).2.length = 12) : ∀ (ys : List Int) (m : List Bool), m.length = 12 → (goKids g ys m).2.length = 12
  | [], m, h => h
  | y :: ys, m, h => by
    rw [goKids]
    split
    · exact goKids_len hg ys _ (hg _ _ h)
    · exact hg _ _ h
theorem goI_len (l : List ByteArray) : ∀ (f k : Nat) (m : List Bool), m.length = 12 → (goI l f k m).2.length = 12
  | 0, k, m, h => h
  | f + 1, k, m, h => by
    rw [goI]
    split
    · exact goKids_len (goI_len l f) _ _ (by rw [List.length_set]; exact h)
    · exact h
end Go.Proofs.YtkijdbljnefeaaaGreatDoor
namespace Go.VM
/-- One list handed over and given back, behind one thing that is only read. -/
theorem call_b1 {P : Program} {fid : Nat} {o : Oper} {env : Nat → VV} {st : St} {c : Call} {g : Operand} {f : FuncId} {fn : Func} {caps : List (List T)} (ts : List TypeId) (r : Nat) {m sz len : Nat} {rows rows' : List (List T)} {lg : List Path} {a : VV} {xs : List VV} {ca : CT} {cs : List CT}
    {args outs : List RT} (hf : P.funcs[f]? = some fn) (hruns : Runs P f args outs [(1, ⟨false, sz, rows', []⟩)]) (hop : o.op = .call c) (hcal : c.callee = .value g) (hg : ev P env 0 g = .fn f caps) (hbody : fn.body.isNone = false) (hname : (fn.name == "runtime.NumGoroutine") = false)
    (hts : ts.length = c.args.size) (hxs : (c.args.toList.zip ts).map (fun p => ev P env p.2 p.1) ++ caps.map VV.rop = a :: .al r [] m sz 0 len :: xs) (ha : a.cells = [a]) (hst : st r = some ⟨false, sz, rows, lg⟩) (hlen : rows.length = len)
    (hl : lendAll (st.put r none) (a :: xs.flatMap VV.cells) = some (ca :: cs)) (hcs : rcells args = ca :: .v (.list true sz rows) :: cs)
    (hshape : shapes (a :: .al r [] m sz 0 len :: xs) args = true) (hc1 : ∀ c ∈ rcells outs, c.fine (Known st (a :: .al r [] m sz 0 len :: xs.flatMap VV.cells))) (hc2 : fineRs (Known st (a :: .al r [] m sz 0 len :: xs.flatMap VV.cells)) rows') (hm : Nat.ble (rcells outs).length 1024 = true) (hn : Nat.ble (rcells args).length 1024 = true) :
    OpOk P fid o env st ⟨outL (rvv fid outs), [(r, none), (r, some ⟨false, sz, rows', lg ++ [[]]⟩)] ++ cups fid (rcells outs)⟩ := by
  subst hlen
  have hcells : (a :: VV.al r [] m sz 0 rows.length :: xs).flatMap VV.cells = a :: .al r [] m sz 0 rows.length :: xs.flatMap VV.cells := by
    rw [List.flatMap_cons, ha, List.flatMap_cons]; rfl
  have hl' : ∃ c0, lendC (st.put r none) a = some c0 ∧ c0 = ca ∧ lendAll (st.put r none) (xs.flatMap VV.cells) = some cs := by
    simp only [lendAll] at hl
    cases h1 : lendC (st.put r none) a with
    | none => rw [h1] at hl; cases hl
    | some c0 =>
      rw [h1] at hl
      cases h2 : lendAll (st.put r none) (xs.flatMap VV.cells) with
      | none => rw [h2] at hl; cases hl
      | some c1 =>
        rw [h2] at hl
        simp only [Option.map_some,Option.some.injEq,List.cons.injEq] at hl
        exact ⟨c0, rfl, hl.1, by rw [hl.2]⟩
  obtain ⟨_, h1, rfl, h2⟩ := hl'
  have h := call_okH (P := P) (fid := fid) (o := o) (env := env) (st := st) (ms := .ro :: .back :: xs.map fun _ => Md.ro) (ys := none :: some (.v (.list true sz rows)) :: (xs.flatMap VV.cells).map fun _ => none) (u := [(r, none)]) (bk := none :: some r :: (xs.flatMap VV.cells).map fun _ => none) (cs := _ :: .v (.list true sz rows) :: cs)
    (B := [(r, 1, ⟨false, sz, rows', []⟩)]) (bu := [(r, some ⟨false, sz, rows', lg ++ [[]]⟩)]) (ts := ts) (xs := a :: .al r [] m sz 0 rows.length :: xs)
    hop hcal hg hf hbody hname hxs.symm hts (by simp)
    (by
      rw [List.zip_cons_cons, List.zip_cons_cons, List.flatMap_cons, List.flatMap_cons, modes_ro, ha]
      simp only [show (VV.al r [] m sz 0 rows.length).cells = [VV.al r [] m sz 0 rows.length] from rfl, List.map_cons, List.map_nil, List.singleton_append, handCs, handC, handBack, St.ups_nil, hst, and_self, if_true, handCs_ro, List.append_nil, List.nil_append])
    (by
      rw [hcells]
      simp only [mergeCs,mergeCs_ro',St.ups_cons,St.ups_nil,h1,h2,Option.map_some])
    hshape hcs (fun b hb => by simp only [List.mem_singleton] at hb; subst hb; rfl) (by simp) (by simp) (by simp only [backU,hst,Option.map_some]) hruns
    (by rw [hcells]; exact hc1) (fun b hb => by simp only [List.mem_singleton] at hb; subst hb; rw [hcells]; exact hc2) (Nat.le_of_ble_eq_true hm) (by rw [hcs] at hn; exact Nat.le_of_ble_eq_true hn)
  simpa using h
end Go.VM
