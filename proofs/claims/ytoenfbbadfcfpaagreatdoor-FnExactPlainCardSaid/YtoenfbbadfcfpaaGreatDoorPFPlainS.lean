/- Lists of items, the plain law of paths that are moved: a path's names where it is cut; how many bytes 47 a path has. Nodes: KidDrop and KidPut of the reference. Put values: trees, and the walks of their size, their copy, their comparing (one; a slice). Printed by a program (tfun.py). What is asked of a volume, of the reference: the small parts. What is asked of a volume, of the reference: new things, names, what is dropped. Plain of the reference: what is asked of a list. -/
import Derived.Test.YtoenfbbadfcfpaaGreatDoorPFItem2
import Derived.Test.YtoenfbbadfcfpaaGreatDoorPFItemsOk
import Derived.Test.YtoenfbbadfcfpaaGreatDoorPFPrim
import Derived.Test.YtoenfbbadfcfpaaGreatDoorPFTypedO
import Derived.Test.YtoenfbbadfcfpaaGreatDoorPFWalk
namespace Go.Proofs.YtoenfbbadfcfpaaGreatDoor
open Go.VM Go
set_option linter.unusedSimpArgs false
set_option linter.unusedVariables false
theorem tail_getD (s : ByteArray) (k i : Nat) : (s.extract k s.size).data.toList.getD i 0 = s.data.toList.getD (k + i) 0 := by
  rw [cut_bytes, List.take_of_length_le (by rw [bs_len]; omega), List.getD_eq_getElem?_getD, List.getD_eq_getElem?_getD, List.getElem?_drop]
theorem tail_cut (s : ByteArray) (k i j : Nat) : (s.extract k s.size).extract i j = s.extract (k + i) (k + j) := by
  refine ba_eq ?_
  rw [cut_bytes, cut_bytes, cut_bytes, List.take_of_length_le (l := s.data.toList) (by rw [bs_len]; omega)]
  rw [List.drop_take, List.drop_take, List.drop_drop]
  congr 1
  omega
theorem pcs_shift (s : ByteArray) (k : Nat) : ∀ (n fr i : Nat), pcs 47 s n (k + fr) (k + i) = pcs 47 (s.extract k s.size) n fr i
  | 0, fr, i => by rw [pcs, pcs, tail_cut]
  | n + 1, fr, i => by
    rw [pcs, pcs, tail_getD, tail_cut]
    have h1 := pcs_shift s k n (i + 1) (i + 1)
    have h2 := pcs_shift s k n fr (i + 1)
    rw [← Nat.add_assoc] at h1 h2
    rw [h1, h2]
theorem names_cut {s : ByteArray} {k : Nat} (hk : k < s.size) (h47 : s.data.toList.getD k 0 = 47) : names s = names (s.extract 0 k) ++ names (s.extract (k + 1) s.size) := by
  have e1 : (s.extract 0 k).size = k := by rw [extract_size (by omega), Nat.sub_zero]
  have e2 : (s.extract (k + 1) s.size).size = s.size - (k + 1) := extract_size (Nat.le_refl _)
  have e := pcs_cut s k hk h47 k 0 0 (by omega)
  rw [Nat.sub_zero] at e
  have e3 := pcs_shift s (k + 1) (s.size - (k + 1)) 0 0
  rw [Nat.add_zero] at e3
  unfold names
  rw [e, e1, e2, e3]
theorem names_glue (a r : ByteArray) : names (a ++ ⟨#[47]⟩ ++ r) = names a ++ names r := by
  have hs : (a ++ ⟨#[47]⟩ ++ r).size = a.size + 1 + r.size := by rw [add_size, add_size]; rfl
  have hb : (a ++ ⟨#[47]⟩ ++ r).data.toList = a.data.toList ++ (47 :: r.data.toList) := by rw [add_bytes, add_bytes, List.append_assoc]; rfl
  have h47 : (a ++ ⟨#[47]⟩ ++ r).data.toList.getD a.size 0 = 47 := by
    rw [hb, List.getD_eq_getElem?_getD, List.getElem?_append_right (by rw [bs_len]; omega), bs_len, Nat.sub_self]; rfl
  rw [names_cut (k := a.size) (by omega) h47]
  congr 2
  · refine ba_eq ?_
    rw [head_bytes, hb, ← bs_len a, List.take_left]
  · refine ba_eq ?_
    rw [cut_bytes, List.take_of_length_le (by rw [bs_len]; omega), hb]
    rw [show a.size + 1 = a.data.toList.length + 1 from by rw [bs_len], List.drop_append]
    simp
/-- A path below another one: what stands behind it. -/
theorem under_cut {p q : ByteArray} (h : underB p q = true) (hq : q ≠ ⟨#[]⟩) : pathOk p = true ∧ pathOk q = true ∧ (p = q ∨ ∃ r, p = q ++ ⟨#[47]⟩ ++ r ∧ p.extract q.size p.size = ⟨#[47]⟩ ++ r) := by
  unfold underB at h
  simp only [Bool.and_eq_true, Bool.or_eq_true, decide_eq_true_eq] at h
  obtain ⟨h1, h2, h3⟩ := h
  refine ⟨h1, h2, ?_⟩
  rcases h3 with h3 | h3 | h3
  · exact absurd h3 hq
  · exact .inl h3
  · refine .inr ⟨p.extract (q.size + 1) p.size, ?_⟩
    rw [pre_iff] at h3
    simp only [Bool.and_eq_true, decide_eq_true_eq] at h3
    obtain ⟨h3, h4⟩ := h3
    have e1 : p = p.extract 0 (q.size + 1) ++ p.extract (q.size + 1) p.size := by
      refine ba_eq ?_
      rw [add_bytes, head_bytes, cut_bytes, List.take_of_length_le (l := p.data.toList) (i := p.size) (by rw [bs_len]; omega), List.take_append_drop]
    constructor
    · rw [← h4]; exact e1
    · have e2 : p.data.toList = q.data.toList ++ (47 :: (p.extract (q.size + 1) p.size).data.toList) := by
        have := congrArg (fun s : ByteArray => s.data.toList) e1
        simp only [add_bytes] at this
        rw [h4, add_bytes, List.append_assoc] at this
        exact this
      refine ba_eq ?_
      rw [cut_bytes, List.take_of_length_le (by rw [bs_len]; omega), e2, ← bs_len q, List.drop_left, add_bytes]
      rfl
theorem pathOk_names {p : ByteArray} (h0 : p ≠ ⟨#[]⟩) : pathOk p = ((names p).all nameOk && decide (((names p).length : Int) ≤ 4)) := by
  unfold pathOk namesZ
  rw [if_neg h0]
/-- What is moved: the new path may stand where it has few bytes 47. -/
theorem moved_ok {p q t : ByteArray} (h : underB p q = true) (hq : q ≠ ⟨#[]⟩) (ht : pathOk t = true) (ht0 : t ≠ ⟨#[]⟩) :
    t ++ p.extract q.size p.size ≠ ⟨#[]⟩ ∧ pathOk (t ++ p.extract q.size p.size) = decide (((t ++ p.extract q.size p.size).data.toList.count 47 : Int) < 4) := by
  obtain ⟨h1, h2, h3⟩ := under_cut h hq
  have ht1 := ht
  rw [pathOk_names ht0, Bool.and_eq_true, decide_eq_true_eq] at ht1
  have hsz : 0 < t.size := by
    rcases Nat.eq_zero_or_pos t.size with e | e
    · exact absurd (size0.2 e) ht0
    · exact e
  rcases h3 with rfl | ⟨r, rfl, e2⟩
  · have e : p.extract p.size p.size = ⟨#[]⟩ := size0.2 (by rw [ByteArray.size_extract]; omega)
    rw [e, app_nil]
    refine ⟨ht0, ?_⟩
    rw [ht]
    have := names_len t
    refine (decide_eq_true ?_).symm
    omega
  · rw [e2, ← app_assoc]
    have hne : t ++ ⟨#[47]⟩ ++ r ≠ ⟨#[]⟩ := fun e => by
      have := congrArg ByteArray.size e
      rw [add_size, add_size] at this
      have h0 : (⟨#[]⟩ : ByteArray).size = 0 := rfl
      omega
    have hpne : q ++ ⟨#[47]⟩ ++ r ≠ ⟨#[]⟩ := fun e => by
      have := congrArg ByteArray.size e
      rw [add_size, add_size] at this
      have h0 : (⟨#[]⟩ : ByteArray).size = 0 := rfl
      have h1 : (⟨#[47]⟩ : ByteArray).size = 1 := rfl
      omega
    refine ⟨hne, ?_⟩
    rw [pathOk_names hpne, names_glue, Bool.and_eq_true, List.all_append, Bool.and_eq_true] at h1
    have hl := names_len (t ++ ⟨#[47]⟩ ++ r)
    have hok : (names (t ++ ⟨#[47]⟩ ++ r)).all nameOk = true := by
      rw [names_glue, List.all_append, ht1.1, h1.1.2]; rfl
    rw [pathOk_names hne, hok, Bool.true_and, hl]
    by_cases hc : ((t ++ ⟨#[47]⟩ ++ r).data.toList.count 47 : Int) < 4
    · rw [decide_eq_true hc]; exact decide_eq_true (by omega)
    · rw [decide_eq_false hc]; exact decide_eq_false (by omega)
theorem unmoved_ok {p : ByteArray} (h : pathOk p = true) (h0 : p ≠ ⟨#[]⟩) : (p.data.toList.count 47 : Int) < 4 := by
  rw [pathOk_names h0, Bool.and_eq_true, decide_eq_true_eq] at h
  have := names_len p
  omega

/-! ### lists that are right -/
theorem okFrom_mem {l : List It3} : ∀ {r : List It3} {i : Nat}, okFrom l r i = true → ∀ (j : Nat) (x : It3), r[j]? = some x → itemBad l (i + j) x = false
  | [], i, h, j, x, hx => by simp at hx
  | y :: r, i, h, j, x, hx => by
    rw [okFrom, Bool.and_eq_true] at h
    cases j with
    | zero =>
      simp only [List.getElem?_cons_zero, Option.some.injEq] at hx
      subst hx
      simpa using h.1
    | succ j =>
      have := okFrom_mem h.2 j x (by simpa using hx)
      rwa [show i + 1 + j = i + (j + 1) from by omega] at this
theorem itemsOk_at {l : List It3} (h : itemsOk l = true) : l.length ≤ 11 ∧ ∀ (j : Nat) (x : It3), l[j]? = some x → (splitF x.1).2.2 = true ∧ x.2.2.size ≤ 60 ∧ (x.2.1 = true → x.2.2 = ⟨#[]⟩) ∧ idxOf (hasPath x.1) l 0 = (j : Int) ∧ isFold l (splitF x.1).1 = true := by
  unfold itemsOk at h
  rw [Bool.and_eq_true, decide_eq_true_eq] at h
  refine ⟨by omega, fun j x hx => ?_⟩
  have hb := okFrom_mem h.1 j x hx
  unfold itemBad at hb
  simp only [Bool.or_eq_false_iff, Bool.and_eq_false_imp, Bool.not_eq_false', decide_eq_false_iff_not, decide_eq_true_eq, Nat.zero_add] at hb
  obtain ⟨h1, h2, h3, h4, h5⟩ := hb
  refine ⟨h1, by omega, fun hd => h3 hd, h4, h5⟩
theorem splitF_ok {s : ByteArray} (h : (splitF s).2.2 = true) : pathOk s = true ∧ s ≠ ⟨#[]⟩ := by
  refine ⟨(split_names h).1, fun e => ?_⟩
  rw [splitF_nil e] at h; cases h
end Go.Proofs.YtoenfbbadfcfpaaGreatDoor
namespace Go.Proofs.YtoenfbbadfcfpaaGreatDoor
open Go.VM Go
set_option maxRecDepth 100000
set_option linter.unusedSimpArgs false
set_option linter.unusedVariables false
attribute [local congr] vw_congr runV_congr runH_congr runW_congr runX_congr stuckV_congr stuckX_congr

def skipN {α : Type} (at_ : Int) : Nat → List α → List α
  | _, [] => []
  | i, x :: l => if (i : Int) = at_ then skipN at_ (i + 1) l else x :: skipN at_ (i + 1) l
theorem skipN_le {α : Type} (at_ : Int) : ∀ (l : List α) (i : Nat), (skipN at_ i l).length ≤ l.length
  | [], i => Nat.le_refl _
  | x :: l, i => by
    have := skipN_le at_ l (i + 1)
    unfold skipN
    split
    · simp only [List.length_cons]; omega
    · simp only [List.length_cons]; omega
theorem skipN_len {α β : Type} (at_ : Int) : ∀ (l : List α) (m : List β) (i : Nat), l.length = m.length → (skipN at_ i l).length = (skipN at_ i m).length
  | [], [], i, _ => rfl
  | x :: l, y :: m, i, h => by
    have := skipN_len at_ l m (i + 1) (by simpa using h)
    unfold skipN
    split
    · exact this
    · simp only [List.length_cons, this]
theorem skipN_mem {α : Type} (at_ : Int) : ∀ (l : List α) (i : Nat) (x : α), x ∈ skipN at_ i l → x ∈ l
  | [], i, x, h => h
  | y :: l, i, x, h => by
    unfold skipN at h
    split at h
    · exact List.mem_cons_of_mem _ (skipN_mem at_ l _ x h)
    · rcases List.mem_cons.1 h with h | h
      · exact h ▸ List.mem_cons_self
      · exact List.mem_cons_of_mem _ (skipN_mem at_ l _ x h)
def kidDropF (n : NodeV) (s : ByteArray) : NodeV := ⟨n.dir, skipN (kidIx n.names n.kids s 0) 0 n.names, skipN (kidIx n.names n.kids s 0) 0 n.kids, n.data⟩

set_option maxHeartbeats 1000000 in
theorem runs_110 (n : NodeV) (h : n.names.length = n.kids.length) (h1 : n.names.length ≤ 1000) (s : ByteArray) (N : NodeV) (hN : N = kidDropF n s) :
    Runs Tryz.prog 110 [.agg [.v (.bool n.dir), .v (.list false 1 (n.names.map sRow)), .v (.list false 1 (n.kids.map nRow)), .v (.str n.data)], .one (.v (.str s))] [.agg [.v (.bool N.dir), .v (.list true 1 (N.names.map sRow)), .v (.list true 1 (N.kids.map nRow)), .v (.str N.data)]] [] := by
  refine runs_tab (tab := [(0, .agg [.c (.bool n.dir), .c (.list false 1 (n.names.map sRow)), .c (.list false 1 (n.kids.map nRow)), .c (.str n.data)]), (1, .c (.str s))]) (rts := []) (n := 54) (k := 5) Tryz.func110 rfl rfl (by simp) rfl (fun t => ?_) rfl ?_
  · rcases t with _ | _ | t <;> rfl
  have rL := runs_125 n (by omega) (by omega) s
  unfold kidDropF at hN
  generalize kidIx n.names n.kids s 0 = at_ at rL hN
  (refine vw_go rfl ?_; simp only [go_sem, setCells, setIn])
  (refine vw_go rfl ?_; simp only [go_sem, setCells, setIn])
  (refine vw_go rfl ?_; simp only [go_sem, setCells, setIn])
  (refine ⟨_, _, call_rx [0, 0] Tryz.func125 (rL) rfl rfl rfl rfl rfl rfl rfl (by simp [lendAll, lendC, seek, fresh, nav, rcells, RT.cells, VV.cells, tabE_cons, tabS_cons, ev, take_map_len, sRow_r1, sRow_comp, sRow_clean, nRow_r1, nRow_comp, nRow_clean]) rfl (by simp [rcells, RT.cells, CT.clean, T.clean, sRow_r1, sRow_comp, sRow_clean, nRow_r1, nRow_comp, nRow_clean]) rfl rfl, ?_⟩)
  simp only [runH, runX, go_sem, setCells, setIn]
  refine vw_seq ?_
  (refine vw_go rfl ?_; simp only [go_sem, setCells, setIn])
  refine vw_block ?_
  refine vw_loop_tab (α := Nat × List ByteArray × List Int × List Path) (fun x => n.names.length - x.1) (fun x => ⟨tabE [(2, .ptr 5 [] 0 0 0), (4, .ptr 6 [] 0 0 0), (5, .ptr 7 [] 0 0 0), (6, .c (.int .i64 at_)), (7, .c (.int .i64 x.1))],
      tabS [(5, some ⟨true, 4, [[.bool n.dir, .list false 1 (n.names.map sRow), .list false 1 (n.kids.map nRow), .str n.data]], []⟩), (6, some ⟨true, 4, [[.bool false, .list true 1 [], .list true 1 [], .str ⟨#[]⟩]], []⟩), (7, some ⟨true, 4, [[.bool n.dir, .list true 1 (x.2.1.map sRow), .list true 1 (x.2.2.1.map nRow), .str n.data]], x.2.2.2⟩)], 8⟩)
    (fun x => x.1 ≤ n.names.length ∧ skipN at_ 0 n.names = x.2.1 ++ skipN at_ x.1 (n.names.drop x.1) ∧ skipN at_ 0 n.kids = x.2.2.1 ++ skipN at_ x.1 (n.kids.drop x.1) ∧ x.2.1.length ≤ x.1 ∧ x.2.2.1.length ≤ x.1) (x := (0, [], [], [[(0, 1)], [(0, 2)]])) ?round ?h0 ?hn
  case h0 => exact ⟨Nat.zero_le _, rfl, rfl, Nat.le_refl _, Nat.le_refl _⟩
  case hn =>
    (refine norm_to [(5, 5), (1029, 6), (70661, 7)] rfl ?_ ?_ <;> simp only [go_sem])
  rintro ⟨i, a, b, lg⟩ ⟨hi, ha, hb, hla, hlb⟩
  simp only at hi ha hb hla hlb
  refine vw_seq ?_
  have bt : List.take a.length (a.map sRow) = a.map sRow := List.take_of_length_le (by simp)
  have bt2 : List.take b.length (b.map nRow) = b.map nRow := List.take_of_length_le (by simp)
  by_cases hc : (i : Int) < n.names.length
  case neg =>
    rw [List.drop_eq_nil_of_le (by omega), skipN, List.append_nil] at ha hb
    rw [ha, hb] at hN
    subst hN
    (refine vw_go rfl ?_; simp only [hc, go_sem, setCells, setIn])
    (refine vw_cond (t := false) rfl (fun h => nomatch h) (fun _ => ?_))
    refine vw_exit (x_then (x_then (x_block (n_then ?_))))
    (refine vw_go rfl ?_; simp only [List.drop_length, bt, bt2, go_sem, setCells, setIn])
    exact vw_ret (e_ret (ret_by rfl rfl (by simp [RB]) rfl (by simp only [takeCs, takeC, go_sem, setCells, setIn])))
  have hin : i < n.names.length := by omega
  have hik : i < n.kids.length := by omega
  have hc2 : (i : Int) < n.kids.length := by omega
  obtain ⟨u, hu⟩ : ∃ u, n.names[i]? = some u := ⟨_, List.getElem?_eq_getElem hin⟩
  obtain ⟨y, hy⟩ : ∃ y, n.kids[i]? = some y := ⟨_, List.getElem?_eq_getElem hik⟩
  rw [drop_of hu, skipN] at ha
  rw [drop_of hy, skipN] at hb
  have d0 : (0:Int) ≤ (i : Int) := by omega
  have w3 : IntKind.wrap .i64 ((i:Int) + 1) = ((i + 1 : Nat) : Int) := by rw [wrap_i64 (by omega) (by omega)]; rfl
  (refine vw_go rfl ?_; simp only [hc, hc2, go_sem, setCells, setIn])
  (refine vw_cond (t := true) rfl (fun _ => ?_) (fun h => nomatch h))
  refine vw_skip (n_then ?_)
  refine vw_seq ?_
  refine vw_block ?_
  by_cases he : (i : Int) = at_
  · rw [if_pos he] at ha hb
    obtain rfl : at_ = (i : Int) := he.symm
    (refine vw_go rfl ?_; simp only [go_sem, setCells, setIn])
    (refine vw_cond (t := false) rfl (fun h => nomatch h) (fun _ => ?_))
    refine vw_skip (n_block (n_then ?_))
    (refine vw_last rfl ?_; simp only [w3, go_sem, setCells, setIn])
    refine (n_then ?_)
    refine ⟨(i + 1, a, b, lg), by simp only; omega, ⟨by simp only; omega, ha, hb, by simp only; omega, by simp only; omega⟩, ?_⟩
    (refine norm_to [(5, 5), (6, 6), (7, 7)] rfl ?_ ?_ <;> simp only [go_sem])
  rw [if_neg he] at ha hb
  have B1 : ¬ (a.length + 1 + 1) * (16 + 1) > bigRow := by simp only [bigRow]; omega
  have B2 : ¬ (b.length + 1 + 1) * (8 + 1) > bigRow := by simp only [bigRow]; omega
  have bt : List.take a.length (a.map sRow) = a.map sRow := List.take_of_length_le (by simp)
  have bt2 : List.take b.length (b.map nRow) = b.map nRow := List.take_of_length_le (by simp)
  (refine vw_go rfl ?_; simp only [he, go_sem, setCells, setIn])
  (refine vw_cond (t := true) rfl (fun _ => ?_) (fun h => nomatch h))
  (refine vw_draw mixed rfl rfl ?_; simp only [B1, d0, hc, hin, Int.toNat_natCast, getD_map_of hu, sRow, bt, List.drop_length, List.length_append, range1, List.replicate_succ, List.replicate_zero, List.flatten_cons, List.flatten_nil, List.range_zero, gt_iff_lt, take_snocR, go_sem, setCells, setIn])
  refine ⟨by unfold allOk; kernel_rfl, ?_⟩
  (refine vw_draw_last mixed rfl rfl ?_; simp only [B2, d0, hc2, hik, Int.toNat_natCast, getD_map_of hy, nRow, bt2, List.drop_length, List.length_append, range1, List.replicate_succ, List.replicate_zero, List.flatten_cons, List.flatten_nil, List.range_zero, gt_iff_lt, take_snocR, drop_snocR, go_sem, setCells, setIn])
  refine ⟨by unfold allOk; kernel_rfl, ?_⟩
  refine (n_block (n_then ?_))
  (refine vw_last rfl ?_; simp only [w3, go_sem, setCells, setIn])
  refine (n_then ?_)
  have e4 : a.map sRow ++ [[.str u]] = (a ++ [u]).map sRow := by simp [sRow]
  have e5 : b.map nRow ++ [[.int .i64 y]] = (b ++ [y]).map nRow := by simp
  rw [e4, e5]
  refine ⟨(i + 1, a ++ [u], b ++ [y], lg ++ [[(0, 1)]] ++ [[(0, 2)]]), by simp only; omega, ⟨by simp only; omega, by simpa using ha, by simpa using hb, by simp; omega, by simp; omega⟩, ?_⟩
  (refine norm_to [(5, 5), (6, 6), (7, 7)] rfl ?_ ?_ <;> simp only [go_sem])

def gtS (u s : ByteArray) : Bool := !(Op.bytesLess u.toList s.toList || decide (u = s))
def putLoop (s : ByteArray) (k : Int) : Bool → List ByteArray → List Int → List ByteArray × List Int
  | true, xs, ys => (xs, ys)
  | false, a :: xs, b :: ys => if gtS a s = true then (s :: a :: xs, k :: b :: ys) else (a :: (putLoop s k false xs ys).1, b :: (putLoop s k false xs ys).2)
  | false, _, _ => ([s], [k])
def kidPutF (n : NodeV) (s : ByteArray) (k : Int) : NodeV :=
  ⟨n.dir, (putLoop s k false (kidDropF n s).names (kidDropF n s).kids).1, (putLoop s k false (kidDropF n s).names (kidDropF n s).kids).2, n.data⟩

set_option maxHeartbeats 1000000 in
theorem runs_91 (n : NodeV) (h : n.names.length = n.kids.length) (h1 : n.names.length ≤ 1000) (s : ByteArray) (k : Int) (N : NodeV) (hN : N = kidPutF n s k) :
    Runs Tryz.prog 91 [.agg [.v (.bool n.dir), .v (.list false 1 (n.names.map sRow)), .v (.list false 1 (n.kids.map nRow)), .v (.str n.data)], .one (.v (.str s)), .one (.v (.int .i64 k))] [.agg [.v (.bool N.dir), .v (.list true 1 (N.names.map sRow)), .v (.list true 1 (N.kids.map nRow)), .v (.str N.data)]] [] := by
  refine runs_tab (tab := [(0, .agg [.c (.bool n.dir), .c (.list false 1 (n.names.map sRow)), .c (.list false 1 (n.kids.map nRow)), .c (.str n.data)]), (1, .c (.str s)), (2, .c (.int .i64 k))]) (rts := []) (n := 84) (k := 6) Tryz.func91 rfl rfl (by simp) rfl (fun t => ?_) rfl ?_
  · rcases t with _ | _ | _ | t <;> rfl
  have rD := runs_110 n h h1 s _ rfl
  have hml : (kidDropF n s).names.length = (kidDropF n s).kids.length := skipN_len _ _ _ _ h
  have hm1 : (kidDropF n s).names.length ≤ 1000 := Nat.le_trans (skipN_le _ _ _) h1
  unfold kidPutF at hN
  generalize kidDropF n s = m at rD hml hm1 hN
  have bm : List.take m.names.length (m.names.map sRow) = m.names.map sRow := List.take_of_length_le (by simp)
  have bm2 : List.take m.kids.length (m.kids.map nRow) = m.kids.map nRow := List.take_of_length_le (by simp)
  (refine vw_go rfl ?_; simp only [go_sem, setCells, setIn])
  (refine vw_go rfl ?_; simp only [go_sem, setCells, setIn])
  (refine ⟨_, _, call_rx [0, 0] Tryz.func110 (rD) rfl rfl rfl rfl rfl rfl rfl (by simp [lendAll, lendC, seek, fresh, nav, rcells, RT.cells, VV.cells, tabE_cons, tabS_cons, ev, take_map_len, sRow_r1, sRow_comp, sRow_clean, nRow_r1, nRow_comp, nRow_clean]) rfl (by simp [rcells, RT.cells, CT.clean, T.clean, sRow_r1, sRow_comp, sRow_clean, nRow_r1, nRow_comp, nRow_clean]) rfl rfl, ?_⟩)
  simp only [runH, runX, bm, bm2, go_sem, setCells, setIn]
  (refine vw_go rfl ?_; simp only [go_sem, setCells, setIn])
  (refine vw_go rfl ?_; simp only [go_sem, setCells, setIn])
  refine vw_seq ?_
  (refine vw_go rfl ?_; simp only [go_sem, setCells, setIn])
  refine vw_block ?_
  refine vw_loop_tab (α := Nat × List ByteArray × List Int × Bool × List Path) (fun x => m.names.length - x.1) (fun x => ⟨tabE [(1, .c (.str s)), (2, .c (.int .i64 k)), (6, .ptr 7 [] 0 0 0), (7, .ptr 8 [] 0 0 0), (8, .ptr 9 [] 0 0 0), (9, .c (.bool x.2.2.2.1)), (10, .c (.int .i64 x.1))],
      tabS [(7, some ⟨true, 4, [[.bool false, .list true 1 [], .list true 1 [], .str ⟨#[]⟩]], []⟩), (8, some ⟨true, 4, [[.bool m.dir, .list true 1 (m.names.map sRow), .list true 1 (m.kids.map nRow), .str m.data]], [[(0, 1)], [(0, 2)]]⟩), (9, some ⟨true, 4, [[.bool n.dir, .list true 1 (x.2.1.map sRow), .list true 1 (x.2.2.1.map nRow), .str n.data]], x.2.2.2.2⟩)], 10⟩)
    (fun x => x.1 ≤ m.names.length ∧ (putLoop s k false m.names m.kids).1 = x.2.1 ++ (putLoop s k x.2.2.2.1 (m.names.drop x.1) (m.kids.drop x.1)).1 ∧ (putLoop s k false m.names m.kids).2 = x.2.2.1 ++ (putLoop s k x.2.2.2.1 (m.names.drop x.1) (m.kids.drop x.1)).2 ∧ x.2.1.length ≤ 2 * x.1 + 1 ∧ x.2.2.1.length ≤ 2 * x.1 + 1) (x := (0, [], [], false, [[(0, 1)], [(0, 2)]])) ?round ?h0 ?hn
  case h0 => exact ⟨Nat.zero_le _, rfl, rfl, Nat.zero_le _, Nat.zero_le _⟩
  case hn =>
    (refine norm_to [(1030, 7), (68614, 8), (136198, 9)] rfl ?_ ?_ <;> simp only [go_sem])
  rintro ⟨i, a, b, put, lg⟩ ⟨hi, ha, hb, hla, hlb⟩
  simp only at hi ha hb hla hlb
  refine vw_seq ?_
  have bt : List.take a.length (a.map sRow) = a.map sRow := List.take_of_length_le (by simp)
  have bt2 : List.take b.length (b.map nRow) = b.map nRow := List.take_of_length_le (by simp)
  have B1 : ¬ (a.length + 1 + 1) * (16 + 1) > bigRow := by simp only [bigRow]; omega
  have B2 : ¬ (b.length + 1 + 1) * (8 + 1) > bigRow := by simp only [bigRow]; omega
  by_cases hc : (i : Int) < m.names.length
  case neg =>
    rw [List.drop_eq_nil_of_le (by omega), List.drop_eq_nil_of_le (by omega)] at ha hb
    cases put
    · simp only [putLoop] at ha hb
      rw [ha, hb] at hN
      subst hN
      (refine vw_go rfl ?_; simp only [hc, bm, bm2, go_sem, setCells, setIn])
      (refine vw_cond (t := false) rfl (fun h => nomatch h) (fun _ => ?_))
      refine vw_exit (x_then (x_then (x_block (n_then ?_))))
      refine vw_seq ?_
      (refine vw_go rfl ?_; simp only [go_sem, setCells, setIn])
      (refine vw_cond (t := true) rfl (fun _ => ?_) (fun h => nomatch h))
      (refine vw_go rfl ?_; simp only [B1, bt, List.drop_length, List.length_append, range1, List.replicate_succ, List.replicate_zero, List.flatten_cons, List.flatten_nil, List.range_zero, gt_iff_lt, take_snocR, go_sem, setCells, setIn])
      (refine vw_last rfl ?_; simp only [B2, bt2, List.drop_length, List.length_append, range1, List.replicate_succ, List.replicate_zero, List.flatten_cons, List.flatten_nil, List.range_zero, gt_iff_lt, take_snocR, drop_snocR, go_sem, setCells, setIn])
      refine (n_then ?_)
      have e4 : a.map sRow ++ [[.str s]] = (a ++ [s]).map sRow := by simp [sRow]
      have e5 : b.map nRow ++ [[.int .i64 k]] = (b ++ [k]).map nRow := by simp
      rw [e4, e5]
      have bt3 : List.take (a.length + 1) ((a ++ [s]).map sRow) = (a ++ [s]).map sRow := List.take_of_length_le (by simp)
      have bt4 : List.take (b.length + 1) ((b ++ [k]).map nRow) = (b ++ [k]).map nRow := List.take_of_length_le (by simp)
      have ll : (a ++ [s]).length = a.length + 1 := by simp
      have ll2 : (b ++ [k]).length = b.length + 1 := by simp
      (refine vw_go rfl ?_; simp only [List.drop_length, bt3, bt4, ll, ll2, go_sem, setCells, setIn])
      exact vw_ret (e_ret (ret_by rfl rfl (by simp [RB]) rfl (by simp only [takeCs, takeC, go_sem, setCells, setIn])))
    · simp only [putLoop, List.append_nil] at ha hb
      rw [ha, hb] at hN
      subst hN
      (refine vw_go rfl ?_; simp only [hc, bm, bm2, go_sem, setCells, setIn])
      (refine vw_cond (t := false) rfl (fun h => nomatch h) (fun _ => ?_))
      refine vw_exit (x_then (x_then (x_block (n_then ?_))))
      refine vw_seq ?_
      (refine vw_go rfl ?_; simp only [go_sem, setCells, setIn])
      (refine vw_cond (t := false) rfl (fun h => nomatch h) (fun _ => ?_))
      refine vw_skip (n_then ?_)
      (refine vw_go rfl ?_; simp only [List.drop_length, bt, bt2, go_sem, setCells, setIn])
      exact vw_ret (e_ret (ret_by rfl rfl (by simp [RB]) rfl (by simp only [takeCs, takeC, go_sem, setCells, setIn])))
  have hin : i < m.names.length := by omega
  have hik : i < m.kids.length := by omega
  have hc2 : (i : Int) < m.kids.length := by omega
  obtain ⟨u, hu⟩ : ∃ u, m.names[i]? = some u := ⟨_, List.getElem?_eq_getElem hin⟩
  obtain ⟨y, hy⟩ : ∃ y, m.kids[i]? = some y := ⟨_, List.getElem?_eq_getElem hik⟩
  rw [drop_of hu, drop_of hy] at ha hb
  have d0 : (0:Int) ≤ (i : Int) := by omega
  have w3 : IntKind.wrap .i64 ((i:Int) + 1) = ((i + 1 : Nat) : Int) := by rw [wrap_i64 (by omega) (by omega)]; rfl
  (refine vw_go rfl ?_; simp only [hc, bm, bm2, go_sem, setCells, setIn])
  (refine vw_cond (t := true) rfl (fun _ => ?_) (fun h => nomatch h))
  refine vw_skip (n_then ?_)
  refine vw_seq ?_
  refine vw_block ?_
  cases put
  case true =>
    simp only [putLoop] at ha hb
    refine vw_seq ?_
    (refine vw_go rfl ?_; simp only [d0, hc, hin, Int.toNat_natCast, getD_map_of hu, sRow, bm, bm2, go_sem, setCells, setIn])
    (refine vw_cond (t := false) rfl (fun h => nomatch h) (fun _ => ?_))
    refine vw_skip (n_then ?_)
    (refine vw_draw mixed rfl rfl ?_; simp only [B1, d0, hc, hin, Int.toNat_natCast, getD_map_of hu, sRow, bt, bm, bm2, List.drop_length, List.length_append, range1, List.replicate_succ, List.replicate_zero, List.flatten_cons, List.flatten_nil, List.range_zero, gt_iff_lt, take_snocR, go_sem, setCells, setIn])
    refine ⟨by unfold allOk; kernel_rfl, ?_⟩
    (refine vw_draw_last mixed rfl rfl ?_; simp only [B2, d0, hc2, hik, Int.toNat_natCast, getD_map_of hy, nRow, bt2, bm, bm2, List.drop_length, List.length_append, range1, List.replicate_succ, List.replicate_zero, List.flatten_cons, List.flatten_nil, List.range_zero, gt_iff_lt, take_snocR, drop_snocR, go_sem, setCells, setIn])
    refine ⟨by unfold allOk; kernel_rfl, ?_⟩
    refine (n_block (n_then ?_))
    (refine vw_last rfl ?_; simp only [w3, go_sem, setCells, setIn])
    refine (n_then ?_)
    have e4 : a.map sRow ++ [[.str u]] = (a ++ [u]).map sRow := by simp [sRow]
    have e5 : b.map nRow ++ [[.int .i64 y]] = (b ++ [y]).map nRow := by simp
    rw [e4, e5]
    refine ⟨(i + 1, a ++ [u], b ++ [y], true, lg ++ [[(0, 1)]] ++ [[(0, 2)]]), by simp only; omega, ⟨by simp only; omega, by simpa [putLoop] using ha, by simpa [putLoop] using hb, by simp; omega, by simp; omega⟩, ?_⟩
    (refine norm_to [(6, 6), (7, 7), (8, 8), (9, 9)] rfl ?_ ?_ <;> simp only [go_sem])
  refine vw_seq ?_
  (refine vw_go rfl ?_; simp only [d0, hc, hin, Int.toNat_natCast, getD_map_of hu, sRow, bm, bm2, go_sem, setCells, setIn])
  cases hg : gtS u s
  · rw [putLoop, hg] at ha hb
    simp only [Bool.false_eq_true, if_false] at ha hb
    refine vw_cond (t := false) (by rw [← hg]; rfl) (fun h => nomatch h) (fun _ => ?_)
    refine vw_skip (n_then ?_)
    (refine vw_draw mixed rfl rfl ?_; simp only [B1, d0, hc, hin, Int.toNat_natCast, getD_map_of hu, sRow, bt, bm, bm2, List.drop_length, List.length_append, range1, List.replicate_succ, List.replicate_zero, List.flatten_cons, List.flatten_nil, List.range_zero, gt_iff_lt, take_snocR, go_sem, setCells, setIn])
    refine ⟨by unfold allOk; kernel_rfl, ?_⟩
    (refine vw_draw_last mixed rfl rfl ?_; simp only [B2, d0, hc2, hik, Int.toNat_natCast, getD_map_of hy, nRow, bt2, bm, bm2, List.drop_length, List.length_append, range1, List.replicate_succ, List.replicate_zero, List.flatten_cons, List.flatten_nil, List.range_zero, gt_iff_lt, take_snocR, drop_snocR, go_sem, setCells, setIn])
    refine ⟨by unfold allOk; kernel_rfl, ?_⟩
    refine (n_block (n_then ?_))
    (refine vw_last rfl ?_; simp only [w3, go_sem, setCells, setIn])
    refine (n_then ?_)
    have e4 : a.map sRow ++ [[.str u]] = (a ++ [u]).map sRow := by simp [sRow]
    have e5 : b.map nRow ++ [[.int .i64 y]] = (b ++ [y]).map nRow := by simp
    rw [e4, e5]
    refine ⟨(i + 1, a ++ [u], b ++ [y], false, lg ++ [[(0, 1)]] ++ [[(0, 2)]]), by simp only; omega, ⟨by simp only; omega, by simpa using ha, by simpa using hb, by simp; omega, by simp; omega⟩, ?_⟩
    (refine norm_to [(6, 6), (7, 7), (8, 8), (9, 9)] rfl ?_ ?_ <;> simp only [go_sem])
  rw [putLoop, hg] at ha hb
  simp only [if_true] at ha hb
  refine vw_cond (t := true) (by rw [← hg]; rfl) (fun _ => ?_) (fun h => nomatch h)
  (refine vw_go rfl ?_; simp only [B1, bt, List.drop_length, List.length_append, range1, List.replicate_succ, List.replicate_zero, List.flatten_cons, List.flatten_nil, List.range_zero, gt_iff_lt, take_snocR, go_sem, setCells, setIn])
  (refine vw_go rfl ?_; simp only [B2, bt2, List.drop_length, List.length_append, range1, List.replicate_succ, List.replicate_zero, List.flatten_cons, List.flatten_nil, List.range_zero, gt_iff_lt, take_snocR, drop_snocR, go_sem, setCells, setIn])
  (refine vw_last rfl ?_; simp only [go_sem, setCells, setIn])
  refine (n_then ?_)
  have e6 : a.map sRow ++ [[.str s]] = (a ++ [s]).map sRow := by simp [sRow]
  have e7 : b.map nRow ++ [[.int .i64 k]] = (b ++ [k]).map nRow := by simp
  rw [e6, e7]
  have ha' : (putLoop s k false m.names m.kids).1 = (a ++ [s]) ++ u :: List.drop (i + 1) m.names := by rw [ha]; simp
  have hb' : (putLoop s k false m.names m.kids).2 = (b ++ [k]) ++ y :: List.drop (i + 1) m.kids := by rw [hb]; simp
  have hla2 : (a ++ [s]).length ≤ 2 * i + 2 := by simp; omega
  have hlb2 : (b ++ [k]).length ≤ 2 * i + 2 := by simp; omega
  clear B1 B2 bt bt2 e6 e7 ha hb
  generalize a ++ [s] = a2 at ha' hla2 ⊢
  generalize b ++ [k] = b2 at hb' hlb2 ⊢
  generalize lg ++ [[(0, 1)]] ++ [[(0, 2)]] = lg2
  have bt : List.take a2.length (a2.map sRow) = a2.map sRow := List.take_of_length_le (by simp)
  have bt2 : List.take b2.length (b2.map nRow) = b2.map nRow := List.take_of_length_le (by simp)
  have B1 : ¬ (a2.length + 1 + 1) * (16 + 1) > bigRow := by simp only [bigRow]; omega
  have B2 : ¬ (b2.length + 1 + 1) * (8 + 1) > bigRow := by simp only [bigRow]; omega
  (refine vw_draw mixed rfl rfl ?_; simp only [B1, d0, hc, hin, Int.toNat_natCast, getD_map_of hu, sRow, bt, bm, bm2, List.drop_length, List.length_append, range1, List.replicate_succ, List.replicate_zero, List.flatten_cons, List.flatten_nil, List.range_zero, gt_iff_lt, take_snocR, go_sem, setCells, setIn])
  refine ⟨by unfold allOk; kernel_rfl, ?_⟩
  (refine vw_draw_last mixed rfl rfl ?_; simp only [B2, d0, hc2, hik, Int.toNat_natCast, getD_map_of hy, nRow, bt2, bm, bm2, List.drop_length, List.length_append, range1, List.replicate_succ, List.replicate_zero, List.flatten_cons, List.flatten_nil, List.range_zero, gt_iff_lt, take_snocR, drop_snocR, go_sem, setCells, setIn])
  refine ⟨by unfold allOk; kernel_rfl, ?_⟩
  refine (n_block (n_then ?_))
  (refine vw_last rfl ?_; simp only [w3, go_sem, setCells, setIn])
  refine (n_then ?_)
  have e4 : a2.map sRow ++ [[.str u]] = (a2 ++ [u]).map sRow := by simp [sRow]
  have e5 : b2.map nRow ++ [[.int .i64 y]] = (b2 ++ [y]).map nRow := by simp
  rw [e4, e5]
  refine ⟨(i + 1, a2 ++ [u], b2 ++ [y], true, lg2 ++ [[(0, 1)]] ++ [[(0, 2)]]), by simp only; omega, ⟨by simp only; omega, by simpa [putLoop] using ha', by simpa [putLoop] using hb', by simp; omega, by simp; omega⟩, ?_⟩
  (refine norm_to [(6, 6), (7, 7), (8, 8), (9, 9)] rfl ?_ ?_ <;> simp only [go_sem])
end Go.Proofs.YtoenfbbadfcfpaaGreatDoor
namespace Go.Proofs.YtoenfbbadfcfpaaGreatDoor
open Go.VM
set_option maxRecDepth 100000
set_option linter.unusedSimpArgs false
set_option linter.unusedVariables false
attribute [local congr] vw_congr runV_congr runH_congr runW_congr runX_congr stuckV_congr stuckX_congr

structure PutV where
  sector : Int
  data : ByteArray
  deriving DecidableEq
def putRow (x : PutV) : List T := [.int .i64 x.sector, .str x.data]
def PutV.ok (x : PutV) : Prop := x.data.size < 2 ^ 63
theorem putRow_clean (l : List PutV) : cleanRs (l.map putRow) = true := clean_map (fun x => rfl) l
end Go.Proofs.YtoenfbbadfcfpaaGreatDoor
namespace Go.Proofs.YtoenfbbadfcfpaaGreatDoor
open Go.VM Go
set_option maxRecDepth 100000
set_option linter.unusedSimpArgs false
set_option linter.unusedVariables false
attribute [local congr] vw_congr runV_congr runH_congr runW_congr runX_congr stuckV_congr stuckX_congr

/-! ### the folder of a path -/
theorem splitF_size (p : ByteArray) : (splitF p).1.size ≤ p.size ∧ (splitF p).2.1.size ≤ p.size := by
  unfold splitF
  split
  · exact ⟨Nat.zero_le _, Nat.zero_le _⟩
  · split
    · exact ⟨Nat.zero_le _, Nat.le_refl _⟩
    · simp only [ByteArray.size_extract]; omega
end Go.Proofs.YtoenfbbadfcfpaaGreatDoor
namespace Go.Proofs.YtoenfbbadfcfpaaGreatDoor
open Go.VM Go
set_option maxRecDepth 100000
set_option linter.unusedSimpArgs false
set_option linter.unusedVariables false
attribute [-go_sem] runW_cons
attribute [local congr] vw_congr runV_congr runH_congr runW_congr runX_congr stuckV_congr stuckX_congr

theorem putLoop_len (s : ByteArray) (k : Int) : ∀ (b : Bool) (xs : List ByteArray) (ys : List Int), xs.length = ys.length → (putLoop s k b xs ys).1.length ≤ xs.length + 1 ∧ (putLoop s k b xs ys).1.length = (putLoop s k b xs ys).2.length
  | true, xs, ys, h => by unfold putLoop; exact ⟨Nat.le_succ _, h⟩
  | false, [], [], _ => ⟨Nat.le_refl _, rfl⟩
  | false, a :: xs, b :: ys, h => by
    have := putLoop_len s k false xs ys (by simpa using h)
    unfold putLoop
    split
    · exact ⟨by simp, by simpa using h⟩
    · simp only [List.length_cons]; omega
theorem putLoop_mem (s : ByteArray) (k : Int) : ∀ (b : Bool) (xs : List ByteArray) (ys : List Int), ∀ x ∈ (putLoop s k b xs ys).1, x ∈ xs ∨ x = s
  | true, xs, ys, x, hx => .inl (by simpa [putLoop] using hx)
  | false, [], ys, x, hx => .inr (by cases ys <;> simpa [putLoop] using hx)
  | false, a :: xs, [], x, hx => .inr (by simpa [putLoop] using hx)
  | false, a :: xs, b :: ys, x, hx => by
    unfold putLoop at hx
    split at hx
    · rcases List.mem_cons.1 hx with h | h
      · exact .inr h
      · exact .inl h
    · rcases List.mem_cons.1 hx with h | h
      · exact .inl (h ▸ List.mem_cons_self)
      · rcases putLoop_mem s k false xs ys x h with h | h
        · exact .inl (List.mem_cons_of_mem _ h)
        · exact .inr h
/-- A node that is small. -/
structure NodeV.fit (n : NodeV) : Prop where
  len : n.names.length = n.kids.length
  few : n.names.length ≤ 100
  text : ∀ x ∈ n.names, x.size ≤ 2 ^ 20
  data : n.data.size ≤ 2 ^ 20
theorem NodeV.fit.drop {n : NodeV} (h : n.fit) (s : ByteArray) : (kidDropF n s).fit :=
  ⟨skipN_len _ _ _ _ h.len, Nat.le_trans (skipN_le _ _ _) h.few, fun x hx => h.text x (skipN_mem _ _ _ x hx), h.data⟩
theorem NodeV.fit.put {n : NodeV} (h : n.fit) (hf : n.names.length ≤ 90) (s : ByteArray) (hs : s.size ≤ 2 ^ 20) (k : Int) : (kidPutF n s k).fit := by
  have hd := h.drop s
  have h1 := putLoop_len s k false _ _ hd.len
  have h2 := skipN_le (kidIx n.names n.kids s 0) n.names 0
  refine ⟨h1.2, ?_, fun x hx => ?_, h.data⟩
  · have : (kidDropF n s).names.length ≤ n.names.length := h2
    have : (kidPutF n s k).names.length ≤ (kidDropF n s).names.length + 1 := h1.1
    omega
  · rcases putLoop_mem s k false _ _ x hx with h | h
    · exact hd.text x h
    · rw [h]; exact hs
theorem NodeV.fit.small {n : NodeV} (h : n.fit) : n.small := ⟨by have := h.few; omega, by have := h.few; have := h.len; omega, fun s hs => by have := h.text s hs; omega⟩
/-! ### what is dropped -/
/-! ### what may be asked -/
def opOk (o : OpV) : Bool := inB o.kind 1 7 && (pathOk o.path && (decide ((o.data.size : Int) ≤ 60) && (decide (¬ o.kind = 6) || pathOk o.to)))
theorem runs_30 (o : OpV) (hp : o.path.size ≤ 2 ^ 20) (ht : o.to.size ≤ 2 ^ 20) : Runs Tryz.prog 30 [.agg [.v (.int .i64 o.kind), .v (.str o.path), .v (.str o.to), .v (.str o.data)]] [.one (.v (.bool (opOk o)))] [] := by
  refine runs_tab (tab := [(0, .agg [.c (.int .i64 o.kind), .c (.str o.path), .c (.str o.to), .c (.str o.data)])]) (rts := []) (n := 27) (k := 4) Tryz.func30 rfl rfl (by simp) rfl (fun t => ?_) rfl ?_
  · cases t <;> rfl
  unfold opOk
  (refine vw_go rfl ?_; simp only [go_sem, setCells, setIn])
  (refine vw_go rfl ?_; simp only [go_sem, setCells, setIn])
  (refine ⟨_, _, call_rx [0, 0, 0] Tryz.func61 (runs_61 o.kind 1 7) rfl rfl rfl rfl rfl rfl rfl (by simp [lendAll, lendC, seek, fresh, nav, rcells, RT.cells, VV.cells, tabE_cons, tabS_cons, ev, take_map_len, lit]) rfl (by simp [rcells, RT.cells, CT.clean, T.clean, lit]) rfl rfl, ?_⟩)
  cases inB o.kind 1 7
  · simp only [runH, runX, go_sem, setCells, setIn]
    exact vw_ret (e_ret (ret_of rfl rfl (by simp [RB]) rfl rfl))
  simp only [runH, runX, go_sem, setCells, setIn]
  (refine ⟨_, _, call_rx [0] Tryz.func62 (runs_62 o.path hp) rfl rfl rfl rfl rfl rfl rfl (by simp [lendAll, lendC, seek, fresh, nav, rcells, RT.cells, VV.cells, tabE_cons, tabS_cons, ev, take_map_len, sRow_r1, sRow_comp, sRow_clean, nRow_r1, nRow_comp, nRow_clean, putRow_clean]) rfl (by simp [rcells, RT.cells, CT.clean, T.clean, sRow_r1, sRow_comp, sRow_clean, nRow_r1, nRow_comp, nRow_clean, putRow_clean]) rfl rfl, ?_⟩)
  cases pathOk o.path
  · simp only [runH, runX, go_sem, setCells, setIn]
    exact vw_ret (e_ret (ret_of rfl rfl (by simp [RB]) rfl rfl))
  by_cases h1 : (o.data.size : Int) ≤ 60
  case neg =>
    simp only [runH, runX, h1, go_sem, setCells, setIn]
    exact vw_ret (e_ret (ret_of rfl rfl (by simp [RB]) rfl rfl))
  by_cases h2 : o.kind = 6
  case neg =>
    simp only [runH, runX, h1, h2, go_sem, setCells, setIn]
    exact vw_ret (e_ret (ret_of rfl rfl (by simp [RB]) rfl rfl))
  simp only [runH, runX, h1, h2, go_sem, setCells, setIn]
  (refine ⟨_, _, call_rx [0] Tryz.func62 (runs_62 o.to ht) rfl rfl rfl rfl rfl rfl rfl (by simp [lendAll, lendC, seek, fresh, nav, rcells, RT.cells, VV.cells, tabE_cons, tabS_cons, ev, take_map_len, sRow_r1, sRow_comp, sRow_clean, nRow_r1, nRow_comp, nRow_clean, putRow_clean]) rfl (by simp [rcells, RT.cells, CT.clean, T.clean, sRow_r1, sRow_comp, sRow_clean, nRow_r1, nRow_comp, nRow_clean, putRow_clean]) rfl rfl, ?_⟩)
  simp only [runH, runX, go_sem, setCells, setIn]
  exact vw_ret (e_ret (ret_of rfl rfl (by simp [RB]) rfl rfl))
end Go.Proofs.YtoenfbbadfcfpaaGreatDoor
namespace Go.Proofs.YtoenfbbadfcfpaaGreatDoor
open Go.VM Go
set_option maxRecDepth 100000
set_option linter.unusedSimpArgs false
set_option linter.unusedVariables false
attribute [local congr] vw_congr runV_congr runH_congr runW_congr runX_congr stuckV_congr stuckX_congr

def findF (l : List It3) (q : ByteArray) : Int := idxOf (hasPath q) l 0
def foldF (l : List It3) (q : ByteArray) : Int := if q = ⟨#[]⟩ then 0 else if findF l q < 0 then 2 else if dirAt l (findF l q).toNat = true then 0 else 4
def kidsB (l : List It3) (q : ByteArray) : Bool := l.any fun x => !decide (x.1 = q) && underB x.1 q
def makeL (l : List It3) (o : OpV) : List It3 × Int :=
  if o.path = ⟨#[]⟩ ∨ 0 ≤ findF l o.path then (l, 3)
  else if ¬ foldF l (splitF o.path).1 = 0 then (l, foldF l (splitF o.path).1)
  else if l.length = 11 then (l, 5)
  else (l ++ [(o.path, decide (o.kind = 2), ⟨#[]⟩)], 0)
def dropL (l : List It3) (o : OpV) : List It3 × Int :=
  if o.path = ⟨#[]⟩ ∨ kidsB l o.path = true then (l, 6) else (l.filter (fun x => !decide (x.1 = o.path)), 0)
def movedP (o : OpV) (p : ByteArray) : ByteArray := if underB p o.path = true then o.to ++ p.extract o.path.size p.size else p
def moveG (l : List It3) (o : OpV) : List It3 → List It3 → List It3 × Int
  | [], acc => (acc, 0)
  | x :: r, acc => if pathOk (movedP o x.1) = true then moveG l o r (acc ++ [(movedP o x.1, x.2)]) else (l, 5)
def moveL (l : List It3) (o : OpV) : List It3 × Int :=
  if o.path = ⟨#[]⟩ ∨ underB o.to o.path = true then (l, 6)
  else if o.to = ⟨#[]⟩ ∨ 0 ≤ findF l o.to then (l, 3)
  else if ¬ foldF l (splitF o.to).1 = 0 then (l, foldF l (splitF o.to).1)
  else moveG l o l []
/-- The folder's names, put one behind the other, each with its item's number. -/
def nodeG (p : ByteArray) : List It3 → Nat → NodeV → NodeV
  | [], _, n => n
  | x :: r, i, n => nodeG p r (i + 1) (if (splitF x.1).1 = p then kidPutF n (splitF x.1).2.1 (i : Int) else n)
def textG (l : List It3) : List ByteArray → List Int → Bool → ByteArray → ByteArray
  | a :: xs, b :: ys, more, acc => textG l xs ys true (if dirAt l b.toNat = true then (if more = true then acc ++ ⟨#[32]⟩ else acc) ++ a ++ ⟨#[47]⟩ else (if more = true then acc ++ ⟨#[32]⟩ else acc) ++ a)
  | _, _, _, acc => acc
def listL (l : List It3) (p : ByteArray) : ByteArray := textG l (nodeG p l 0 ⟨true, [], [], ⟨#[]⟩⟩).names (nodeG p l 0 ⟨true, [], [], ⟨#[]⟩⟩).kids false ⟨#[]⟩
def dataAt (l : List It3) (i : Nat) : ByteArray := match l[i]? with | some x => x.2.2 | none => ⟨#[]⟩
def putAtL (l : List It3) (i : Nat) (s : ByteArray) : List It3 := match l[i]? with | some x => l.set i (x.1, x.2.1, s) | none => l
abbrev Plain3 := List It3 × Int × ByteArray
def doL (l : List It3) (o : OpV) : Plain3 :=
  if foldF l o.path = 2 then (l, 2, ⟨#[]⟩)
  else if o.kind = 5 then ((dropL l o).1, (dropL l o).2, ⟨#[]⟩)
  else if o.kind = 6 then ((moveL l o).1, (moveL l o).2, ⟨#[]⟩)
  else if ¬ decide (foldF l o.path = 0) = decide (o.kind = 7) then (l, 4, ⟨#[]⟩)
  else if o.kind = 7 then (l, 0, listL l o.path)
  else if o.kind = 4 then (l, 0, dataAt l (findF l o.path).toNat)
  else (putAtL l (findF l o.path).toNat o.data, 0, ⟨#[]⟩)
def plainL (l : List It3) (o : OpV) : Plain3 :=
  if itemsOk l = false ∨ opOk o = false then (l, 1, ⟨#[]⟩)
  else if o.kind = 1 ∨ o.kind = 2 then ((makeL l o).1, (makeL l o).2, ⟨#[]⟩)
  else doL l o
end Go.Proofs.YtoenfbbadfcfpaaGreatDoor
