/- Plain of the reference: a folder's names. Plain of the reference: Plain whole. -/
import Derived.Test.YtoenfbbadfcfpaaGreatDoorPFTree
set_option linter.unusedSimpArgs false
set_option linter.unusedVariables false
namespace Go.Proofs.YtoenfbbadfcfpaaGreatDoor
open Go.VM Go
set_option maxRecDepth 100000
attribute [-go_sem] runW_cons
attribute [local congr] vw_congr runV_congr runH_congr runW_congr runX_congr stuckV_congr stuckX_congr
structure GFit (i : Nat) (n : NodeV) : Prop where
  len : n.names.length = n.kids.length
  few : n.names.length ≤ i
  text : ∀ s ∈ n.names, s.size ≤ 100
  kids : ∀ y ∈ n.kids, 0 ≤ y ∧ y < (i : Int)
theorem putLoop_kid (s : ByteArray) (k : Int) : ∀ (b : Bool) (xs : List ByteArray) (ys : List Int), ∀ y ∈ (putLoop s k b xs ys).2, y ∈ ys ∨ y = k
  | true, xs, ys, x, hx => .inl (by simpa [putLoop] using hx)
  | false, [], ys, x, hx => .inr (by cases ys <;> simpa [putLoop] using hx)
  | false, a :: xs, [], x, hx => .inr (by simpa [putLoop] using hx)
  | false, a :: xs, b :: ys, x, hx => by
    unfold putLoop at hx
    split at hx
    · rcases List.mem_cons.1 hx with h | h
      · exact .inr h
      · exact .inl h
    · rcases List.mem_cons.1 hx with h | h
      · exact .inl (h ▸ List.mem_cons_self)
      · rcases putLoop_kid s k false xs ys x h with h | h
        · exact .inl (List.mem_cons_of_mem _ h)
        · exact .inr h
theorem GFit.up {i : Nat} {n : NodeV} (h : GFit i n) : GFit (i + 1) n := ⟨h.len, by have := h.few; omega, h.text, fun y hy => by have := h.kids y hy; omega⟩
theorem GFit.put {i : Nat} {n : NodeV} (h : GFit i n) (s : ByteArray) (hs : s.size ≤ 100) : GFit (i + 1) (kidPutF n s (i : Int)) := by
  have hl : (kidDropF n s).names.length = (kidDropF n s).kids.length := skipN_len _ _ _ _ h.len
  have h1 := putLoop_len s (i : Int) false _ _ hl
  have h2 : (kidDropF n s).names.length ≤ n.names.length := skipN_le (kidIx n.names n.kids s 0) n.names 0
  refine ⟨h1.2, ?_, fun x hx => ?_, fun y hy => ?_⟩
  · have h3 : (kidPutF n s (i : Int)).names.length ≤ (kidDropF n s).names.length + 1 := h1.1
    have := h.few
    omega
  · rcases putLoop_mem s (i : Int) false _ _ x hx with h3 | h3
    · exact h.text x (skipN_mem _ _ _ x h3)
    · rw [h3]; exact hs
  · rcases putLoop_kid s (i : Int) false _ _ y hy with h3 | h3
    · have := h.kids y (skipN_mem _ _ _ y h3); omega
    · rw [h3]; omega
theorem nodeG_fit (p : ByteArray) : ∀ (r : List It3) (i : Nat) (n : NodeV), (∀ x ∈ r, x.1.size ≤ 100) → GFit i n → GFit (i + r.length) (nodeG p r i n)
  | [], i, n, _, h => h
  | x :: r, i, n, hb, h => by
    rw [nodeG, List.length_cons, show i + (r.length + 1) = i + 1 + r.length from by omega]
    refine nodeG_fit p r (i + 1) _ (fun y hy => hb y (by simp [hy])) ?_
    split
    · exact h.put _ (Nat.le_trans (splitF_size x.1).2 (hb x (by simp)))
    · exact h.up
set_option maxHeartbeats 2000000 in
theorem runs_65 (l : List It3) (hl : l.length ≤ 11) (hb : ∀ x ∈ l, x.1.size ≤ 100) (p : ByteArray) (hp : p.size ≤ 2 ^ 19) (s : ByteArray) (hs : s = listL l p) :
    Runs Tryz.prog 65 [.one (.v (.list false 3 (l.map iRow))), .one (.v (.str p))] [.one (.v (.str s))] [] := by
  refine runs_tab (tab := [(0, .c (.list false 3 (l.map iRow))), (1, .c (.str p))]) (rts := []) (n := 66) (k := 2) Tryz.func65 rfl rfl (by simp) rfl (fun t => ?_) rfl ?_
  · rcases t with _ | _ | t <;> rfl
  unfold listL at hs
  have hgf := nodeG_fit p l 0 ⟨true, [], [], ⟨#[]⟩⟩ hb ⟨rfl, Nat.le_refl _, (fun s h => nomatch h), (fun y h => nomatch h)⟩
  rw [Nat.zero_add] at hgf
  refine vw_go rfl ?_; simp only [go_sem, setCells, setIn]
  refine vw_go rfl ?_; simp only [range1, List.replicate_succ, List.replicate_zero, List.flatten_cons, List.flatten_nil, List.range_zero, gt_iff_lt, go_sem, setCells, setIn]
  refine vw_seq ?_
  refine vw_go rfl ?_; simp only [go_sem, setCells, setIn]
  refine vw_block ?_
  refine vw_loop_tab (α := Nat × NodeV × List Path) (fun x => l.length - x.1) (fun x => ⟨tabE [(0, .c (.list false 3 (l.map iRow))), (1, .c (.str p)), (5, .ptr 2 [] 0 0 0), (6, .c (.int .i64 x.1))],
      tabS [(2, some ⟨true, 4, [[.bool x.2.1.dir, .list true 1 (x.2.1.names.map sRow), .list true 1 (x.2.1.kids.map nRow), .str x.2.1.data]], x.2.2⟩)], 3⟩)
    (fun x => x.1 ≤ l.length ∧ nodeG p (l.drop x.1) x.1 x.2.1 = nodeG p l 0 ⟨true, [], [], ⟨#[]⟩⟩ ∧ GFit x.1 x.2.1) (x := (0, ⟨true, [], [], ⟨#[]⟩⟩, [[(0, 1)], [(0, 2)]])) ?round ?h0 ?hn
  case h0 => exact ⟨Nat.zero_le _, rfl, ⟨rfl, Nat.le_refl _, (fun s h => nomatch h), (fun y h => nomatch h)⟩⟩
  case hn =>
    refine norm_to [(66562, 2)] rfl ?_ ?_ <;> simp only [go_sem]
  rintro ⟨i, n, lg⟩ ⟨hi, hg, hf⟩
  simp only at hi hg hf
  have bn : List.take n.names.length (n.names.map sRow) = n.names.map sRow := List.take_of_length_le (by simp)
  have bk : List.take n.kids.length (n.kids.map nRow) = n.kids.map nRow := List.take_of_length_le (by simp)
  refine vw_seq ?_
  by_cases hc : (i : Int) < l.length
  · have hin : i < l.length := by omega
    obtain ⟨x, hx⟩ : ∃ x, l[i]? = some x := ⟨_, List.getElem?_eq_getElem hin⟩
    rw [drop_of hx, nodeG] at hg
    have hxs := hb x (List.mem_of_getElem? hx)
    have d0 : (0:Int) ≤ (i : Int) := by omega
    have w3 : IntKind.wrap .i64 ((i:Int) + 1) = ((i + 1 : Nat) : Int) := by rw [wrap_i64 (by omega) (by omega)]; rfl
    have rS := runs_57 x.1 (by omega)
    have hss := splitF_size x.1
    generalize splitF x.1 = sp at rS hg hss
    obtain ⟨up, nm, ok⟩ := sp
    simp only at rS hg hss
    refine vw_go rfl ?_; simp only [hc, go_sem, setCells, setIn]
    refine vw_cond (t := true) rfl (fun _ => ?_) (fun h => nomatch h)
    refine vw_skip (n_then ?_)
    refine vw_seq ?_
    refine vw_block ?_
    refine vw_go rfl ?_; simp only [d0, hc, hin, Int.toNat_natCast, getD_map_of hx, iRow, go_sem, setCells, setIn]
    refine ⟨_, _, call_rx [0] Tryz.func57 (rS) rfl rfl rfl rfl rfl rfl rfl (by simp [lendAll, lendC, seek, fresh, nav, rcells, RT.cells, VV.cells, tabE_cons, tabS_cons, ev, take_map_len, iRow_r1, iRow_clean, sRow_r1, sRow_comp, sRow_clean, nRow_r1, nRow_comp, nRow_clean]) rfl (by simp [rcells, RT.cells, CT.clean, T.clean, iRow_r1, iRow_clean, sRow_r1, sRow_comp, sRow_clean, nRow_r1, nRow_comp, nRow_clean]) rfl rfl, ?_⟩
    simp only [runH, runX, go_sem, setCells, setIn]
    by_cases he : up = p
    · rw [if_pos he] at hg
      have he' : decide (up = p) = true := by simp [he]
      have hf2 := hf.put nm (by omega)
      have rK := runs_91 n hf.len (by have := hf.few; omega) nm (i : Int) _ rfl
      generalize kidPutF n nm (i : Int) = m at rK hg hf2
      have bm : List.take m.names.length (m.names.map sRow) = m.names.map sRow := List.take_of_length_le (by simp)
      have bm2 : List.take m.kids.length (m.kids.map nRow) = m.kids.map nRow := List.take_of_length_le (by simp)
      refine vw_go rfl ?_; simp only [he', go_sem, setCells, setIn]
      refine vw_cond (t := true) rfl (fun _ => ?_) (fun h => nomatch h)
      refine vw_last rfl ?_; simp only [bn, bk, List.drop_length, go_sem, setCells, setIn]
      refine ⟨_, _, call_rx [0, 0, 0] Tryz.func91 (rK) rfl rfl rfl rfl rfl rfl rfl (by simp [lendAll, lendC, seek, fresh, nav, rcells, RT.cells, VV.cells, tabE_cons, tabS_cons, ev, take_map_len, iRow_r1, iRow_clean, sRow_r1, sRow_comp, sRow_clean, nRow_r1, nRow_comp, nRow_clean, bn, bk]) rfl (by simp [rcells, RT.cells, CT.clean, T.clean, iRow_r1, iRow_clean, sRow_r1, sRow_comp, sRow_clean, nRow_r1, nRow_comp, nRow_clean, bn, bk]) rfl rfl, ?_⟩
      simp only [runH, runX, bm, bm2, List.drop_length, go_sem, setCells, setIn]
      refine (n_block (n_then ?_))
      refine vw_last rfl ?_; simp only [w3, go_sem, setCells, setIn]
      refine (n_then ?_)
      refine ⟨(i + 1, m, lg ++ [[(0, 1)], [(0, 2)]]), by simp only; omega, ⟨by simp only; omega, hg, hf2⟩, ?_⟩
      refine norm_to [(2, 2)] rfl ?_ ?_ <;> simp only [go_sem]
    · rw [if_neg he] at hg
      have he' : decide (up = p) = false := by simp [he]
      refine vw_go rfl ?_; simp only [he', go_sem, setCells, setIn]
      refine vw_cond (t := false) rfl (fun h => nomatch h) (fun _ => ?_)
      refine vw_skip (n_block (n_then ?_))
      refine vw_last rfl ?_; simp only [w3, go_sem, setCells, setIn]
      refine (n_then ?_)
      refine ⟨(i + 1, n, lg), by simp only; omega, ⟨by simp only; omega, hg, hf.up⟩, ?_⟩
      refine norm_to [(2, 2)] rfl ?_ ?_ <;> simp only [go_sem]
  rw [List.drop_eq_nil_of_le (by omega), nodeG] at hg
  rw [← hg] at hs hgf
  clear hg hf
  refine vw_go rfl ?_; simp only [hc, go_sem, setCells, setIn]
  refine vw_cond (t := false) rfl (fun h => nomatch h) (fun _ => ?_)
  refine vw_exit (x_then (x_then (x_block (n_then ?_))))
  clear hc hi
  refine vw_go rfl ?_; simp only [go_sem, setCells, setIn]
  refine vw_seq ?_
  refine vw_go rfl ?_; simp only [go_sem, setCells, setIn]
  refine vw_block ?_
  refine vw_loop_tab (α := Nat × ByteArray) (fun x => n.names.length - x.1) (fun x => ⟨tabE [(0, .c (.list false 3 (l.map iRow))), (5, .ptr 2 [] 0 0 0), (10, .c (.str x.2)), (11, .c (.int .i64 x.1))], tabS [(2, some ⟨true, 4, [[.bool n.dir, .list true 1 (n.names.map sRow), .list true 1 (n.kids.map nRow), .str n.data]], lg⟩)], 3⟩)
    (fun x => x.1 ≤ n.names.length ∧ textG l (n.names.drop x.1) (n.kids.drop x.1) (decide (0 < x.1)) x.2 = textG l n.names n.kids false ⟨#[]⟩ ∧ x.2.size ≤ 102 * x.1) (x := (0, ⟨#[]⟩)) ?round2 ?h02 ?hn2
  case h02 => exact ⟨Nat.zero_le _, rfl, Nat.le_refl _⟩
  case hn2 =>
    refine norm_to [(2, 2)] rfl ?_ ?_ <;> simp only [go_sem]
  rintro ⟨i, acc⟩ ⟨hi, hg, hq⟩
  simp only at hi hg hq
  have hfew := hgf.few
  refine vw_seq ?_
  by_cases hc : (i : Int) < n.names.length
  case neg =>
    rw [List.drop_eq_nil_of_le (by omega), List.drop_eq_nil_of_le (by have := hgf.len; omega), textG] at hg
    · rw [← hg] at hs
      subst hs
      refine vw_go rfl ?_; simp only [hc, bn, go_sem, setCells, setIn]
      refine vw_cond (t := false) rfl (fun h => nomatch h) (fun _ => ?_)
      refine vw_exit (x_then (x_then (x_block (n_then ?_))))
      refine vw_go rfl ?_; simp only [go_sem, setCells, setIn]
      exact vw_ret (e_ret (ret_of rfl rfl (by simp [RB]) rfl rfl))
    · intro a xs b ys h; cases h
  have hin : i < n.names.length := by omega
  have hik : i < n.kids.length := by have := hgf.len; omega
  have d1 : (i : Int) < n.kids.length := by omega
  obtain ⟨a, ha⟩ : ∃ u, n.names[i]? = some u := ⟨_, List.getElem?_eq_getElem hin⟩
  obtain ⟨y, hy⟩ : ∃ y, n.kids[i]? = some y := ⟨_, List.getElem?_eq_getElem hik⟩
  have has := hgf.text a (List.mem_of_getElem? ha)
  have hyr := hgf.kids y (List.mem_of_getElem? hy)
  obtain ⟨z, rfl⟩ : ∃ z : Nat, y = z := ⟨y.toNat, by omega⟩
  obtain ⟨t, ht⟩ : ∃ s, l[z]? = some s := ⟨_, List.getElem?_eq_getElem (by omega)⟩
  have hdt : dirAt l ((z : Int)).toNat = t.2.1 := by rw [Int.toNat_natCast, dirAt, ht]
  rw [drop_of ha, drop_of hy, textG, hdt] at hg
  have d0 : (0:Int) ≤ (i : Int) := by omega
  have z0 : (0:Int) ≤ (z : Int) := by omega
  have z1 : (z : Int) < l.length := by omega
  have z2 : z < l.length := by omega
  have w3 : IntKind.wrap .i64 ((i:Int) + 1) = ((i + 1 : Nat) : Int) := by rw [wrap_i64 (by omega) (by omega)]; rfl
  have s1 : (⟨#[32]⟩ : ByteArray).size = 1 := rfl
  have s2 : (⟨#[47]⟩ : ByteArray).size = 1 := rfl
  have t1 : Array.size #[(32 : UInt8)] = 1 := rfl
  have t2 : Array.size #[(47 : UInt8)] = 1 := rfl
  have hdir : ∀ b, t.2.1 = b → True := fun _ _ => trivial
  refine vw_go rfl ?_; simp only [hc, bn, go_sem, setCells, setIn]
  refine vw_cond (t := true) rfl (fun _ => ?_) (fun h => nomatch h)
  refine vw_skip (n_then ?_)
  refine vw_seq ?_
  refine vw_block ?_
  refine vw_seq ?_
  by_cases hp : (0:Int) < i
  case neg =>
    have hp' : decide (0 < i) = false := decide_eq_false (by omega)
    simp only [hp', Bool.false_eq_true, if_false] at hg
    have za : acc.size + a.size < 2 ^ 60 := by omega
    have zb : acc.size + a.size + Array.size #[(47 : UInt8)] < 2 ^ 60 := by omega
    have hnx : decide (0 < i + 1) = true := decide_eq_true (by omega)
    rw [← hnx] at hg
    refine vw_go rfl ?_; simp only [hp, go_sem, setCells, setIn]
    refine vw_cond (t := false) rfl (fun h => nomatch h) (fun _ => ?_)
    refine vw_skip (n_then ?_)
    refine vw_go rfl ?_; simp only [d0, hc, hin, Int.toNat_natCast, getD_map_of ha, sRow, bn, bk, za, List.drop_length, go_sem, setCells, setIn]
    refine vw_go rfl ?_; simp only [d0, d1, hik, z0, z1, z2, Int.toNat_natCast, getD_map_of hy, nRow, getD_map_of ht, iRow, bn, bk, List.drop_length, go_sem, setCells, setIn]
    cases hd : t.2.1
    · simp only [hd, Bool.false_eq_true, if_false] at hg
      refine vw_cond (t := false) rfl (fun h => nomatch h) (fun _ => ?_)
      refine vw_skip (n_block (n_then ?_))
      refine vw_last rfl ?_; simp only [w3, go_sem, setCells, setIn]
      refine (n_then ?_)
      refine ⟨(i + 1, acc ++ a), by simp only; omega, ⟨by simp only; omega, hg, by simp only [add_size]; omega⟩, ?_⟩
      refine norm_to [(2, 2)] rfl ?_ ?_ <;> simp only [go_sem]
    simp only [hd, if_true] at hg
    refine vw_cond (t := true) rfl (fun _ => ?_) (fun h => nomatch h)
    refine vw_last rfl ?_; simp only [zb, go_sem, setCells, setIn]
    refine (n_block (n_then ?_))
    refine vw_last rfl ?_; simp only [w3, go_sem, setCells, setIn]
    refine (n_then ?_)
    refine ⟨(i + 1, acc ++ a ++ ⟨#[47]⟩), by simp only; omega, ⟨by simp only; omega, hg, by simp only [add_size]; omega⟩, ?_⟩
    refine norm_to [(2, 2)] rfl ?_ ?_ <;> simp only [go_sem]
  have hp' : decide (0 < i) = true := decide_eq_true (by omega)
  simp only [hp', if_true] at hg
  have zz0 : acc.size + Array.size #[(32 : UInt8)] < 2 ^ 60 := by omega
  have za : acc.size + Array.size #[(32 : UInt8)] + a.size < 2 ^ 60 := by omega
  have zb : acc.size + Array.size #[(32 : UInt8)] + a.size + Array.size #[(47 : UInt8)] < 2 ^ 60 := by omega
  have hnx : decide (0 < i + 1) = true := decide_eq_true (by omega)
  rw [← hnx] at hg
  refine vw_go rfl ?_; simp only [hp, go_sem, setCells, setIn]
  refine vw_cond (t := true) rfl (fun _ => ?_) (fun h => nomatch h)
  refine vw_last rfl ?_; simp only [zz0, go_sem, setCells, setIn]
  refine (n_then ?_)
  refine vw_go rfl ?_; simp only [d0, hc, hin, Int.toNat_natCast, getD_map_of ha, sRow, bn, bk, za, List.drop_length, go_sem, setCells, setIn]
  refine vw_go rfl ?_; simp only [d0, d1, hik, z0, z1, z2, Int.toNat_natCast, getD_map_of hy, nRow, getD_map_of ht, iRow, bn, bk, List.drop_length, go_sem, setCells, setIn]
  cases hd : t.2.1
  · simp only [hd, Bool.false_eq_true, if_false] at hg
    refine vw_cond (t := false) rfl (fun h => nomatch h) (fun _ => ?_)
    refine vw_skip (n_block (n_then ?_))
    refine vw_last rfl ?_; simp only [w3, go_sem, setCells, setIn]
    refine (n_then ?_)
    refine ⟨(i + 1, (acc ++ ⟨#[32]⟩) ++ a), by simp only; omega, ⟨by simp only; omega, hg, by simp only [add_size]; omega⟩, ?_⟩
    refine norm_to [(2, 2)] rfl ?_ ?_ <;> simp only [go_sem]
  simp only [hd, if_true] at hg
  refine vw_cond (t := true) rfl (fun _ => ?_) (fun h => nomatch h)
  refine vw_last rfl ?_; simp only [zb, go_sem, setCells, setIn]
  refine (n_block (n_then ?_))
  refine vw_last rfl ?_; simp only [w3, go_sem, setCells, setIn]
  refine (n_then ?_)
  refine ⟨(i + 1, (acc ++ ⟨#[32]⟩) ++ a ++ ⟨#[47]⟩), by simp only; omega, ⟨by simp only; omega, hg, by simp only [add_size]; omega⟩, ?_⟩
  refine norm_to [(2, 2)] rfl ?_ ?_ <;> simp only [go_sem]
end Go.Proofs.YtoenfbbadfcfpaaGreatDoor
namespace Go.Proofs.YtoenfbbadfcfpaaGreatDoor
open Go.VM Go
set_option maxRecDepth 100000
attribute [-go_sem] runW_cons
attribute [local congr] vw_congr runV_congr runH_congr runW_congr runX_congr stuckV_congr stuckX_congr
theorem foldF_cases (l : List It3) (q : ByteArray) : foldF l q = 0 ∨ foldF l q = 2 ∨ (foldF l q = 4 ∧ ∃ (j : Nat) (x : It3), findF l q = (j : Int) ∧ l[j]? = some x) := by
  unfold foldF
  split
  · exact .inl rfl
  · split
    · exact .inr (.inl rfl)
    · rename_i h1 h2
      split
      · exact .inl rfl
      · refine .inr (.inr ⟨rfl, ?_⟩)
        rcases idxOf_at (hasPath q) l 0 with e | ⟨j, x, e, hx⟩
        · exact absurd (show findF l q < 0 from by unfold findF; rw [e]; decide) h2
        · exact ⟨j, x, by unfold findF; rw [e, Nat.zero_add], hx⟩
set_option maxHeartbeats 2000000 in
theorem runs_32 (l : List It3) (hl : l.length ≤ 11) (hb : ∀ x ∈ l, x.1.size ≤ 100) (o : OpV) (hp : o.path.size ≤ 2 ^ 19) (ht : o.kind = 6 → o.to.size ≤ 2 ^ 19) (R : Plain3) (hR : R = doL l o) :
    Runs Tryz.prog 32 [.one (.v (.list true 3 (l.map iRow))), .agg [.v (.int .i64 o.kind), .v (.str o.path), .v (.str o.to), .v (.str o.data)]] [.one (.v (.list true 3 (R.1.map iRow))), .one (.v (.int .i64 R.2.1)), .one (.v (.str R.2.2))] [] := by
  refine runs_tab (tab := [(0, .al 0 [] 0 3 0 l.length), (1, .agg [.c (.int .i64 o.kind), .c (.str o.path), .c (.str o.to), .c (.str o.data)])]) (rts := [(0, some ⟨false, 3, l.map iRow, []⟩)]) (n := 86) (k := 5) Tryz.func32 rfl rfl (by simp) rfl (fun t => ?_) rfl ?_
  · rcases t with _ | _ | t <;> simp [envOf, rvv, RT.vv, CT.vv, cvv, tabE_cons, tabE_nil, rcells, RT.cells]
  unfold doL at hR
  have bl : List.take l.length (l.map iRow) = l.map iRow := List.take_of_length_le (by simp)
  have rD := runs_folder l o.path (by omega)
  have rF := runs_28 l o.path (by omega)
  change Runs _ _ _ [.one (.v (.int .i64 (findF l o.path)))] _ at rF
  have hfc := foldF_cases l o.path
  have rDr := runs_63 l hl (fun x hx => Nat.le_trans (hb x hx) (by decide)) o (by omega) _ rfl
  have rMv := fun h6 => runs_64 l hl (fun x hx => Nat.le_trans (hb x hx) (by decide)) o hp (ht h6) _ rfl
  have rNm := runs_65 l hl hb o.path hp _ rfl
  generalize foldF l o.path = fo at rD hR hfc
  generalize findF l o.path = fi at rF hR hfc
  generalize dropL l o = dr at rDr hR
  generalize moveL l o = mv at rMv hR
  generalize listL l o.path = nm at rNm hR
  have bd : List.take dr.1.length (dr.1.map iRow) = dr.1.map iRow := List.take_of_length_le (by simp)
  have bm : List.take mv.1.length (mv.1.map iRow) = mv.1.map iRow := List.take_of_length_le (by simp)
  refine vw_go rfl ?_; simp only [go_sem, setCells, setIn]
  refine vw_go rfl ?_; simp only [bl, go_sem, setCells, setIn]
  refine ⟨_, _, call_rx [0, 0] Tryz.func58 (rD) rfl rfl rfl rfl rfl rfl rfl (by simp [lendAll, lendC, seek, fresh, nav, rcells, RT.cells, VV.cells, tabE_cons, tabS_cons, ev, take_map_len, iRow_r1, iRow_clean, bl]) rfl (by simp [rcells, RT.cells, CT.clean, T.clean, iRow_r1, iRow_clean, bl]) rfl rfl, ?_⟩
  simp only [runH, runX, bl, go_sem, setCells, setIn]
  refine vw_seq ?_
  refine vw_block ?_
  by_cases h2 : fo = 2
  · rw [if_pos h2] at hR
    subst hR
    refine vw_go rfl ?_; simp only [h2, bl, go_sem, setCells, setIn]
    refine vw_cond (t := true) rfl (fun _ => ?_) (fun h => nomatch h)
    refine vw_go rfl ?_; simp only [go_sem, setCells, setIn]
    exact vw_ret (r_block (r_then (e_ret (ret_by rfl rfl (by simp [RB]) rfl (by simp only [takeCs, takeC, go_sem, setCells, setIn])))))
  rw [if_neg h2] at hR
  refine vw_go rfl ?_; simp only [h2, go_sem, setCells, setIn]
  refine vw_cond (t := false) rfl (fun h => nomatch h) (fun _ => ?_)
  by_cases k5 : o.kind = 5
  · rw [if_pos k5] at hR
    subst hR
    refine vw_go rfl ?_; simp only [k5, go_sem, setCells, setIn]
    refine vw_cond (t := true) rfl (fun _ => ?_) (fun h => nomatch h)
    rw [← k5]
    refine vw_go rfl ?_; simp only [bl, List.drop_length, go_sem, setCells, setIn]
    refine ⟨_, _, call_own [0, 0] [(0, none)] Tryz.func63 (rDr) rfl rfl rfl rfl rfl rfl rfl (by simp [takeCs, takeC, takeV, seek, fresh, nav, takenUp, rcells, RT.cells, VV.cells, tabE_cons, tabS_cons, ups_tab, ups_nil, ev, take_map_len, bl, iRow_r1, iRow_clean, List.drop_length]) rfl (by simp [rcells, RT.cells, CT.clean, T.clean, bl, iRow_r1, iRow_clean, List.drop_length]) rfl rfl, ?_⟩
    simp only [runH, runX, bd, go_sem, setCells, setIn]
    refine vw_go rfl ?_; simp only [bd, go_sem, setCells, setIn]
    exact vw_ret (r_block (r_then (e_ret (ret_by rfl rfl (by simp [RB]) rfl (by simp only [takeCs, takeC, go_sem, setCells, setIn])))))
  rw [if_neg k5] at hR
  refine vw_go rfl ?_; simp only [k5, go_sem, setCells, setIn]
  refine vw_cond (t := false) rfl (fun h => nomatch h) (fun _ => ?_)
  by_cases k6 : o.kind = 6
  · rw [if_pos k6] at hR
    subst hR
    have rMv := rMv k6
    refine vw_go rfl ?_; simp only [k6, go_sem, setCells, setIn]
    refine vw_cond (t := true) rfl (fun _ => ?_) (fun h => nomatch h)
    rw [← k6]
    refine vw_go rfl ?_; simp only [bl, List.drop_length, go_sem, setCells, setIn]
    refine ⟨_, _, call_own [0, 0] [(0, none)] Tryz.func64 (rMv) rfl rfl rfl rfl rfl rfl rfl (by simp [takeCs, takeC, takeV, seek, fresh, nav, takenUp, rcells, RT.cells, VV.cells, tabE_cons, tabS_cons, ups_tab, ups_nil, ev, take_map_len, bl, iRow_r1, iRow_clean, List.drop_length]) rfl (by simp [rcells, RT.cells, CT.clean, T.clean, bl, iRow_r1, iRow_clean, List.drop_length]) rfl rfl, ?_⟩
    simp only [runH, runX, bm, go_sem, setCells, setIn]
    refine vw_go rfl ?_; simp only [bm, go_sem, setCells, setIn]
    exact vw_ret (r_block (r_then (e_ret (ret_by rfl rfl (by simp [RB]) rfl (by simp only [takeCs, takeC, go_sem, setCells, setIn])))))
  rw [if_neg k6] at hR
  refine vw_go rfl ?_; simp only [k6, go_sem, setCells, setIn]
  refine vw_cond (t := false) rfl (fun h => nomatch h) (fun _ => ?_)
  by_cases k7 : decide (fo = 0) = decide (o.kind = 7)
  case neg =>
    rw [if_pos k7] at hR
    subst hR
    have k7' : (decide (fo = 0) == decide (o.kind = 7)) = false := by simpa using k7
    refine vw_go rfl ?_; simp only [k7', bl, go_sem, setCells, setIn]
    refine vw_cond (t := true) rfl (fun _ => ?_) (fun h => nomatch h)
    refine vw_go rfl ?_; simp only [go_sem, setCells, setIn]
    exact vw_ret (r_block (r_then (e_ret (ret_by rfl rfl (by simp [RB]) rfl (by simp only [takeCs, takeC, go_sem, setCells, setIn])))))
  rw [if_neg (fun h => h k7)] at hR
  have k7' : (decide (fo = 0) == decide (o.kind = 7)) = true := by simpa using k7
  refine vw_go rfl ?_; simp only [k7', go_sem, setCells, setIn]
  refine vw_cond (t := false) rfl (fun h => nomatch h) (fun _ => ?_)
  by_cases k8 : o.kind = 7
  · rw [if_pos k8] at hR
    subst hR
    refine vw_go rfl ?_; simp only [k8, go_sem, setCells, setIn]
    refine vw_cond (t := true) rfl (fun _ => ?_) (fun h => nomatch h)
    rw [← k8]
    refine vw_go rfl ?_; simp only [bl, go_sem, setCells, setIn]
    refine ⟨_, _, call_rx [0, 0] Tryz.func65 (rNm) rfl rfl rfl rfl rfl rfl rfl (by simp [lendAll, lendC, seek, fresh, nav, rcells, RT.cells, VV.cells, tabE_cons, tabS_cons, ev, take_map_len, iRow_r1, iRow_clean, bl]) rfl (by simp [rcells, RT.cells, CT.clean, T.clean, iRow_r1, iRow_clean, bl]) rfl rfl, ?_⟩
    simp only [runH, runX, bl, go_sem, setCells, setIn]
    exact vw_ret (r_block (r_then (e_ret (ret_by rfl rfl (by simp [RB]) rfl (by simp only [takeCs, takeC, go_sem, setCells, setIn])))))
  rw [if_neg k8] at hR
  have hfo : ¬ fo = 0 := fun e => by rw [decide_eq_true e, decide_eq_false k8] at k7; cases k7
  obtain ⟨j, x, rfl, hx⟩ : ∃ (j : Nat) (x : It3), fi = (j : Int) ∧ l[j]? = some x := by
    rcases hfc with h | h | ⟨_, h⟩
    · exact absurd h hfo
    · exact absurd h h2
    · exact h
  have hj := lt_of_getl hx
  have d0 : (0:Int) ≤ (j : Int) := by omega
  have d1 : (j : Int) < l.length := by omega
  rw [Int.toNat_natCast] at hR
  refine vw_go rfl ?_; simp only [k8, go_sem, setCells, setIn]
  refine vw_cond (t := false) rfl (fun h => nomatch h) (fun _ => ?_)
  refine vw_skip (n_block (n_then ?_))
  refine vw_go rfl ?_; simp only [bl, go_sem, setCells, setIn]
  refine ⟨_, _, call_rx [0, 0] Tryz.func28 (rF) rfl rfl rfl rfl rfl rfl rfl (by simp [lendAll, lendC, seek, fresh, nav, rcells, RT.cells, VV.cells, tabE_cons, tabS_cons, ev, take_map_len, iRow_r1, iRow_clean, bl]) rfl (by simp [rcells, RT.cells, CT.clean, T.clean, iRow_r1, iRow_clean, bl]) rfl rfl, ?_⟩
  simp only [runH, runX, bl, go_sem, setCells, setIn]
  refine vw_seq ?_
  by_cases k9 : o.kind = 4
  · rw [if_pos k9] at hR
    have hdx : dataAt l j = x.2.2 := by unfold dataAt; rw [hx]
    rw [hdx] at hR
    subst hR
    refine vw_go rfl ?_; simp only [k9, go_sem, setCells, setIn]
    refine vw_cond (t := true) rfl (fun _ => ?_) (fun h => nomatch h)
    rw [← k9]
    refine vw_drawA mixed rfl rfl ?_; intro A hAA
    simp (maxSteps := 1000000) only [bl, d0, d1, hj, Int.toNat_natCast, getD_map_of hx, iRow, go_sem, setCells, setIn, runW_step]
    refine ⟨by subst hAA; unfold allOk; kernel_rfl, ?_⟩
    exact vw_ret (r_then (e_ret (ret_by rfl rfl (by simp [RB]) rfl (by simp only [takeCs, takeC, go_sem, setCells, setIn]))))
  rw [if_neg k9] at hR
  have hpx : putAtL l j o.data = l.set j (x.1, x.2.1, o.data) := by unfold putAtL; rw [hx]
  rw [hpx] at hR
  subst hR
  have B0 : ¬ (l.length + 1) * (40 + 1) > bigRow := big41 (by omega)
  have e5 : (l.map iRow).set j [T.str x.1, T.bool x.2.1, T.str o.data] = (l.set j (x.1, x.2.1, o.data)).map iRow := by rw [List.map_set]; rfl
  have e6 : List.take l.length ((l.set j (x.1, x.2.1, o.data)).map iRow) = (l.set j (x.1, x.2.1, o.data)).map iRow := List.take_of_length_le (by simp)
  have e7 : l.length ≤ (l.set j (x.1, x.2.1, o.data)).length := by simp
  refine vw_go rfl ?_; simp only [k9, go_sem, setCells, setIn]
  refine vw_cond (t := false) rfl (fun h => nomatch h) (fun _ => ?_)
  refine vw_skip (n_then ?_)
  refine vw_go rfl ?_; simp only [B0, bl, iRow_plain, List.drop_length, range1, List.replicate_succ, List.replicate_zero, List.flatten_cons, List.flatten_nil, List.range_zero, gt_iff_lt, go_sem, setCells, setIn]
  refine vw_go rfl ?_; simp only [bl, d0, d1, hj, Int.toNat_natCast, getD_map_of hx, iRow, e5, go_sem, setCells, setIn]
  refine vw_go rfl ?_; simp only [go_sem, setCells, setIn]
  exact vw_ret (e_ret (ret_by rfl rfl (by simp [RB]) rfl (by simp only [takeCs, takeC, e6, e7, List.drop_zero, go_sem, setCells, setIn])))
theorem big41b {x : Nat} (h : x ≤ 2 ^ 22) : ¬ x * (40 + 1) > bigRow := by
  have h1 : x * (40 + 1) ≤ 2 ^ 22 * 41 := Nat.mul_le_mul_right _ h
  have h2 : 2 ^ 22 * 41 ≤ bigRow := by decide
  exact Nat.not_lt.2 (Nat.le_trans h1 h2)
theorem itemsOk_small {l : List It3} (h : itemsOk l = true) : l.length ≤ 11 ∧ ∀ x ∈ l, x.1.size ≤ 100 := by
  obtain ⟨h1, h2⟩ := itemsOk_at h
  refine ⟨h1, fun x hx => ?_⟩
  obtain ⟨j, hj⟩ := List.getElem?_of_mem hx
  exact pathOk_size (splitF_ok (h2 j x hj).1).1
theorem opOk_small {o : OpV} (h : opOk o = true) : o.path.size ≤ 100 ∧ (o.kind = 6 → o.to.size ≤ 100) ∧ o.data.size ≤ 60 ∧ 1 ≤ o.kind ∧ o.kind ≤ 7 := by
  unfold opOk at h
  simp only [Bool.and_eq_true, Bool.or_eq_true, decide_eq_true_eq, inB] at h
  obtain ⟨h1, h2, h3, h4⟩ := h
  refine ⟨pathOk_size h2, fun h6 => ?_, by omega, h1.1, h1.2⟩
  rcases h4 with h4 | h4
  · exact absurd h6 h4
  · exact pathOk_size h4
set_option maxHeartbeats 2000000 in
theorem runs_8 (l : List It3) (hl : l.length ≤ 2 ^ 20) (hb : ∀ x ∈ l, x.1.size ≤ 2 ^ 20) (o : OpV) (hp : o.path.size ≤ 2 ^ 20) (ht : o.to.size ≤ 2 ^ 20) (R : Plain3) (hR : R = plainL l o) :
    Runs Tryz.prog 8 [.one (.v (.list false 3 (l.map iRow))), .agg [.v (.int .i64 o.kind), .v (.str o.path), .v (.str o.to), .v (.str o.data)]] [.one (.v (.list true 3 (R.1.map iRow))), .one (.v (.int .i64 R.2.1)), .one (.v (.str R.2.2))] [] := by
  refine runs_tab (tab := [(0, .c (.list false 3 (l.map iRow))), (1, .agg [.c (.int .i64 o.kind), .c (.str o.path), .c (.str o.to), .c (.str o.data)])]) (rts := []) (n := 51) (k := 5) Tryz.func8 rfl rfl (by simp) rfl (fun t => ?_) rfl ?_
  · rcases t with _ | _ | t <;> rfl
  unfold plainL at hR
  have bl : List.take l.length (l.map iRow) = l.map iRow := List.take_of_length_le (by simp)
  have B0 : ¬ (l.length + 1) * (40 + 1) > bigRow := big41b (by omega)
  have rI := runs_26 l hb (by omega)
  have rO := runs_30 o hp ht
  refine vw_go rfl ?_; simp only [go_sem, setCells, setIn]
  refine vw_go rfl ?_; simp only [B0, bl, iRow_plain, List.drop_length, range1, List.replicate_succ, List.replicate_zero, List.flatten_cons, List.flatten_nil, List.range_zero, gt_iff_lt, go_sem, setCells, setIn]
  refine vw_seq ?_
  refine vw_go rfl ?_; simp only [bl, go_sem, setCells, setIn]
  refine ⟨_, _, call_rx [0] Tryz.func26 (rI) rfl rfl rfl rfl rfl rfl rfl (by simp [lendAll, lendC, seek, fresh, nav, rcells, RT.cells, VV.cells, tabE_cons, tabS_cons, ev, take_map_len, iRow_r1, iRow_clean]) rfl (by simp [rcells, RT.cells, CT.clean, T.clean, iRow_r1, iRow_clean]) rfl rfl, ?_⟩
  cases hv : itemsOk l
  · rw [if_pos (.inl hv)] at hR
    subst hR
    (unfold runH; simp (maxSteps := 1000000) only [bl, hv, go_sem, setCells, setIn])
    refine vw_cond (t := true) rfl (fun _ => ?_) (fun h => nomatch h)
    refine vw_go rfl ?_; simp only [bl, go_sem, setCells, setIn]
    exact vw_ret (r_then (e_ret (ret_by rfl rfl (by simp [RB]) rfl (by simp only [takeCs, takeC, go_sem, setCells, setIn]))))
  obtain ⟨h11, h100⟩ := itemsOk_small hv
  (unfold runH; simp (maxSteps := 1000000) only [bl, hv, go_sem, setCells, setIn])
  refine ⟨_, _, call_rx [0] Tryz.func30 (rO) rfl rfl rfl rfl rfl rfl rfl (by simp [lendAll, lendC, seek, fresh, nav, rcells, RT.cells, VV.cells, tabE_cons, tabS_cons, ev, take_map_len, iRow_r1, iRow_clean]) rfl (by simp [rcells, RT.cells, CT.clean, T.clean, iRow_r1, iRow_clean]) rfl rfl, ?_⟩
  cases ho : opOk o
  · rw [if_pos (.inr ho)] at hR
    subst hR
    simp only [runH, runX, bl, ho, go_sem, setCells, setIn]
    refine vw_cond (t := true) rfl (fun _ => ?_) (fun h => nomatch h)
    refine vw_go rfl ?_; simp only [bl, go_sem, setCells, setIn]
    exact vw_ret (r_then (e_ret (ret_by rfl rfl (by simp [RB]) rfl (by simp only [takeCs, takeC, go_sem, setCells, setIn]))))
  rw [if_neg (by rw [hv, ho]; rintro (h | h) <;> cases h)] at hR
  obtain ⟨o1, o2, o3, o4, o5⟩ := opOk_small ho
  have rN := runs_31 l h11 o (by omega) _ rfl
  have rD := runs_32 l h11 h100 o (by omega) (fun h => by have := o2 h; omega) _ rfl
  generalize makeL l o = mk at rN hR
  generalize doL l o = dl at rD hR
  obtain ⟨m1, m2⟩ := mk
  obtain ⟨d1, d2, d3⟩ := dl
  simp only at rN rD hR
  have bm : List.take m1.length (m1.map iRow) = m1.map iRow := List.take_of_length_le (by simp)
  have bd : List.take d1.length (d1.map iRow) = d1.map iRow := List.take_of_length_le (by simp)
  simp only [runH, runX, bl, ho, go_sem, setCells, setIn]
  refine vw_cond (t := false) rfl (fun h => nomatch h) (fun _ => ?_)
  refine vw_skip (n_then ?_)
  refine vw_seq ?_
  by_cases k1 : o.kind = 1
  · rw [if_pos (.inl k1)] at hR
    subst hR
    refine vw_go rfl ?_; simp only [k1, go_sem, setCells, setIn]
    refine vw_cond (t := true) rfl (fun _ => ?_) (fun h => nomatch h)
    rw [← k1]
    refine vw_go rfl ?_; simp only [bl, List.drop_length, go_sem, setCells, setIn]
    refine ⟨_, _, call_own [0, 0] [(67589, none)] Tryz.func31 (rN) rfl rfl rfl rfl rfl rfl rfl (by simp [takeCs, takeC, takeV, seek, fresh, nav, takenUp, rcells, RT.cells, VV.cells, tabE_cons, tabS_cons, ups_tab, ups_nil, ev, take_map_len, bl, iRow_r1, iRow_clean, List.drop_length]) rfl (by simp [rcells, RT.cells, CT.clean, T.clean, bl, iRow_r1, iRow_clean, List.drop_length]) rfl rfl, ?_⟩
    simp only [runH, runX, bm, go_sem, setCells, setIn]
    refine vw_go rfl ?_; simp only [bm, go_sem, setCells, setIn]
    exact vw_ret (r_then (e_ret (ret_by rfl rfl (by simp [RB]) rfl (by simp only [takeCs, takeC, go_sem, setCells, setIn]))))
  by_cases k2 : o.kind = 2
  · rw [if_pos (.inr k2)] at hR
    subst hR
    refine vw_go rfl ?_; simp only [k2, go_sem, setCells, setIn]
    refine vw_cond (t := true) rfl (fun _ => ?_) (fun h => nomatch h)
    rw [← k2]
    refine vw_go rfl ?_; simp only [bl, List.drop_length, go_sem, setCells, setIn]
    refine ⟨_, _, call_own [0, 0] [(67589, none)] Tryz.func31 (rN) rfl rfl rfl rfl rfl rfl rfl (by simp [takeCs, takeC, takeV, seek, fresh, nav, takenUp, rcells, RT.cells, VV.cells, tabE_cons, tabS_cons, ups_tab, ups_nil, ev, take_map_len, bl, iRow_r1, iRow_clean, List.drop_length]) rfl (by simp [rcells, RT.cells, CT.clean, T.clean, bl, iRow_r1, iRow_clean, List.drop_length]) rfl rfl, ?_⟩
    simp only [runH, runX, bm, go_sem, setCells, setIn]
    refine vw_go rfl ?_; simp only [bm, go_sem, setCells, setIn]
    exact vw_ret (r_then (e_ret (ret_by rfl rfl (by simp [RB]) rfl (by simp only [takeCs, takeC, go_sem, setCells, setIn]))))
  rw [if_neg (by rintro (h | h); exact k1 h; exact k2 h)] at hR
  subst hR
  refine vw_go rfl ?_; simp only [k1, k2, go_sem, setCells, setIn]
  refine vw_cond (t := false) rfl (fun h => nomatch h) (fun _ => ?_)
  refine vw_skip (n_then ?_)
  refine vw_go rfl ?_; simp only [bl, List.drop_length, go_sem, setCells, setIn]
  refine ⟨_, _, call_own [0, 0] [(67589, none)] Tryz.func32 (rD) rfl rfl rfl rfl rfl rfl rfl (by simp [takeCs, takeC, takeV, seek, fresh, nav, takenUp, rcells, RT.cells, VV.cells, tabE_cons, tabS_cons, ups_tab, ups_nil, ev, take_map_len, bl, iRow_r1, iRow_clean, List.drop_length]) rfl (by simp [rcells, RT.cells, CT.clean, T.clean, bl, iRow_r1, iRow_clean, List.drop_length]) rfl rfl, ?_⟩
  simp only [runH, runX, bd, go_sem, setCells, setIn]
  refine vw_go rfl ?_; simp only [bd, go_sem, setCells, setIn]
  exact vw_ret (e_ret (ret_by rfl rfl (by simp [RB]) rfl (by simp only [takeCs, takeC, go_sem, setCells, setIn])))
end Go.Proofs.YtoenfbbadfcfpaaGreatDoor
