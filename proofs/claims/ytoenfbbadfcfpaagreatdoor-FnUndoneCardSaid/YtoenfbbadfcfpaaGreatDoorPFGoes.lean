/- Volumes: going through one, of both. A call that turns one list behind one thing that is only read. Volumes: the reference goes through one. -/
import Derived.Test.YtoenfbbadfcfpaaGreatDoorPFCall
import Derived.Test.YtoenfbbadfcfpaaGreatDoorPFDraw
namespace Go.Proofs.YtoenfbbadfcfpaaGreatDoor
open Go.VM Go
set_option maxRecDepth 100000
set_option linter.unusedSimpArgs false
set_option linter.unusedVariables false
attribute [local congr] vw_congr runV_congr runH_congr runW_congr runX_congr stuckV_congr stuckX_congr

def tRow (b : Bool) : List T := [.bool b]
theorem tRow_r1 (x : Bool) : (tRow x).map T.toRO = tRow x := by simp [tRow]
theorem tRow_clean (l : List Bool) : cleanRs (l.map tRow) = true := clean_map (fun x => rfl) l
theorem tRow_fine (H : Value → Nat → List (List T) → Prop) (l : List Bool) : fineRs H (l.map tRow) := fineRs_of (tRow_clean l)

theorem nodeRead_ok {s : ByteArray} (h : (nodeRead s).2 = true) : nodeOk (nodeRead s).1 = true := by
  unfold nodeRead at h ⊢
  split at h
  · cases h
  · rename_i h0
    split at h
    · rename_i ht
      rw [if_neg h0, if_pos ht]
      simp only
      cases hk : nodeOk (nodeRaw s) with
      | true => rfl
      | false =>
        exfalso
        have e : nodeText (nodeRaw s) = ⟨#[]⟩ := by unfold nodeText; rw [hk]; rfl
        rw [e] at ht
        exact h0 (by rw [← ht]; rfl)
    · cases h
theorem nodeOk_kids {n : NodeV} (h : nodeOk n = true) : (∀ y ∈ n.kids, 1 ≤ y ∧ y ≤ 11) ∧ n.names.length = n.kids.length := by
  rcases hd : n.dir with _ | _
  · obtain ⟨h1, h2, _⟩ := nodeOk_file hd h
    refine ⟨fun y hy => ?_, by omega⟩
    rw [List.eq_nil_of_length_eq_zero h2] at hy
    cases hy
  · obtain ⟨h1, _, h3⟩ := nodeOk_dir hd h
    refine ⟨fun y hy => ?_, h1⟩
    obtain ⟨i, hi, rfl⟩ := List.getElem_of_mem hy
    have := nodeAt_out (h3 i (by omega))
    rw [List.getD_eq_getElem?_getD (l := n.kids), List.getElem?_eq_getElem hi] at this
    simpa using this.2.2

theorem distinct_le : ∀ (n : Nat) (l : List Int), (∀ y ∈ l, 1 ≤ y ∧ y ≤ (n : Int)) → l.Nodup → l.length ≤ n
  | 0, l, h, _ => by
    cases l with
    | nil => exact Nat.le_refl _
    | cons y l => have := h y (by simp); omega
  | n + 1, l, h, hd => by
    by_cases hc : ((n + 1 : Nat) : Int) ∈ l
    · have h1 := distinct_le n (l.erase ((n + 1 : Nat) : Int)) (fun y hy => by
        have h2 := (List.Nodup.mem_erase_iff hd).1 hy
        have h3 := h y h2.2
        have h4 := h2.1
        omega) (hd.erase _)
      rw [List.length_erase_of_mem hc] at h1
      omega
    · have h1 := distinct_le n l (fun y hy => by
        have h3 := h y hy
        have h4 : y ≠ ((n + 1 : Nat) : Int) := fun e => hc (e ▸ hy)
        omega) hd
      omega
theorem nodeAt_new {n : NodeV} {i : Nat} (h : nodeAtOk n i = true) : hasK (n.kids.take i) (n.kids.getD i 0) = false := by
  unfold nodeAtOk at h
  simp only [Bool.and_eq_true] at h
  simpa using h.2.2.2
theorem nodeOk_few {n : NodeV} (h : nodeOk n = true) : n.kids.length ≤ 11 := by
  have hk := (nodeOk_kids h).1
  rcases hd : n.dir with _ | _
  · obtain ⟨_, h2, _⟩ := nodeOk_file hd h
    omega
  · obtain ⟨h1, _, h3⟩ := nodeOk_dir hd h
    refine distinct_le 11 n.kids hk ?_
    refine List.pairwise_iff_getElem.2 (fun i j hi hj hij e => ?_)
    have := nodeAt_new (h3 j (by omega))
    rw [List.getD_eq_getElem?_getD, List.getElem?_eq_getElem hj] at this
    unfold hasK at this
    rw [List.any_eq_false] at this
    have hm : n.kids[i] ∈ n.kids.take j := List.mem_take_iff_getElem.2 ⟨i, by omega, rfl⟩
    exact this _ hm (by simp [e])
/-- Over the numbers of a folder. -/
def goKids (g : Nat → List Bool → Bool × List Bool) : List Int → List Bool → Bool × List Bool
  | [], met => (true, met)
  | y :: ys, met => if (g y.toNat met).1 = true then goKids g ys (g y.toNat met).2 else (false, (g y.toNat met).2)
/-- As the program goes. -/
def goI (l : List ByteArray) : Nat → Nat → List Bool → Bool × List Bool
  | 0, _, met => (false, met)
  | f + 1, k, met =>
    if (nodeRead (l.getD k ⟨#[]⟩)).2 = true ∧ met.getD k false = false ∧ ¬ (k = 0 ∧ (nodeRead (l.getD k ⟨#[]⟩)).1.dir = false) then goKids (goI l f) (nodeRead (l.getD k ⟨#[]⟩)).1.kids (met.set k true)
    else (false, met)
theorem goKids_len {g : Nat → List Bool → Bool × List Bool} (hg : ∀ k m, m.length = 12 → (g k m).2.length = 12) : ∀ (ys : List Int) (m : List Bool), m.length = 12 → (goKids g ys m).2.length = 12
  | [], m, h => h
  | y :: ys, m, h => by
    rw [goKids]
    split
    · exact goKids_len hg ys _ (hg _ _ h)
    · exact hg _ _ h
theorem goI_len (l : List ByteArray) : ∀ (f k : Nat) (m : List Bool), m.length = 12 → (goI l f k m).2.length = 12
  | 0, k, m, h => h
  | f + 1, k, m, h => by
    rw [goI]
    split
    · exact goKids_len (goI_len l f) _ _ (by rw [List.length_set]; exact h)
    · exact h


structure GoFit (ok b : Bool) (f k : Nat) (n : NodeV) : Prop where
  ok : ok = true
  new : b = false
  fuel : ¬ f = 0
  root : ¬ (k = 0 ∧ n.dir = false)
theorem runs_from0 (v : Value) (l : List ByteArray) (hl : l.length = 12) (hsz : ∀ s ∈ l, s.size ≤ 2 ^ 20) (f : Nat) (k : Nat) (met : List Bool) (deep : Nat) (hm : met.length = 12) (hk : k < 12) (hf : f + deep = 5)
    (ih : ∀ g, f = g + 1 → ∀ (k : Nat) (met : List Bool), met.length = 12 → k < 12 → Runs Tryz.prog 76 [.one (.box [.held v 1 (l.map sRow), .list true 1 (met.map tRow)]), .one (.v (.int .i64 k)), .one (.v (.int .i64 ((deep + 1 : Nat) : Int)))] [.one (.v (.bool (goI l g k met).1))] [(0, ⟨true, 2, [[.held v 1 (l.map sRow), .list true 1 ((goI l g k met).2.map tRow)]], []⟩)]) :
    Runs Tryz.prog 76 [.one (.box [.held v 1 (l.map sRow), .list true 1 (met.map tRow)]), .one (.v (.int .i64 k)), .one (.v (.int .i64 deep))] [.one (.v (.bool (goI l f k met).1))] [(0, ⟨true, 2, [[.held v 1 (l.map sRow), .list true 1 ((goI l f k met).2.map tRow)]], []⟩)] := by
  refine runs_tabB (tab := [(0, .ptr 0 [] 0 0 0), (1, .c (.int .i64 k)), (2, .c (.int .i64 deep))]) (rts := [(0, some ⟨true, 2, [[.held v 1 (l.map sRow), .list true 1 (met.map tRow)]], []⟩)]) (n := 66) (k := 3) Tryz.func76 rfl rfl (by simp) rfl (fun t => ?_) rfl ?_
  · rcases t with _ | _ | _ | t <;> rfl
  obtain ⟨s, hs⟩ : ∃ s, l[k]? = some s := ⟨_, List.getElem?_eq_getElem (by omega)⟩
  obtain ⟨b, hb⟩ : ∃ b, met[k]? = some b := ⟨_, List.getElem?_eq_getElem (by omega)⟩
  have rR := runs_103 s (hsz s (List.mem_of_getElem? hs)) _ rfl
  have hno : ((nodeRead s).2 = false ∨ b = true ∨ f = 0 ∨ (k = 0 ∧ (nodeRead s).1.dir = false)) → goI l f k met = (false, met) := by
    intro h
    cases f with
    | zero => rfl
    | succ g =>
      rw [goI, getD_of hs, getD_of hb, if_neg]
      rintro ⟨h1, h2, h3⟩
      rcases h with h | h | h | h
      · rw [h1] at h; cases h
      · rw [h2] at h; cases h
      · cases h
      · exact h3 h
  have hyes : ∀ g, f = g + 1 → (nodeRead s).2 = true → b = false → ¬ (k = 0 ∧ (nodeRead s).1.dir = false) → goI l f k met = goKids (goI l g) (nodeRead s).1.kids (met.set k true) := by
    rintro g rfl h1 h2 h3
    rw [goI, getD_of hs, getD_of hb, if_pos ⟨h1, h2, h3⟩]
  have hkids : (nodeRead s).2 = true → ∀ y ∈ (nodeRead s).1.kids, 1 ≤ y ∧ y ≤ 11 := fun h => (nodeOk_kids (nodeRead_ok h)).1
  have hkl : (nodeRead s).2 = true → (nodeRead s).1.kids.length ≤ 11 := fun h => nodeOk_few (nodeRead_ok h)
  generalize goI l f k met = R at hno hyes ⊢
  generalize nodeRead s = r at rR hkids hkl hno hyes
  obtain ⟨n, ok⟩ := r
  simp only at rR hkids hkl hno hyes
  have c0 : (0:Int) ≤ (k : Int) := by omega
  have c1 : (k : Int) < (l.length : Int) := by omega
  have c2 : (k : Int) < (met.length : Int) := by omega
  have c3 : k < l.length := by omega
  have c4 : k < met.length := by omega
  have bn : List.take n.names.length (n.names.map sRow) = n.names.map sRow := List.take_of_length_le (by simp)
  have bk : List.take n.kids.length (n.kids.map nRow) = n.kids.map nRow := List.take_of_length_le (by simp)
  have bm : List.take met.length (met.map tRow) = met.map tRow := List.take_of_length_le (by simp)
  (refine vw_go rfl ?_; simp only [go_sem, setCells, setIn])
  (refine vw_go rfl ?_; simp only [c0, c1, c3, Int.toNat_natCast, getD_map_of hs, sRow, go_sem, setCells, setIn])
  (refine ⟨_, _, call_rx [0] Tryz.func103 (rR) rfl rfl rfl rfl rfl rfl rfl (by simp [lendAll, lendC, seek, fresh, nav, rcells, RT.cells, VV.cells, tabE_cons, tabS_cons, ev, take_map_len, sRow_r1, sRow_comp, sRow_clean, nRow_r1, nRow_comp, nRow_clean, tRow_r1, tRow_clean]) rfl (by simp [rcells, RT.cells, CT.clean, T.clean, sRow_r1, sRow_comp, sRow_clean, nRow_r1, nRow_comp, nRow_clean, tRow_r1, tRow_clean]) rfl rfl, ?_⟩)
  simp only [runH, runX, bn, bk, go_sem, setCells, setIn]
  refine vw_join (α := Unit) (fun _ => ⟨tabE [(0, .ptr 0 [] 0 0 0), (1, .c (.int .i64 k)), (2, .c (.int .i64 deep)), (7, .ptr 3 [] 0 0 0)], tabS [(0, some ⟨true, 2, [[.held v 1 (l.map sRow), .list true 1 (met.map tRow)]], []⟩),
      (3, some ⟨true, 4, [[.bool n.dir, .list true 1 (n.names.map sRow), .list true 1 (n.kids.map nRow), .str n.data]], [[(0, 1)], [(0, 2)]]⟩)], 4⟩) (fun _ => GoFit ok b f k n) ?_ ?_
  · cases ok
    case false =>
      rw [hno (.inl rfl)]
      (refine vw_go rfl ?_; simp only [go_sem, setCells, setIn])
      (refine vw_cond (t := true) rfl (fun _ => ?_) (fun h => nomatch h))
      (refine vw_go rfl ?_; simp only [go_sem, setCells, setIn])
      exact vw_ret (r_then (e_ret (ret_b rfl rfl (by simp [RB]) rfl (by simp only [takeCs, takeC, bm, go_sem, setCells, setIn]; rfl) (by exact ⟨⟨by simp, _, rfl, rfl, rfl, rfl⟩, trivial⟩))))
    cases b
    case true =>
      rw [hno (.inr (.inl rfl))]
      (refine vw_go rfl ?_; simp only [c0, c2, c4, Int.toNat_natCast, getD_map_of hb, tRow, List.drop_length, bm, go_sem, setCells, setIn])
      (refine vw_cond (t := true) rfl (fun _ => ?_) (fun h => nomatch h))
      (refine vw_go rfl ?_; simp only [go_sem, setCells, setIn])
      exact vw_ret (r_then (e_ret (ret_b rfl rfl (by simp [RB]) rfl (by simp only [takeCs, takeC, bm, go_sem, setCells, setIn]; rfl) (by exact ⟨⟨by simp, _, rfl, rfl, rfl, rfl⟩, trivial⟩))))
    by_cases hf0 : f = 0
    · have hdp : (4 : Int) < (deep : Int) := by omega
      rw [hno (.inr (.inr (.inl hf0)))]
      (refine vw_go rfl ?_; simp only [c0, c2, c4, Int.toNat_natCast, getD_map_of hb, tRow, List.drop_length, bm, hdp, go_sem, setCells, setIn])
      (refine vw_cond (t := true) rfl (fun _ => ?_) (fun h => nomatch h))
      (refine vw_go rfl ?_; simp only [go_sem, setCells, setIn])
      exact vw_ret (r_then (e_ret (ret_b rfl rfl (by simp [RB]) rfl (by simp only [takeCs, takeC, bm, go_sem, setCells, setIn]; rfl) (by exact ⟨⟨by simp, _, rfl, rfl, rfl, rfl⟩, trivial⟩))))
    have hdp : ¬ (4 : Int) < (deep : Int) := by omega
    by_cases hk0 : k = 0
    · have hki : ((k : Int) = 0) = True := eq_true (by omega)
      cases hd : n.dir
      · rw [hno (.inr (.inr (.inr ⟨hk0, hd⟩)))]
        (refine vw_go rfl ?_; simp only [c0, c2, c4, Int.toNat_natCast, getD_map_of hb, tRow, List.drop_length, bm, hdp, hki, go_sem, setCells, setIn])
        (refine vw_cond (t := true) rfl (fun _ => ?_) (fun h => nomatch h))
        (refine vw_go rfl ?_; simp only [go_sem, setCells, setIn])
        exact vw_ret (r_then (e_ret (ret_b rfl rfl (by simp [RB]) rfl (by simp only [takeCs, takeC, bm, go_sem, setCells, setIn]; rfl) (by exact ⟨⟨by simp, _, rfl, rfl, rfl, rfl⟩, trivial⟩))))
      · (refine vw_go rfl ?_; simp only [c0, c2, c4, Int.toNat_natCast, getD_map_of hb, tRow, List.drop_length, bm, hdp, hki, go_sem, setCells, setIn])
        (refine vw_cond (t := false) rfl (fun h => nomatch h) (fun _ => ?_))
        refine vw_skip (n_then ⟨(), ⟨rfl, rfl, hf0, fun h => by rw [hd] at h; cases h.2⟩, ?_⟩)
        (refine norm_to [(0, 0), (76803, 3)] rfl ?_ ?_ <;> simp only [go_sem])
    · have hki : ((k : Int) = 0) = False := eq_false (by omega)
      (refine vw_go rfl ?_; simp only [c0, c2, c4, Int.toNat_natCast, getD_map_of hb, tRow, List.drop_length, bm, hdp, hki, go_sem, setCells, setIn])
      (refine vw_cond (t := false) rfl (fun h => nomatch h) (fun _ => ?_))
      refine vw_skip (n_then ⟨(), ⟨rfl, rfl, hf0, fun h => hk0 h.1⟩, ?_⟩)
      (refine norm_to [(0, 0), (76803, 3)] rfl ?_ ?_ <;> simp only [go_sem])
  rintro _ ⟨rfl, rfl, hf0, hz⟩
  obtain ⟨g, rfl⟩ : ∃ g, f = g + 1 := ⟨f - 1, by omega⟩
  have hkids := hkids rfl
  have hkl := hkl rfl
  have hR := hyes g rfl rfl rfl hz
  clear hno hyes
  have e4 : (met.map tRow).set k [.bool true] = (met.set k true).map tRow := by rw [List.map_set]; rfl
  have hm2 : (met.set k true).length = 12 := by rw [List.length_set]; exact hm
  (refine vw_go rfl ?_; simp only [c0, c2, c4, Int.toNat_natCast, getD_map_of hb, tRow, List.drop_length, bm, e4, go_sem, setCells, setIn])
  refine vw_seq ?_
  (refine vw_go rfl ?_; simp only [List.drop_length, bk, go_sem, setCells, setIn])
  generalize met.set k true = met0 at hm2 hR ⊢
  refine vw_block ?_
  refine vw_loop_tab (α := Nat × List Bool × List Path) (fun x => n.kids.length - x.1) (fun x => ⟨tabE [(0, .ptr 0 [] 0 0 0), (2, .c (.int .i64 deep)), (53, .al 3 [(0, 2)] 2 1 0 n.kids.length), (54, .c (.int .i64 n.kids.length)), (55, .c (.int .i64 x.1))],
      tabS [(0, some ⟨true, 2, [[.held v 1 (l.map sRow), .list true 1 (x.2.1.map tRow)]], x.2.2⟩), (3, some ⟨true, 4, [[.bool n.dir, .list true 1 (n.names.map sRow), .list true 1 (n.kids.map nRow), .str n.data]], [[(0, 1)], [(0, 2)]]⟩)], 4⟩)
    (fun x => x.1 ≤ n.kids.length ∧ goKids (goI l g) (n.kids.drop x.1) x.2.1 = R ∧ x.2.1.length = 12) (x := (0, met0, [])) ?round ?h0 ?hn
  case h0 => exact ⟨Nat.zero_le _, hR.symm, hm2⟩
  case hn =>
    (refine norm_to [(0, 0), (3, 3)] rfl ?_ ?_ <;> simp only [go_sem])
  rintro ⟨i, m, lg⟩ ⟨hi, hg, hm3⟩
  simp only at hi hg hm3
  by_cases hc : (i : Int) < n.kids.length
  case neg =>
    rw [List.drop_eq_nil_of_le (by omega), goKids] at hg
    subst hg
    have bm : List.take m.length (m.map tRow) = m.map tRow := List.take_of_length_le (by simp)
    (refine vw_go rfl ?_; simp only [hc, go_sem, setCells, setIn])
    refine vw_seq ?_
    (refine vw_cond (t := false) rfl (fun h => nomatch h) (fun _ => ?_))
    refine vw_exit (x_then (x_then (x_block (n_then ?_))))
    (refine vw_go rfl ?_; simp only [go_sem, setCells, setIn])
    exact vw_ret (e_ret (ret_b rfl rfl (by simp [RB]) rfl (by simp only [takeCs, takeC, bm, List.drop_length, go_sem, setCells, setIn]; rfl) (by exact ⟨⟨by simp, _, rfl, rfl, rfl, rfl⟩, trivial⟩)))
  obtain ⟨y, hy⟩ : ∃ y, n.kids[i]? = some y := ⟨_, List.getElem?_eq_getElem (by omega)⟩
  have hdr : n.kids.drop i = y :: n.kids.drop (i + 1) := by
    rw [List.drop_eq_getElem_cons (by omega)]
    congr 1
    rw [List.getElem?_eq_getElem (by omega)] at hy
    exact Option.some.inj hy
  have hyr := hkids y (List.mem_of_getElem? hy)
  obtain ⟨q, rfl⟩ : ∃ q : Nat, y = q := ⟨y.toNat, by omega⟩
  rw [hdr, goKids, Int.toNat_natCast] at hg
  have rI := ih g rfl q m hm3 (by omega)
  have hgl := goI_len l g q m hm3
  generalize goI l g q m = o at rI hg hgl
  obtain ⟨o, m2⟩ := o
  simp only at rI hg hgl
  have d0 : (0:Int) ≤ (i : Int) := by omega
  have w3 : IntKind.wrap .i64 ((i:Int) + 1) = ((i + 1 : Nat) : Int) := by rw [wrap_i64 (by omega) (by omega)]; rfl
  have w4 : IntKind.wrap .i64 ((deep:Int) + 1) = ((deep + 1 : Nat) : Int) := by rw [wrap_i64 (by omega) (by omega)]; rfl
  have hin : i < n.kids.length := by omega
  have bm : List.take m.length (m.map tRow) = m.map tRow := List.take_of_length_le (by simp)
  have bm2 : List.take m2.length (m2.map tRow) = m2.map tRow := List.take_of_length_le (by simp)
  (refine vw_go rfl ?_; simp only [hc, go_sem, setCells, setIn])
  refine vw_seq ?_
  (refine vw_cond (t := true) rfl (fun _ => ?_) (fun h => nomatch h))
  refine vw_skip (n_then ?_)
  refine vw_seq ?_
  refine vw_block ?_
  (refine vw_go rfl ?_; simp only [d0, hc, hin, Int.toNat_natCast, getD_map_of hy, nRow, List.drop_length, go_sem, setCells, setIn])
  (refine vw_go rfl ?_; simp only [w4, go_sem, setCells, setIn])
  (refine ⟨_, _, call_pt [0, 0, 0] 0 Tryz.func76 (rI) rfl rfl rfl rfl rfl rfl rfl rfl (by simp [lendAll, lendC, seek, fresh, nav, rcells, RT.cells, VV.cells, tabE_cons, tabS_cons, St.put, ev, lit, take_map_len, bm]) rfl rfl (by simp [rcells, RT.cells, CT.fine, T.fine, bm]) (by exact ⟨.inr ⟨0, _, _, rfl, .head _, .head _⟩, tRow_fine _ _, trivial⟩) rfl rfl, ?_⟩)
  simp only [runH, runX, go_sem, setCells, setIn]
  cases o
  case false =>
    rw [if_neg (by decide)] at hg
    subst hg
    (refine vw_cond (t := true) rfl (fun _ => ?_) (fun h => nomatch h))
    (refine vw_go rfl ?_; simp only [go_sem, setCells, setIn])
    exact vw_ret (r_block (r_then (r_then (r_block (r_then (e_ret (ret_b rfl rfl (by simp [RB]) rfl (by simp only [takeCs, takeC, bm2, List.drop_length, go_sem, setCells, setIn]; rfl) (by exact ⟨⟨by simp, _, rfl, rfl, rfl, rfl⟩, trivial⟩))))))))
  rw [if_pos rfl] at hg
  (refine vw_cond (t := false) rfl (fun h => nomatch h) (fun _ => ?_))
  refine vw_skip (n_block (n_then ?_))
  (refine vw_last rfl ?_; simp only [w3, go_sem, setCells, setIn])
  refine (n_then ?_)
  refine ⟨(i + 1, m2, lg ++ [[]]), by simp only; omega, ⟨by simp only; omega, hg, hgl⟩, ?_⟩
  (refine norm_to [(0, 0), (3, 3)] rfl ?_ ?_ <;> simp only [go_sem])

theorem runs_76 (v : Value) (l : List ByteArray) (hl : l.length = 12) (hsz : ∀ s ∈ l, s.size ≤ 2 ^ 20) : ∀ (f k : Nat) (met : List Bool) (deep : Nat), met.length = 12 → k < 12 → f + deep = 5 →
    Runs Tryz.prog 76 [.one (.box [.held v 1 (l.map sRow), .list true 1 (met.map tRow)]), .one (.v (.int .i64 k)), .one (.v (.int .i64 deep))] [.one (.v (.bool (goI l f k met).1))] [(0, ⟨true, 2, [[.held v 1 (l.map sRow), .list true 1 ((goI l f k met).2.map tRow)]], []⟩)]
  | 0, k, met, deep, hm, hk, hf => runs_from0 v l hl hsz 0 k met deep hm hk hf (fun g e => by omega)
  | f + 1, k, met, deep, hm, hk, hf => runs_from0 v l hl hsz (f + 1) k met deep hm hk hf (fun g e k met hm hk => by
      have e' : g = f := by omega
      subst e'
      exact runs_76 v l hl hsz g k met (deep + 1) hm hk (by omega))
end Go.Proofs.YtoenfbbadfcfpaaGreatDoor
namespace Go.VM
/-- One list handed over and given back, behind one thing that is only read. -/
theorem call_b1 {P : Program} {fid : Nat} {o : Oper} {env : Nat → VV} {st : St} {c : Call} {g : Operand} {f : FuncId} {fn : Func} {caps : List (List T)} (ts : List TypeId) (r : Nat) {m sz len : Nat} {rows rows' : List (List T)} {lg : List Path} {a : VV} {xs : List VV} {ca : CT} {cs : List CT}
    {args outs : List RT} (hf : P.funcs[f]? = some fn) (hruns : Runs P f args outs [(1, ⟨false, sz, rows', []⟩)]) (hop : o.op = .call c) (hcal : c.callee = .value g) (hg : ev P env 0 g = .fn f caps) (hbody : fn.body.isNone = false) (hname : (fn.name == "runtime.NumGoroutine") = false)
    (hts : ts.length = c.args.size) (hxs : (c.args.toList.zip ts).map (fun p => ev P env p.2 p.1) ++ caps.map VV.rop = a :: .al r [] m sz 0 len :: xs) (ha : a.cells = [a]) (hst : st r = some ⟨false, sz, rows, lg⟩) (hlen : rows.length = len)
    (hl : lendAll (st.put r none) (a :: xs.flatMap VV.cells) = some (ca :: cs)) (hcs : rcells args = ca :: .v (.list true sz rows) :: cs)
    (hshape : shapes (a :: .al r [] m sz 0 len :: xs) args = true) (hc1 : ∀ c ∈ rcells outs, c.fine (Known st (a :: .al r [] m sz 0 len :: xs.flatMap VV.cells))) (hc2 : fineRs (Known st (a :: .al r [] m sz 0 len :: xs.flatMap VV.cells)) rows') (hm : Nat.ble (rcells outs).length 1024 = true) (hn : Nat.ble (rcells args).length 1024 = true) :
    OpOk P fid o env st ⟨outL (rvv fid outs), [(r, none), (r, some ⟨false, sz, rows', lg ++ [[]]⟩)] ++ cups fid (rcells outs)⟩ := by
  subst hlen
  have hcells : (a :: VV.al r [] m sz 0 rows.length :: xs).flatMap VV.cells = a :: .al r [] m sz 0 rows.length :: xs.flatMap VV.cells := by
    rw [List.flatMap_cons, ha, List.flatMap_cons]; rfl
  have hl' : ∃ c0, lendC (st.put r none) a = some c0 ∧ c0 = ca ∧ lendAll (st.put r none) (xs.flatMap VV.cells) = some cs := by
    simp only [lendAll] at hl
    cases h1 : lendC (st.put r none) a with
    | none => rw [h1] at hl; cases hl
    | some c0 =>
      rw [h1] at hl
      cases h2 : lendAll (st.put r none) (xs.flatMap VV.cells) with
      | none => rw [h2] at hl; cases hl
      | some c1 =>
        rw [h2] at hl
        simp only [Option.map_some, Option.some.injEq, List.cons.injEq] at hl
        exact ⟨c0, rfl, hl.1, by rw [hl.2]⟩
  obtain ⟨_, h1, rfl, h2⟩ := hl'
  have h := call_okH (P := P) (fid := fid) (o := o) (env := env) (st := st) (ms := .ro :: .back :: xs.map fun _ => Md.ro) (ys := none :: some (.v (.list true sz rows)) :: (xs.flatMap VV.cells).map fun _ => none) (u := [(r, none)]) (bk := none :: some r :: (xs.flatMap VV.cells).map fun _ => none) (cs := _ :: .v (.list true sz rows) :: cs)
    (B := [(r, 1, ⟨false, sz, rows', []⟩)]) (bu := [(r, some ⟨false, sz, rows', lg ++ [[]]⟩)]) (ts := ts) (xs := a :: .al r [] m sz 0 rows.length :: xs)
    hop hcal hg hf hbody hname hxs.symm hts (by simp)
    (by
      rw [List.zip_cons_cons, List.zip_cons_cons, List.flatMap_cons, List.flatMap_cons, modes_ro, ha]
      simp only [show (VV.al r [] m sz 0 rows.length).cells = [VV.al r [] m sz 0 rows.length] from rfl, List.map_cons, List.map_nil, List.singleton_append, handCs, handC, handBack, St.ups_nil, hst, and_self, if_true, handCs_ro, List.append_nil, List.nil_append])
    (by
      rw [hcells]
      simp only [mergeCs, mergeCs_ro', St.ups_cons, St.ups_nil, h1, h2, Option.map_some])
    hshape hcs (fun b hb => by simp only [List.mem_singleton] at hb; subst hb; rfl) (by simp) (by simp) (by simp only [backU, hst, Option.map_some]) hruns
    (by rw [hcells]; exact hc1) (fun b hb => by simp only [List.mem_singleton] at hb; subst hb; rw [hcells]; exact hc2) (Nat.le_of_ble_eq_true hm) (by rw [hcs] at hn; exact Nat.le_of_ble_eq_true hn)
  simpa using h
end Go.VM
namespace Go.Proofs.YtoenfbbadfcfpaaGreatDoor
open Go.VM Go
set_option maxRecDepth 100000
set_option linter.unusedSimpArgs false
set_option linter.unusedVariables false
attribute [local congr] vw_congr runV_congr runH_congr runW_congr runX_congr stuckV_congr stuckX_congr

/-- As the reference goes. -/
def goS (l : List ByteArray) : Nat → Nat → List Bool → Bool × List Bool
  | 0, _, met => (false, met)
  | f + 1, k, met =>
    if met.getD k false = true then (false, met)
    else if (nodeRead (l.getD k ⟨#[]⟩)).2 = true then goKids (goS l f) (nodeRead (l.getD k ⟨#[]⟩)).1.kids (met.set k true) else (false, met.set k true)
theorem goS_len (l : List ByteArray) : ∀ (f k : Nat) (m : List Bool), m.length = 12 → (goS l f k m).2.length = 12
  | 0, k, m, h => h
  | f + 1, k, m, h => by
    rw [goS]
    split
    · exact h
    · split
      · exact goKids_len (goS_len l f) _ _ (by rw [List.length_set]; exact h)
      · simp only [List.length_set]; exact h
/-- Both go alike from any other place than the first one, and from the first one where a folder stands there. -/
theorem goKids_same {g h : Nat → List Bool → Bool × List Bool} : ∀ (ys : List Int) (m : List Bool), (∀ y ∈ ys, ∀ m, (g y.toNat m).1 = (h y.toNat m).1 ∧ ((g y.toNat m).1 = true → (g y.toNat m).2 = (h y.toNat m).2)) →
    (goKids g ys m).1 = (goKids h ys m).1 ∧ ((goKids g ys m).1 = true → (goKids g ys m).2 = (goKids h ys m).2)
  | [], m, _ => ⟨rfl, fun _ => rfl⟩
  | y :: ys, m, hy => by
    obtain ⟨h1, h2⟩ := hy y (by simp) m
    rw [goKids, goKids]
    by_cases hg : (g y.toNat m).1 = true
    · rw [if_pos hg, if_pos (h1 ▸ hg), h2 hg]
      exact goKids_same ys _ (fun z hz => hy z (by simp [hz]))
    · rw [if_neg hg, if_neg (h1 ▸ hg)]
      exact ⟨rfl, fun h => nomatch h⟩
theorem go_same (l : List ByteArray) : ∀ (f k : Nat) (m : List Bool), ¬ (k = 0 ∧ (nodeRead (l.getD k ⟨#[]⟩)).1.dir = false) → (goI l f k m).1 = (goS l f k m).1 ∧ ((goI l f k m).1 = true → (goI l f k m).2 = (goS l f k m).2)
  | 0, k, m, _ => ⟨rfl, fun _ => rfl⟩
  | f + 1, k, m, hk => by
    rw [goI, goS]
    by_cases h1 : m.getD k false = true
    · rw [if_pos h1, if_neg (fun h => by rw [h.2.1] at h1; cases h1)]
      exact ⟨rfl, fun h => nomatch h⟩
    rw [if_neg h1]
    by_cases h2 : (nodeRead (l.getD k ⟨#[]⟩)).2 = true
    · rw [if_pos h2, if_pos ⟨h2, by simpa using h1, hk⟩]
      refine goKids_same _ _ (fun y hy m => go_same l f y.toNat m (fun h => ?_))
      have := (nodeOk_kids (nodeRead_ok h2)).1 y hy
      omega
    · rw [if_neg h2, if_neg (fun h => h2 h.1)]
      exact ⟨rfl, fun h => nomatch h⟩


structure GoFitS (b : Bool) (f : Nat) : Prop where
  new : b = false
  fuel : ¬ f = 0
theorem runs_go0 (l : List ByteArray) (hl : l.length = 12) (hsz : ∀ s ∈ l, s.size ≤ 2 ^ 20) (f : Nat) (k : Nat) (met : List Bool) (deep : Nat) (hm : met.length = 12) (hk : k < 12) (hf : f + deep = 5)
    (ih : ∀ g, f = g + 1 → ∀ (k : Nat) (met : List Bool), met.length = 12 → k < 12 → Runs Tryz.prog 82 [.one (.v (.list false 1 (l.map sRow))), .one (.v (.list true 1 (met.map tRow))), .one (.v (.int .i64 k)), .one (.v (.int .i64 ((deep + 1 : Nat) : Int)))] [.one (.v (.bool (goS l g k met).1))] [(1, ⟨false, 1, (goS l g k met).2.map tRow, []⟩)]) :
    Runs Tryz.prog 82 [.one (.v (.list false 1 (l.map sRow))), .one (.v (.list true 1 (met.map tRow))), .one (.v (.int .i64 k)), .one (.v (.int .i64 deep))] [.one (.v (.bool (goS l f k met).1))] [(1, ⟨false, 1, (goS l f k met).2.map tRow, []⟩)] := by
  refine runs_tabB (tab := [(0, .c (.list false 1 (l.map sRow))), (1, .al 1 [] 0 1 0 met.length), (2, .c (.int .i64 k)), (3, .c (.int .i64 deep))]) (rts := [(1, some ⟨false, 1, met.map tRow, []⟩)]) (n := 51) (k := 4) Tryz.func82 rfl rfl (by simp) rfl (fun t => ?_) rfl ?_
  · rcases t with _ | _ | _ | _ | t <;> simp [envOf, rvv, RT.vv, CT.vv, cvv, tabE_cons, tabE_nil, rcells, RT.cells]
  obtain ⟨s, hs⟩ : ∃ s, l[k]? = some s := ⟨_, List.getElem?_eq_getElem (by omega)⟩
  obtain ⟨b, hb⟩ : ∃ b, met[k]? = some b := ⟨_, List.getElem?_eq_getElem (by omega)⟩
  have rR := runs_81 s (hsz s (List.mem_of_getElem? hs)) _ rfl
  have hno : b = true ∨ f = 0 → goS l f k met = (false, met) := by
    intro h
    cases f with
    | zero => rfl
    | succ g =>
      rcases h with h | h
      · rw [goS, getD_of hb, if_pos h]
      · cases h
  have hyes : ∀ g, f = g + 1 → b = false → goS l f k met = (if (nodeRead s).2 = true then goKids (goS l g) (nodeRead s).1.kids (met.set k true) else (false, met.set k true)) := by
    rintro g rfl h
    rw [goS, getD_of hs, getD_of hb, if_neg (by rw [h]; decide)]
  have hkids : (nodeRead s).2 = true → ∀ y ∈ (nodeRead s).1.kids, 1 ≤ y ∧ y ≤ 11 := fun h => (nodeOk_kids (nodeRead_ok h)).1
  have hkl : (nodeRead s).2 = true → (nodeRead s).1.kids.length ≤ 11 := fun h => nodeOk_few (nodeRead_ok h)
  generalize goS l f k met = R at hno hyes ⊢
  generalize nodeRead s = r at rR hkids hkl hyes
  obtain ⟨n, ok⟩ := r
  simp only at rR hkids hkl hyes
  have c0 : (0:Int) ≤ (k : Int) := by omega
  have c1 : (k : Int) < (l.length : Int) := by omega
  have c2 : (k : Int) < (met.length : Int) := by omega
  have c3 : k < l.length := by omega
  have c4 : k < met.length := by omega
  have bn : List.take n.names.length (n.names.map sRow) = n.names.map sRow := List.take_of_length_le (by simp)
  have bk : List.take n.kids.length (n.kids.map nRow) = n.kids.map nRow := List.take_of_length_le (by simp)
  (refine vw_go rfl ?_; simp only [go_sem, setCells, setIn])
  refine vw_join (α := Unit) (fun _ => ⟨tabE [(0, .c (.list false 1 (l.map sRow))), (1, .al 1 [] 0 1 0 met.length), (2, .c (.int .i64 k)), (3, .c (.int .i64 deep))], tabS [(1, some ⟨false, 1, met.map tRow, []⟩)], 4⟩) (fun _ => GoFitS b f) ?_ ?_
  · cases b
    case true =>
      rw [hno (.inl rfl)]
      (refine vw_go rfl ?_; simp only [c0, c2, c4, Int.toNat_natCast, getD_map_of hb, tRow, go_sem, setCells, setIn])
      (refine vw_cond (t := true) rfl (fun _ => ?_) (fun h => nomatch h))
      (refine vw_go rfl ?_; simp only [go_sem, setCells, setIn])
      exact vw_ret (r_then (e_ret (ret_b rfl rfl (by simp [RB]) rfl rfl ⟨⟨by simp, _, rfl, rfl, rfl, rfl⟩, trivial⟩)))
    by_cases hf0 : f = 0
    · have hdp : (4 : Int) < (deep : Int) := by omega
      rw [hno (.inr hf0)]
      (refine vw_go rfl ?_; simp only [c0, c2, c4, Int.toNat_natCast, getD_map_of hb, tRow, hdp, go_sem, setCells, setIn])
      (refine vw_cond (t := true) rfl (fun _ => ?_) (fun h => nomatch h))
      (refine vw_go rfl ?_; simp only [go_sem, setCells, setIn])
      exact vw_ret (r_then (e_ret (ret_b rfl rfl (by simp [RB]) rfl rfl ⟨⟨by simp, _, rfl, rfl, rfl, rfl⟩, trivial⟩)))
    have hdp : ¬ (4 : Int) < (deep : Int) := by omega
    (refine vw_go rfl ?_; simp only [c0, c2, c4, Int.toNat_natCast, getD_map_of hb, tRow, hdp, go_sem, setCells, setIn])
    (refine vw_cond (t := false) rfl (fun h => nomatch h) (fun _ => ?_))
    refine vw_skip (n_then ⟨(), ⟨rfl, hf0⟩, ?_⟩)
    (refine norm_to [(1, 1)] rfl ?_ ?_ <;> simp only [go_sem])
  rintro _ ⟨rfl, hf0⟩
  obtain ⟨g, rfl⟩ : ∃ g, f = g + 1 := ⟨f - 1, by omega⟩
  have hR := hyes g rfl rfl
  clear hno hyes
  have e4 : (met.map tRow).set k [.bool true] = (met.set k true).map tRow := by rw [List.map_set]; rfl
  have e5 : met.length = (met.set k true).length := by simp
  have hm2 : (met.set k true).length = 12 := by rw [List.length_set]; exact hm
  (refine vw_go rfl ?_; simp only [c0, c2, c4, Int.toNat_natCast, getD_map_of hb, tRow, e4, go_sem, setCells, setIn])
  rw [e5]
  generalize met.set k true = met0 at hm2 hR ⊢
  (refine vw_go rfl ?_; simp only [c0, c1, c3, Int.toNat_natCast, getD_map_of hs, sRow, go_sem, setCells, setIn])
  (refine ⟨_, _, call_rx [0] Tryz.func81 (rR) rfl rfl rfl rfl rfl rfl rfl (by simp [lendAll, lendC, seek, fresh, nav, rcells, RT.cells, VV.cells, tabE_cons, tabS_cons, ev, take_map_len, sRow_r1, sRow_comp, sRow_clean, nRow_r1, nRow_comp, nRow_clean, tRow_r1, tRow_clean]) rfl (by simp [rcells, RT.cells, CT.clean, T.clean, sRow_r1, sRow_comp, sRow_clean, nRow_r1, nRow_comp, nRow_clean, tRow_r1, tRow_clean]) rfl rfl, ?_⟩)
  simp only [runH, runX, bn, bk, go_sem, setCells, setIn]
  refine vw_seq ?_
  (refine vw_go rfl ?_; simp only [go_sem, setCells, setIn])
  cases ok
  case false =>
    rw [if_neg (by decide)] at hR
    subst hR
    (refine vw_cond (t := true) rfl (fun _ => ?_) (fun h => nomatch h))
    (refine vw_go rfl ?_; simp only [go_sem, setCells, setIn])
    exact vw_ret (r_then (e_ret (ret_b rfl rfl (by simp [RB]) rfl rfl ⟨⟨by simp, _, rfl, rfl, rfl, rfl⟩, trivial⟩)))
  rw [if_pos rfl] at hR
  have hkids := hkids rfl
  have hkl := hkl rfl
  (refine vw_cond (t := false) rfl (fun h => nomatch h) (fun _ => ?_))
  refine vw_skip (n_then ?_)
  refine vw_seq ?_
  (refine vw_go rfl ?_; simp only [go_sem, setCells, setIn])
  refine vw_block ?_
  refine vw_loop_tab (α := Nat × List Bool × List Path) (fun x => n.kids.length - x.1) (fun x => ⟨tabE [(0, .c (.list false 1 (l.map sRow))), (1, .al 1 [] 0 1 0 x.2.1.length), (3, .c (.int .i64 deep)), (9, .ptr 4 [] 0 0 0), (11, .c (.int .i64 x.1))],
      tabS [(1, some ⟨false, 1, x.2.1.map tRow, x.2.2⟩), (4, some ⟨true, 4, [[.bool n.dir, .list true 1 (n.names.map sRow), .list true 1 (n.kids.map nRow), .str n.data]], [[(0, 1)], [(0, 2)]]⟩)], 5⟩)
    (fun x => x.1 ≤ n.kids.length ∧ goKids (goS l g) (n.kids.drop x.1) x.2.1 = R ∧ x.2.1.length = 12) (x := (0, met0, [])) ?round ?h0 ?hn
  case h0 => exact ⟨Nat.zero_le _, hR.symm, hm2⟩
  case hn =>
    (refine norm_to [(1, 1), (73732, 4)] rfl ?_ ?_ <;> simp only [go_sem])
  rintro ⟨i, m, lg⟩ ⟨hi, hg, hm3⟩
  simp only at hi hg hm3
  refine vw_seq ?_
  by_cases hc : (i : Int) < n.kids.length
  case neg =>
    rw [List.drop_eq_nil_of_le (by omega), goKids] at hg
    subst hg
    (refine vw_go rfl ?_; simp only [hc, List.drop_length, go_sem, setCells, setIn])
    (refine vw_cond (t := false) rfl (fun h => nomatch h) (fun _ => ?_))
    refine vw_exit (x_then (x_then (x_block (n_then ?_))))
    (refine vw_go rfl ?_; simp only [go_sem, setCells, setIn])
    exact vw_ret (e_ret (ret_b rfl rfl (by simp [RB]) rfl rfl ⟨⟨by simp, _, rfl, rfl, rfl, rfl⟩, trivial⟩))
  obtain ⟨y, hy⟩ : ∃ y, n.kids[i]? = some y := ⟨_, List.getElem?_eq_getElem (by omega)⟩
  have hdr : n.kids.drop i = y :: n.kids.drop (i + 1) := by
    rw [List.drop_eq_getElem_cons (by omega)]
    congr 1
    rw [List.getElem?_eq_getElem (by omega)] at hy
    exact Option.some.inj hy
  have hyr := hkids y (List.mem_of_getElem? hy)
  obtain ⟨q, rfl⟩ : ∃ q : Nat, y = q := ⟨y.toNat, by omega⟩
  rw [hdr, goKids, Int.toNat_natCast] at hg
  have rI := ih g rfl q m hm3 (by omega)
  have hgl := goS_len l g q m hm3
  generalize goS l g q m = o at rI hg hgl
  obtain ⟨o, m2⟩ := o
  simp only at rI hg hgl
  have d0 : (0:Int) ≤ (i : Int) := by omega
  have w3 : IntKind.wrap .i64 ((i:Int) + 1) = ((i + 1 : Nat) : Int) := by rw [wrap_i64 (by omega) (by omega)]; rfl
  have w4 : IntKind.wrap .i64 ((deep:Int) + 1) = ((deep + 1 : Nat) : Int) := by rw [wrap_i64 (by omega) (by omega)]; rfl
  have hin : i < n.kids.length := by omega
  have e6 : m.length = m2.length := by omega
  (refine vw_go rfl ?_; simp only [hc, List.drop_length, go_sem, setCells, setIn])
  (refine vw_cond (t := true) rfl (fun _ => ?_) (fun h => nomatch h))
  refine vw_skip (n_then ?_)
  refine vw_seq ?_
  refine vw_block ?_
  (refine vw_go rfl ?_; simp only [d0, hc, hin, Int.toNat_natCast, getD_map_of hy, nRow, List.drop_length, w4, go_sem, setCells, setIn])
  (refine ⟨_, _, call_b1 [0, 0, 0, 0] 1 Tryz.func82 (rI) rfl rfl rfl rfl rfl rfl rfl rfl rfl (by simp) (by simp [lendAll, lendC, seek, fresh, nav, rcells, RT.cells, VV.cells, tabE_cons, tabS_cons, St.put, ev, lit, take_map_len, sRow_r1]) rfl rfl (by simp [rcells, RT.cells, CT.fine, T.fine, sRow_r1]) (by exact tRow_fine _ _) rfl rfl, ?_⟩)
  simp only [runH, runX, go_sem, setCells, setIn]
  cases o
  case false =>
    rw [if_neg (by decide)] at hg
    subst hg
    (refine vw_cond (t := true) rfl (fun _ => ?_) (fun h => nomatch h))
    (refine vw_go rfl ?_; simp only [go_sem, setCells, setIn])
    exact vw_ret (r_block (r_then (r_then (r_block (r_then (e_ret (ret_b rfl rfl (by simp [RB]) rfl rfl ⟨⟨by simp, _, rfl, rfl, rfl, rfl⟩, trivial⟩)))))))
  rw [if_pos rfl] at hg
  (refine vw_cond (t := false) rfl (fun h => nomatch h) (fun _ => ?_))
  refine vw_skip (n_block (n_then ?_))
  (refine vw_last rfl ?_; simp only [w3, go_sem, setCells, setIn])
  refine (n_then ?_)
  rw [e6]
  refine ⟨(i + 1, m2, lg ++ [[]]), by simp only; omega, ⟨by simp only; omega, hg, hgl⟩, ?_⟩
  (refine norm_to [(1, 1), (4, 4)] rfl ?_ ?_ <;> simp only [go_sem])

theorem runs_82 (l : List ByteArray) (hl : l.length = 12) (hsz : ∀ s ∈ l, s.size ≤ 2 ^ 20) : ∀ (f k : Nat) (met : List Bool) (deep : Nat), met.length = 12 → k < 12 → f + deep = 5 →
    Runs Tryz.prog 82 [.one (.v (.list false 1 (l.map sRow))), .one (.v (.list true 1 (met.map tRow))), .one (.v (.int .i64 k)), .one (.v (.int .i64 deep))] [.one (.v (.bool (goS l f k met).1))] [(1, ⟨false, 1, (goS l f k met).2.map tRow, []⟩)]
  | 0, k, met, deep, hm, hk, hf => runs_go0 l hl hsz 0 k met deep hm hk hf (fun g e => by omega)
  | f + 1, k, met, deep, hm, hk, hf => runs_go0 l hl hsz (f + 1) k met deep hm hk hf (fun g e k met hm hk => by
      have e' : g = f := by omega
      subst e'
      exact runs_82 l hl hsz g k met (deep + 1) hm hk (by omega))
end Go.Proofs.YtoenfbbadfcfpaaGreatDoor
