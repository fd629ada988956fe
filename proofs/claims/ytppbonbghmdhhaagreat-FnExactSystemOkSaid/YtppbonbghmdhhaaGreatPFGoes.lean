/- Volumes: the reference goes through one. -/
import Derived.Test.YtppbonbghmdhhaaGreatPFGoer
import Derived.Test.YtppbonbghmdhhaaGreatPFCallB
namespace Go.Proofs.YtppbonbghmdhhaaGreat
open Go.VM Go
set_option maxRecDepth 100000
set_option linter.unusedSimpArgs false
set_option linter.unusedVariables false
attribute [local congr] vw_congr runV_congr runH_congr runW_congr runX_congr

/-- As the reference goes. -/
def goS (l : List ByteArray) : Nat → Nat → List Bool → Bool × List Bool
  | 0, _, met => (false, met)
  | f + 1, k, met =>
    if met.getD k false = true then (false, met)
    else if (nodeRead (l.getD k ⟨#[]⟩)).2 = true then goKids (goS l f) (nodeRead (l.getD k ⟨#[]⟩)).1.kids (met.set k true) else (false, met.set k true)
theorem goS_len (l : List ByteArray) : ∀ (f k : Nat) (m : List Bool), m.length = 12 → (goS l f k m).2.length = 12
  | 0, k, m, h => h
  | f + 1, k, m, h => by
    rw [goS]
    split
    · exact h
    · split
      · exact goKids_len (goS_len l f) _ _ (by rw [List.length_set]; exact h)
      · simp only [List.length_set]; exact h
/-- Both go alike from any other place than the first one, and from the first one where a folder stands there. -/
theorem goKids_same {g h : Nat → List Bool → Bool × List Bool} : ∀ (ys : List Int) (m : List Bool), (∀ y ∈ ys, ∀ m, (g y.toNat m).1 = (h y.toNat m).1 ∧ ((g y.toNat m).1 = true → (g y.toNat m).2 = (h y.toNat m).2)) →
    (goKids g ys m).1 = (goKids h ys m).1 ∧ ((goKids g ys m).1 = true → (goKids g ys m).2 = (goKids h ys m).2)
  | [], m, _ => ⟨rfl, fun _ => rfl⟩
  | y :: ys, m, hy => by
    obtain ⟨h1, h2⟩ := hy y (by simp) m
    rw [goKids, goKids]
    by_cases hg : (g y.toNat m).1 = true
    · rw [if_pos hg, if_pos (h1 ▸ hg), h2 hg]
      exact goKids_same ys _ (fun z hz => hy z (by simp [hz]))
    · rw [if_neg hg, if_neg (h1 ▸ hg)]
      exact ⟨rfl, fun h => nomatch h⟩
theorem go_same (l : List ByteArray) : ∀ (f k : Nat) (m : List Bool), ¬ (k = 0 ∧ (nodeRead (l.getD k ⟨#[]⟩)).1.dir = false) → (goI l f k m).1 = (goS l f k m).1 ∧ ((goI l f k m).1 = true → (goI l f k m).2 = (goS l f k m).2)
  | 0, k, m, _ => ⟨rfl, fun _ => rfl⟩
  | f + 1, k, m, hk => by
    rw [goI, goS]
    by_cases h1 : m.getD k false = true
    · rw [if_pos h1, if_neg (fun h => by rw [h.2.1] at h1; cases h1)]
      exact ⟨rfl, fun h => nomatch h⟩
    rw [if_neg h1]
    by_cases h2 : (nodeRead (l.getD k ⟨#[]⟩)).2 = true
    · rw [if_pos h2, if_pos ⟨h2, by simpa using h1, hk⟩]
      refine goKids_same _ _ (fun y hy m => go_same l f y.toNat m (fun h => ?_))
      have := (nodeOk_kids (nodeRead_ok h2)).1 y hy
      omega
    · rw [if_neg h2, if_neg (fun h => h2 h.1)]
      exact ⟨rfl, fun h => nomatch h⟩


structure GoFitS (b : Bool) (f : Nat) : Prop where
  new : b = false
  fuel : ¬ f = 0
theorem runs_go0 (l : List ByteArray) (hl : l.length = 12) (hsz : ∀ s ∈ l, s.size ≤ 2 ^ 20) (f : Nat) (k : Nat) (met : List Bool) (deep : Nat) (hm : met.length = 12) (hk : k < 12) (hf : f + deep = 5)
    (ih : ∀ g, f = g + 1 → ∀ (k : Nat) (met : List Bool), met.length = 12 → k < 12 → Runs Tryz.prog 147 [.one (.v (.list false 1 (l.map sRow))), .one (.v (.list true 1 (met.map tRow))), .one (.v (.int .i64 k)), .one (.v (.int .i64 ((deep + 1 : Nat) : Int)))] [.one (.v (.bool (goS l g k met).1))] [(1, ⟨false, 1, (goS l g k met).2.map tRow, []⟩)]) :
    Runs Tryz.prog 147 [.one (.v (.list false 1 (l.map sRow))), .one (.v (.list true 1 (met.map tRow))), .one (.v (.int .i64 k)), .one (.v (.int .i64 deep))] [.one (.v (.bool (goS l f k met).1))] [(1, ⟨false, 1, (goS l f k met).2.map tRow, []⟩)] := by
  refine runs_tabB (tab := [(0, .c (.list false 1 (l.map sRow))), (1, .al 1 [] 0 1 0 met.length), (2, .c (.int .i64 k)), (3, .c (.int .i64 deep))]) (rts := [(1, some ⟨false, 1, met.map tRow, []⟩)]) (n := 51) (k := 4) Tryz.func147 rfl rfl (by simp) rfl (fun t => ?_) rfl ?_
  · rcases t with _ | _ | _ | _ | t <;> simp [envOf, rvv, RT.vv, CT.vv, cvv, tabE_cons, tabE_nil, rcells, RT.cells]
  obtain ⟨s, hs⟩ : ∃ s, l[k]? = some s := ⟨_, List.getElem?_eq_getElem (by omega)⟩
  obtain ⟨b, hb⟩ : ∃ b, met[k]? = some b := ⟨_, List.getElem?_eq_getElem (by omega)⟩
  have rR := runs_146 s (hsz s (List.mem_of_getElem? hs)) _ rfl
  have hno : b = true ∨ f = 0 → goS l f k met = (false, met) := by
    intro h
    cases f with
    | zero => rfl
    | succ g =>
      rcases h with h | h
      · rw [goS, getD_of hb, if_pos h]
      · cases h
  have hyes : ∀ g, f = g + 1 → b = false → goS l f k met = (if (nodeRead s).2 = true then goKids (goS l g) (nodeRead s).1.kids (met.set k true) else (false, met.set k true)) := by
    rintro g rfl h
    rw [goS, getD_of hs, getD_of hb, if_neg (by rw [h]; decide)]
  have hkids : (nodeRead s).2 = true → ∀ y ∈ (nodeRead s).1.kids, 1 ≤ y ∧ y ≤ 11 := fun h => (nodeOk_kids (nodeRead_ok h)).1
  have hkl : (nodeRead s).2 = true → (nodeRead s).1.kids.length ≤ 11 := fun h => nodeOk_few (nodeRead_ok h)
  generalize goS l f k met = R at hno hyes ⊢
  generalize nodeRead s = r at rR hkids hkl hyes
  obtain ⟨n, ok⟩ := r
  simp only at rR hkids hkl hyes
  have c0 : (0:Int) ≤ (k : Int) := by omega
  have c1 : (k : Int) < (l.length : Int) := by omega
  have c2 : (k : Int) < (met.length : Int) := by omega
  have c3 : k < l.length := by omega
  have c4 : k < met.length := by omega
  have bn : List.take n.names.length (n.names.map sRow) = n.names.map sRow := List.take_of_length_le (by simp)
  have bk : List.take n.kids.length (n.kids.map nRow) = n.kids.map nRow := List.take_of_length_le (by simp)
  (refine vw_go rfl ?_; simp only [go_sem, setCells, setIn])
  refine vw_join (α := Unit) (fun _ => ⟨tabE [(0, .c (.list false 1 (l.map sRow))), (1, .al 1 [] 0 1 0 met.length), (2, .c (.int .i64 k)), (3, .c (.int .i64 deep))], tabS [(1, some ⟨false, 1, met.map tRow, []⟩)], 4⟩) (fun _ => GoFitS b f) ?_ ?_
  · cases b
    case true =>
      rw [hno (.inl rfl)]
      (refine vw_go rfl ?_; simp only [c0, c2, c4, Int.toNat_natCast, getD_map_of hb, tRow, go_sem, setCells, setIn])
      (refine vw_cond (t := true) rfl (fun _ => ?_) (fun h => nomatch h))
      (refine vw_go rfl ?_; simp only [go_sem, setCells, setIn])
      exact vw_ret (r_then (e_ret (ret_b rfl rfl (by simp [RB]) rfl rfl ⟨⟨by simp, _, rfl, rfl, rfl, rfl⟩, trivial⟩)))
    by_cases hf0 : f = 0
    · have hdp : (4 : Int) < (deep : Int) := by omega
      rw [hno (.inr hf0)]
      (refine vw_go rfl ?_; simp only [c0, c2, c4, Int.toNat_natCast, getD_map_of hb, tRow, hdp, go_sem, setCells, setIn])
      (refine vw_cond (t := true) rfl (fun _ => ?_) (fun h => nomatch h))
      (refine vw_go rfl ?_; simp only [go_sem, setCells, setIn])
      exact vw_ret (r_then (e_ret (ret_b rfl rfl (by simp [RB]) rfl rfl ⟨⟨by simp, _, rfl, rfl, rfl, rfl⟩, trivial⟩)))
    have hdp : ¬ (4 : Int) < (deep : Int) := by omega
    (refine vw_go rfl ?_; simp only [c0, c2, c4, Int.toNat_natCast, getD_map_of hb, tRow, hdp, go_sem, setCells, setIn])
    (refine vw_cond (t := false) rfl (fun h => nomatch h) (fun _ => ?_))
    refine vw_skip (n_then ⟨(), ⟨rfl, hf0⟩, ?_⟩)
    (refine norm_to [(1, 1)] rfl ?_ ?_ <;> simp only [go_sem])
  rintro _ ⟨rfl, hf0⟩
  obtain ⟨g, rfl⟩ : ∃ g, f = g + 1 := ⟨f - 1, by omega⟩
  have hR := hyes g rfl rfl
  clear hno hyes
  have e4 : (met.map tRow).set k [.bool true] = (met.set k true).map tRow := by rw [List.map_set]; rfl
  have e5 : met.length = (met.set k true).length := by simp
  have hm2 : (met.set k true).length = 12 := by rw [List.length_set]; exact hm
  (refine vw_go rfl ?_; simp only [c0, c2, c4, Int.toNat_natCast, getD_map_of hb, tRow, e4, go_sem, setCells, setIn])
  rw [e5]
  generalize met.set k true = met0 at hm2 hR ⊢
  (refine vw_go rfl ?_; simp only [c0, c1, c3, Int.toNat_natCast, getD_map_of hs, sRow, go_sem, setCells, setIn])
  (refine ⟨_, _, call_rx [0] Tryz.func146 (rR) rfl rfl rfl rfl rfl rfl rfl (by simp [lendAll, lendC, seek, fresh, nav, rcells, RT.cells, VV.cells, tabE_cons, tabS_cons, ev, take_map_len, sRow_r1, sRow_comp, sRow_clean, nRow_r1, nRow_comp, nRow_clean, tRow_r1, tRow_clean]) rfl (by simp [rcells, RT.cells, CT.clean, T.clean, sRow_r1, sRow_comp, sRow_clean, nRow_r1, nRow_comp, nRow_clean, tRow_r1, tRow_clean]) rfl rfl, ?_⟩)
  simp only [runH, runX, bn, bk, go_sem, setCells, setIn]
  refine vw_seq ?_
  (refine vw_go rfl ?_; simp only [go_sem, setCells, setIn])
  cases ok
  case false =>
    rw [if_neg (by decide)] at hR
    subst hR
    (refine vw_cond (t := true) rfl (fun _ => ?_) (fun h => nomatch h))
    (refine vw_go rfl ?_; simp only [go_sem, setCells, setIn])
    exact vw_ret (r_then (e_ret (ret_b rfl rfl (by simp [RB]) rfl rfl ⟨⟨by simp, _, rfl, rfl, rfl, rfl⟩, trivial⟩)))
  rw [if_pos rfl] at hR
  have hkids := hkids rfl
  have hkl := hkl rfl
  (refine vw_cond (t := false) rfl (fun h => nomatch h) (fun _ => ?_))
  refine vw_skip (n_then ?_)
  refine vw_seq ?_
  (refine vw_go rfl ?_; simp only [go_sem, setCells, setIn])
  refine vw_block ?_
  refine vw_loop_tab (α := Nat × List Bool × List Path) (fun x => n.kids.length - x.1) (fun x => ⟨tabE [(0, .c (.list false 1 (l.map sRow))), (1, .al 1 [] 0 1 0 x.2.1.length), (3, .c (.int .i64 deep)), (9, .ptr 4 [] 0 0 0), (11, .c (.int .i64 x.1))],
      tabS [(1, some ⟨false, 1, x.2.1.map tRow, x.2.2⟩), (4, some ⟨true, 4, [[.bool n.dir, .list true 1 (n.names.map sRow), .list true 1 (n.kids.map nRow), .str n.data]], [[(0, 1)], [(0, 2)]]⟩)], 5⟩)
    (fun x => x.1 ≤ n.kids.length ∧ goKids (goS l g) (n.kids.drop x.1) x.2.1 = R ∧ x.2.1.length = 12) (x := (0, met0, [])) ?round ?h0 ?hn
  case h0 => exact ⟨Nat.zero_le _, hR.symm, hm2⟩
  case hn =>
    (refine norm_to [(1, 1), (73732, 4)] rfl ?_ ?_ <;> simp only [go_sem])
  rintro ⟨i, m, lg⟩ ⟨hi, hg, hm3⟩
  simp only at hi hg hm3
  refine vw_seq ?_
  by_cases hc : (i : Int) < n.kids.length
  case neg =>
    rw [List.drop_eq_nil_of_le (by omega), goKids] at hg
    subst hg
    (refine vw_go rfl ?_; simp only [hc, List.drop_length, go_sem, setCells, setIn])
    (refine vw_cond (t := false) rfl (fun h => nomatch h) (fun _ => ?_))
    refine vw_exit (x_then (x_then (x_block (n_then ?_))))
    (refine vw_go rfl ?_; simp only [go_sem, setCells, setIn])
    exact vw_ret (e_ret (ret_b rfl rfl (by simp [RB]) rfl rfl ⟨⟨by simp, _, rfl, rfl, rfl, rfl⟩, trivial⟩))
  obtain ⟨y, hy⟩ : ∃ y, n.kids[i]? = some y := ⟨_, List.getElem?_eq_getElem (by omega)⟩
  have hdr : n.kids.drop i = y :: n.kids.drop (i + 1) := by
    rw [List.drop_eq_getElem_cons (by omega)]
    congr 1
    rw [List.getElem?_eq_getElem (by omega)] at hy
    exact Option.some.inj hy
  have hyr := hkids y (List.mem_of_getElem? hy)
  obtain ⟨q, rfl⟩ : ∃ q : Nat, y = q := ⟨y.toNat, by omega⟩
  rw [hdr, goKids, Int.toNat_natCast] at hg
  have rI := ih g rfl q m hm3 (by omega)
  have hgl := goS_len l g q m hm3
  generalize goS l g q m = o at rI hg hgl
  obtain ⟨o, m2⟩ := o
  simp only at rI hg hgl
  have d0 : (0:Int) ≤ (i : Int) := by omega
  have w3 : IntKind.wrap .i64 ((i:Int) + 1) = ((i + 1 : Nat) : Int) := by rw [wrap_i64 (by omega) (by omega)]; rfl
  have w4 : IntKind.wrap .i64 ((deep:Int) + 1) = ((deep + 1 : Nat) : Int) := by rw [wrap_i64 (by omega) (by omega)]; rfl
  have hin : i < n.kids.length := by omega
  have e6 : m.length = m2.length := by omega
  (refine vw_go rfl ?_; simp only [hc, List.drop_length, go_sem, setCells, setIn])
  (refine vw_cond (t := true) rfl (fun _ => ?_) (fun h => nomatch h))
  refine vw_skip (n_then ?_)
  refine vw_seq ?_
  refine vw_block ?_
  (refine vw_go rfl ?_; simp only [d0, hc, hin, Int.toNat_natCast, getD_map_of hy, nRow, List.drop_length, w4, go_sem, setCells, setIn])
  (refine ⟨_, _, call_b1 [0, 0, 0, 0] 1 Tryz.func147 (rI) rfl rfl rfl rfl rfl rfl rfl rfl rfl (by simp) (by simp [lendAll, lendC, seek, fresh, nav, rcells, RT.cells, VV.cells, tabE_cons, tabS_cons, St.put, ev, lit, take_map_len, sRow_r1]) rfl rfl (by simp [rcells, RT.cells, CT.fine, T.fine, sRow_r1]) (by exact tRow_fine _ _) rfl rfl, ?_⟩)
  simp only [runH, runX, go_sem, setCells, setIn]
  cases o
  case false =>
    rw [if_neg (by decide)] at hg
    subst hg
    (refine vw_cond (t := true) rfl (fun _ => ?_) (fun h => nomatch h))
    (refine vw_go rfl ?_; simp only [go_sem, setCells, setIn])
    exact vw_ret (r_block (r_then (r_then (r_block (r_then (e_ret (ret_b rfl rfl (by simp [RB]) rfl rfl ⟨⟨by simp, _, rfl, rfl, rfl, rfl⟩, trivial⟩)))))))
  rw [if_pos rfl] at hg
  (refine vw_cond (t := false) rfl (fun h => nomatch h) (fun _ => ?_))
  refine vw_skip (n_block (n_then ?_))
  (refine vw_last rfl ?_; simp only [w3, go_sem, setCells, setIn])
  refine (n_then ?_)
  rw [e6]
  refine ⟨(i + 1, m2, lg ++ [[]]), by simp only; omega, ⟨by simp only; omega, hg, hgl⟩, ?_⟩
  (refine norm_to [(1, 1), (4, 4)] rfl ?_ ?_ <;> simp only [go_sem])

theorem runs_147 (l : List ByteArray) (hl : l.length = 12) (hsz : ∀ s ∈ l, s.size ≤ 2 ^ 20) : ∀ (f k : Nat) (met : List Bool) (deep : Nat), met.length = 12 → k < 12 → f + deep = 5 →
    Runs Tryz.prog 147 [.one (.v (.list false 1 (l.map sRow))), .one (.v (.list true 1 (met.map tRow))), .one (.v (.int .i64 k)), .one (.v (.int .i64 deep))] [.one (.v (.bool (goS l f k met).1))] [(1, ⟨false, 1, (goS l f k met).2.map tRow, []⟩)]
  | 0, k, met, deep, hm, hk, hf => runs_go0 l hl hsz 0 k met deep hm hk hf (fun g e => by omega)
  | f + 1, k, met, deep, hm, hk, hf => runs_go0 l hl hsz (f + 1) k met deep hm hk hf (fun g e k met hm hk => by
      have e' : g = f := by omega
      subst e'
      exact runs_147 l hl hsz g k met (deep + 1) hm hk (by omega))
end Go.Proofs.YtppbonbghmdhhaaGreat
