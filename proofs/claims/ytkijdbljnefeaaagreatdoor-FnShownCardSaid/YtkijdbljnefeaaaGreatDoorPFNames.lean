/- Volumes: the reference goes through one. Volumes: VolumeOk of both. Calls of the two functions of the library that have no body: the count of a byte, the place of a byte. Names of a path: the specification's loop. -/
import Derived.Test.YtkijdbljnefeaaaGreatDoorPFCallB
import Derived.Test.YtkijdbljnefeaaaGreatDoorPFIn
import Derived.Laws.Externs
import Derived.Lib.Bytealg
import Derived.Test.YtkijdbljnefeaaaGreatDoorPFName
import Derived.Test.YtkijdbljnefeaaaGreatDoorPFOp
import Derived.Lib.IndexLaws
set_option linter.unusedSimpArgs false
set_option linter.unusedVariables false
namespace Go.Proofs.YtkijdbljnefeaaaGreatDoor
open Go.VM Go
set_option maxRecDepth 100000
attribute [local congr] vw_congr runV_congr runH_congr runW_congr runX_congr stuckV_congr stuckX_congr
/-- As the reference goes. -/
def goS (l : List ByteArray) : Nat → Nat → List Bool → Bool × List Bool
  | 0, _, met => (false, met)
  | f + 1, k, met =>
    if met.getD k false = true then (false, met)
    else if (nodeRead (l.getD k ⟨#[]⟩)).2 = true then goKids (goS l f) (nodeRead (l.getD k ⟨#[]⟩)).1.kids (met.set k true) else (false, met.set k true)
theorem goS_len (l : List ByteArray) : ∀ (f k : Nat) (m : List Bool), m.length = 12 → (goS l f k m).2.length = 12
  | 0, k, m, h => h
  | f + 1, k, m, h => by
    rw [goS]
    split
    · exact h
    · split
      · exact goKids_len (goS_len l f) _ _ (by rw [List.length_set]; exact h)
      · simp only [List.length_set]; exact h
/-- Both go alike from any other place than the first one, and from the first one where a folder stands there. -/
theorem goKids_same {g h : Nat → List Bool → Bool × List Bool} : ∀ (ys : List Int) (m : List Bool), (∀ y ∈ ys, ∀ m, (g y.toNat m).1 = (h y.toNat m).1 ∧ ((g y.toNat m).1 = true → (g y.toNat m).2 = (h y.toNat m).2)) →
    (goKids g ys m).1 = (goKids h ys m).1 ∧ ((goKids g ys m).1 = true → (goKids g ys m).2 = (goKids h ys m).2)
  | [], m, _ => ⟨rfl, fun _ => rfl⟩
  | y :: ys, m, hy => by
    obtain ⟨h1, h2⟩ := hy y (by simp) m
    rw [goKids, goKids]
    by_cases hg : (g y.toNat m).1 = true
    · rw [if_pos hg, if_pos (h1 ▸ hg), h2 hg]
      exact goKids_same ys _ (fun z hz => hy z (by simp [hz]))
    · rw [if_neg hg, if_neg (h1 ▸ hg)]
      exact ⟨rfl, fun h => nomatch h⟩
theorem go_same (l : List ByteArray) : ∀ (f k : Nat) (m : List Bool), ¬ (k = 0 ∧ (nodeRead (l.getD k ⟨#[]⟩)).1.dir = false) → (goI l f k m).1 = (goS l f k m).1 ∧ ((goI l f k m).1 = true → (goI l f k m).2 = (goS l f k m).2)
  | 0, k, m, _ => ⟨rfl, fun _ => rfl⟩
  | f + 1, k, m, hk => by
    rw [goI, goS]
    by_cases h1 : m.getD k false = true
    · rw [if_pos h1, if_neg (fun h => by rw [h.2.1] at h1; cases h1)]
      exact ⟨rfl, fun h => nomatch h⟩
    rw [if_neg h1]
    by_cases h2 : (nodeRead (l.getD k ⟨#[]⟩)).2 = true
    · rw [if_pos h2, if_pos ⟨h2, by simpa using h1, hk⟩]
      refine goKids_same _ _ (fun y hy m => go_same l f y.toNat m (fun h => ?_))
      have := (nodeOk_kids (nodeRead_ok h2)).1 y hy
      omega
    · rw [if_neg h2, if_neg (fun h => h2 h.1)]
      exact ⟨rfl, fun h => nomatch h⟩
structure GoFitS (b : Bool) (f : Nat) : Prop where
  new : b = false
  fuel : ¬ f = 0
theorem runs_go0 (l : List ByteArray) (hl : l.length = 12) (hsz : ∀ s ∈ l, s.size ≤ 2 ^ 20) (f : Nat) (k : Nat) (met : List Bool) (deep : Nat) (hm : met.length = 12) (hk : k < 12) (hf : f + deep = 5)
    (ih : ∀ g, f = g + 1 → ∀ (k : Nat) (met : List Bool), met.length = 12 → k < 12 → Runs Tryz.prog 86 [.one (.v (.list false 1 (l.map sRow))), .one (.v (.list true 1 (met.map tRow))), .one (.v (.int .i64 k)), .one (.v (.int .i64 ((deep + 1 : Nat) : Int)))] [.one (.v (.bool (goS l g k met).1))] [(1, ⟨false, 1, (goS l g k met).2.map tRow, []⟩)]) :
    Runs Tryz.prog 86 [.one (.v (.list false 1 (l.map sRow))), .one (.v (.list true 1 (met.map tRow))), .one (.v (.int .i64 k)), .one (.v (.int .i64 deep))] [.one (.v (.bool (goS l f k met).1))] [(1, ⟨false, 1, (goS l f k met).2.map tRow, []⟩)] := by
  refine runs_tabB (tab := [(0, .c (.list false 1 (l.map sRow))), (1, .al 1 [] 0 1 0 met.length), (2, .c (.int .i64 k)), (3, .c (.int .i64 deep))]) (rts := [(1, some ⟨false, 1, met.map tRow, []⟩)]) (n := 51) (k := 4) Tryz.func86 rfl rfl (by simp) rfl (fun t => ?_) rfl ?_
  · rcases t with _ | _ | _ | _ | t <;> simp [envOf,rvv,RT.vv,CT.vv,cvv,tabE_cons,tabE_nil,rcells,RT.cells]
  obtain ⟨s, hs⟩ : ∃ s, l[k]? = some s := ⟨_, List.getElem?_eq_getElem (by omega)⟩
  obtain ⟨b, hb⟩ : ∃ b, met[k]? = some b := ⟨_, List.getElem?_eq_getElem (by omega)⟩
  have rR := runs_85 s (hsz s (List.mem_of_getElem? hs)) _ rfl
  have hno : b = true ∨ f = 0 → goS l f k met = (false, met) := by
    intro h
    cases f with
    | zero => rfl
    | succ g =>
      rcases h with h | h
      · rw [goS, getD_of hb, if_pos h]
      · cases h
  have hyes : ∀ g, f = g + 1 → b = false → goS l f k met = (if (nodeRead s).2 = true then goKids (goS l g) (nodeRead s).1.kids (met.set k true) else (false, met.set k true)) := by
    rintro g rfl h
    rw [goS, getD_of hs, getD_of hb, if_neg (by rw [h]; decide)]
  have hkids : (nodeRead s).2 = true → ∀ y ∈ (nodeRead s).1.kids, 1 ≤ y ∧ y ≤ 11 := fun h => (nodeOk_kids (nodeRead_ok h)).1
  have hkl : (nodeRead s).2 = true → (nodeRead s).1.kids.length ≤ 11 := fun h => nodeOk_few (nodeRead_ok h)
  generalize goS l f k met = R at hno hyes ⊢
  generalize nodeRead s = r at rR hkids hkl hyes
  obtain ⟨n, ok⟩ := r
  simp only at rR hkids hkl hyes
  have c0 : (0:Int) ≤ (k : Int) := by omega
  have c1 : (k : Int) < (l.length : Int) := by omega
  have c2 : (k : Int) < (met.length : Int) := by omega
  have c3 : k < l.length := by omega
  have c4 : k < met.length := by omega
  have bn : List.take n.names.length (n.names.map sRow) = n.names.map sRow := List.take_of_length_le (by simp)
  have bk : List.take n.kids.length (n.kids.map nRow) = n.kids.map nRow := List.take_of_length_le (by simp)
  refine vw_go rfl ?_; simp only [go_sem,setCells,setIn]
  refine vw_join (α := Unit) (fun _ => ⟨tabE [(0, .c (.list false 1 (l.map sRow))), (1, .al 1 [] 0 1 0 met.length), (2, .c (.int .i64 k)), (3, .c (.int .i64 deep))], tabS [(1, some ⟨false, 1, met.map tRow, []⟩)], 4⟩) (fun _ => GoFitS b f) ?_ ?_
  · cases b
    case true =>
      rw [hno (.inl rfl)]
      refine vw_go rfl ?_; simp only [c0,c2,c4,Int.toNat_natCast,getD_map_of hb,tRow,go_sem,setCells,setIn]
      refine vw_cond (t := true) rfl (fun _ => ?_) (fun h => nomatch h)
      refine vw_go rfl ?_; simp only [go_sem,setCells,setIn]
      exact vw_ret (r_then (e_ret (ret_b rfl rfl (by simp [RB]) rfl rfl ⟨⟨by simp, _, rfl, rfl, rfl, rfl⟩, trivial⟩)))
    by_cases hf0 : f = 0
    · have hdp : (4 : Int) < (deep : Int) := by omega
      rw [hno (.inr hf0)]
      refine vw_go rfl ?_; simp only [c0,c2,c4,Int.toNat_natCast,getD_map_of hb,tRow,hdp,go_sem,setCells,setIn]
      refine vw_cond (t := true) rfl (fun _ => ?_) (fun h => nomatch h)
      refine vw_go rfl ?_; simp only [go_sem,setCells,setIn]
      exact vw_ret (r_then (e_ret (ret_b rfl rfl (by simp [RB]) rfl rfl ⟨⟨by simp, _, rfl, rfl, rfl, rfl⟩, trivial⟩)))
    have hdp : ¬ (4 : Int) < (deep : Int) := by omega
    refine vw_go rfl ?_; simp only [c0,c2,c4,Int.toNat_natCast,getD_map_of hb,tRow,hdp,go_sem,setCells,setIn]
    refine vw_cond (t := false) rfl (fun h => nomatch h) (fun _ => ?_)
    refine vw_skip (n_then ⟨(), ⟨rfl, hf0⟩, ?_⟩)
    refine norm_to [(1, 1)] rfl ?_ ?_ <;> simp only [go_sem]
  rintro _ ⟨rfl, hf0⟩
  obtain ⟨g, rfl⟩ : ∃ g, f = g + 1 := ⟨f - 1, by omega⟩
  have hR := hyes g rfl rfl
  clear hno hyes
  have e4 : (met.map tRow).set k [.bool true] = (met.set k true).map tRow := by rw [List.map_set]; rfl
  have e5 : met.length = (met.set k true).length := by simp
  have hm2 : (met.set k true).length = 12 := by rw [List.length_set]; exact hm
  refine vw_go rfl ?_; simp only [c0,c2,c4,Int.toNat_natCast,getD_map_of hb,tRow,e4,go_sem,setCells,setIn]
  rw [e5]
  generalize met.set k true = met0 at hm2 hR ⊢
  refine vw_go rfl ?_; simp only [c0,c1,c3,Int.toNat_natCast,getD_map_of hs,sRow,go_sem,setCells,setIn]
  refine ⟨_, _, call_rx [0] Tryz.func85 (rR) rfl rfl rfl rfl rfl rfl rfl (by simp [lendAll,lendC,seek,fresh,nav,rcells,RT.cells,VV.cells,tabE_cons,tabS_cons,ev,take_map_len,sRow_r1,sRow_comp,sRow_clean,nRow_r1,nRow_comp,nRow_clean,tRow_r1,tRow_clean]) rfl (by simp [rcells,RT.cells,CT.clean,T.clean,sRow_r1,sRow_comp,sRow_clean,nRow_r1,nRow_comp,nRow_clean,tRow_r1,tRow_clean]) rfl rfl, ?_⟩
  simp only [runH,runX,bn,bk,go_sem,setCells,setIn]
  refine vw_seq ?_
  refine vw_go rfl ?_; simp only [go_sem,setCells,setIn]
  cases ok
  case false =>
    rw [if_neg (by decide)] at hR
    subst hR
    refine vw_cond (t := true) rfl (fun _ => ?_) (fun h => nomatch h)
    refine vw_go rfl ?_; simp only [go_sem,setCells,setIn]
    exact vw_ret (r_then (e_ret (ret_b rfl rfl (by simp [RB]) rfl rfl ⟨⟨by simp, _, rfl, rfl, rfl, rfl⟩, trivial⟩)))
  rw [if_pos rfl] at hR
  have hkids := hkids rfl
  have hkl := hkl rfl
  refine vw_cond (t := false) rfl (fun h => nomatch h) (fun _ => ?_)
  refine vw_skip (n_then ?_)
  refine vw_seq ?_
  refine vw_go rfl ?_; simp only [go_sem,setCells,setIn]
  refine vw_block ?_
  refine vw_loop_tab (α := Nat × List Bool × List Path) (fun x => n.kids.length - x.1) (fun x => ⟨tabE [(0, .c (.list false 1 (l.map sRow))), (1, .al 1 [] 0 1 0 x.2.1.length), (3, .c (.int .i64 deep)), (9, .ptr 4 [] 0 0 0), (11, .c (.int .i64 x.1))],
      tabS [(1, some ⟨false, 1, x.2.1.map tRow, x.2.2⟩), (4, some ⟨true, 4, [[.bool n.dir, .list true 1 (n.names.map sRow), .list true 1 (n.kids.map nRow), .str n.data]], [[(0, 1)], [(0, 2)]]⟩)], 5⟩)
    (fun x => x.1 ≤ n.kids.length ∧ goKids (goS l g) (n.kids.drop x.1) x.2.1 = R ∧ x.2.1.length = 12) (x := (0, met0, [])) ?round ?h0 ?hn
  case h0 => exact ⟨Nat.zero_le _, hR.symm, hm2⟩
  case hn =>
    refine norm_to [(1, 1), (73732, 4)] rfl ?_ ?_ <;> simp only [go_sem]
  rintro ⟨i, m, lg⟩ ⟨hi, hg, hm3⟩
  simp only at hi hg hm3
  refine vw_seq ?_
  by_cases hc : (i : Int) < n.kids.length
  case neg =>
    rw [List.drop_eq_nil_of_le (by omega), goKids] at hg
    subst hg
    refine vw_go rfl ?_; simp only [hc,List.drop_length,go_sem,setCells,setIn]
    refine vw_cond (t := false) rfl (fun h => nomatch h) (fun _ => ?_)
    refine vw_exit (x_then (x_then (x_block (n_then ?_))))
    refine vw_go rfl ?_; simp only [go_sem,setCells,setIn]
    exact vw_ret (e_ret (ret_b rfl rfl (by simp [RB]) rfl rfl ⟨⟨by simp, _, rfl, rfl, rfl, rfl⟩, trivial⟩))
  obtain ⟨y, hy⟩ : ∃ y, n.kids[i]? = some y := ⟨_, List.getElem?_eq_getElem (by omega)⟩
  have hdr : n.kids.drop i = y :: n.kids.drop (i + 1) := by
    rw [List.drop_eq_getElem_cons (by omega)]
    congr 1
    rw [List.getElem?_eq_getElem (by omega)] at hy
    exact Option.some.inj hy
  have hyr := hkids y (List.mem_of_getElem? hy)
  obtain ⟨q, rfl⟩ : ∃ q : Nat, y = q := ⟨y.toNat, by omega⟩
  rw [hdr, goKids, Int.toNat_natCast] at hg
  have rI := ih g rfl q m hm3 (by omega)
  have hgl := goS_len l g q m hm3
  generalize goS l g q m = o at rI hg hgl
  obtain ⟨o, m2⟩ := o
  simp only at rI hg hgl
  have d0 : (0:Int) ≤ (i : Int) := by omega
  have w3 : IntKind.wrap .i64 ((i:Int) + 1) = ((i + 1 : Nat) : Int) := by rw [wrap_i64 (by omega) (by omega)]; rfl
  have w4 : IntKind.wrap .i64 ((deep:Int) + 1) = ((deep + 1 : Nat) : Int) := by rw [wrap_i64 (by omega) (by omega)]; rfl
  have hin : i < n.kids.length := by omega
  have e6 : m.length = m2.length := by omega
  refine vw_go rfl ?_; simp only [hc,List.drop_length,go_sem,setCells,setIn]
  refine vw_cond (t := true) rfl (fun _ => ?_) (fun h => nomatch h)
  refine vw_skip (n_then ?_)
  refine vw_seq ?_
  refine vw_block ?_
  refine vw_go rfl ?_; simp only [d0,hc,hin,Int.toNat_natCast,getD_map_of hy,nRow,List.drop_length,w4,go_sem,setCells,setIn]
  refine ⟨_, _, call_b1 [0, 0, 0, 0] 1 Tryz.func86 (rI) rfl rfl rfl rfl rfl rfl rfl rfl rfl (by simp) (by simp [lendAll,lendC,seek,fresh,nav,rcells,RT.cells,VV.cells,tabE_cons,tabS_cons,St.put,ev,lit,take_map_len,sRow_r1]) rfl rfl (by simp [rcells,RT.cells,CT.fine,T.fine,sRow_r1]) (by exact tRow_fine _ _) rfl rfl, ?_⟩
  simp only [runH,runX,go_sem,setCells,setIn]
  cases o
  case false =>
    rw [if_neg (by decide)] at hg
    subst hg
    refine vw_cond (t := true) rfl (fun _ => ?_) (fun h => nomatch h)
    refine vw_go rfl ?_; simp only [go_sem,setCells,setIn]
    exact vw_ret (r_block (r_then (r_then (r_block (r_then (e_ret (ret_b rfl rfl (by simp [RB]) rfl rfl ⟨⟨by simp, _, rfl, rfl, rfl, rfl⟩, trivial⟩)))))))
  rw [if_pos rfl] at hg
  refine vw_cond (t := false) rfl (fun h => nomatch h) (fun _ => ?_)
  refine vw_skip (n_block (n_then ?_))
  refine vw_last rfl ?_; simp only [w3,go_sem,setCells,setIn]
  refine (n_then ?_)
  rw [e6]
  refine ⟨(i + 1, m2, lg ++ [[]]), by simp only; omega, ⟨by simp only; omega, hg, hgl⟩, ?_⟩
  refine norm_to [(1, 1), (4, 4)] rfl ?_ ?_ <;> simp only [go_sem]
theorem runs_86 (l : List ByteArray) (hl : l.length = 12) (hsz : ∀ s ∈ l, s.size ≤ 2 ^ 20) : ∀ (f k : Nat) (met : List Bool) (deep : Nat), met.length = 12 → k < 12 → f + deep = 5 →
    Runs Tryz.prog 86 [.one (.v (.list false 1 (l.map sRow))), .one (.v (.list true 1 (met.map tRow))), .one (.v (.int .i64 k)), .one (.v (.int .i64 deep))] [.one (.v (.bool (goS l f k met).1))] [(1, ⟨false, 1, (goS l f k met).2.map tRow, []⟩)]
  | 0, k, met, deep, hm, hk, hf => runs_go0 l hl hsz 0 k met deep hm hk hf (fun g e => by omega)
  | f + 1, k, met, deep, hm, hk, hf => runs_go0 l hl hsz (f + 1) k met deep hm hk hf (fun g e k met hm hk => by
      have e' : g = f := by omega
      subst e'
      exact runs_86 l hl hsz g k met (deep + 1) hm hk (by omega))
end Go.Proofs.YtkijdbljnefeaaaGreatDoor
namespace Go.Proofs.YtkijdbljnefeaaaGreatDoor
open Go.VM Go
set_option maxRecDepth 100000
attribute [local congr] vw_congr runV_congr runH_congr runW_congr runX_congr stuckV_congr stuckX_congr
def met0 : List Bool := List.replicate 12 false
@[simp] theorem met0_len : met0.length = 12 := rfl
def volOk (l : List ByteArray) : Bool := decide (l.length = 12) && ((goI l 5 0 met0).1 && (List.range 12).all (fun k => decide (l.getD k ⟨#[]⟩ = ⟨#[]⟩) || (goI l 5 0 met0).2.getD k false))
theorem volOk_no {l : List ByteArray} (h : ¬ l.length = 12) : volOk l = false := by unfold volOk; rw [decide_eq_false h]; rfl
theorem volOk_go {l : List ByteArray} (h : (goI l 5 0 met0).1 = false) : volOk l = false := by unfold volOk; rw [h, Bool.false_and, Bool.and_false]
theorem volOk_bad {l : List ByteArray} {k : Nat} (hk : k < 12) (h : (decide (l.getD k ⟨#[]⟩ = ⟨#[]⟩) || (goI l 5 0 met0).2.getD k false) = false) : volOk l = false := by
  have : (List.range 12).all (fun k => decide (l.getD k ⟨#[]⟩ = ⟨#[]⟩) || (goI l 5 0 met0).2.getD k false) = false := by
    rw [List.all_eq_false]
    exact ⟨k, List.mem_range.2 hk, by rw [h]; decide⟩
  unfold volOk
  rw [this, Bool.and_false, Bool.and_false]
theorem volOk_yes {l : List ByteArray} (hl : l.length = 12) (hg : (goI l 5 0 met0).1 = true) (h : ∀ k, k < 12 → (decide (l.getD k ⟨#[]⟩ = ⟨#[]⟩) || (goI l 5 0 met0).2.getD k false) = true) : volOk l = true := by
  unfold volOk
  rw [decide_eq_true hl, hg, Bool.true_and, Bool.true_and, List.all_eq_true]
  exact fun k hk => h k (List.mem_range.1 hk)
structure RootFit (n : NodeV) (ok r : Bool) : Prop where
  ok : ok = true
  dir : n.dir = true
  go : r = true
set_option maxHeartbeats 1000000 in
theorem runs_58 (l : List ByteArray) (hl63 : l.length < 2 ^ 60) (hsz : ∀ s ∈ l, s.size ≤ 2 ^ 20) :
    Runs Tryz.prog 58 [.one (.v (.list false 1 (l.map sRow)))] [.one (.v (.bool (volOk l)))] [] := by
  refine runs_tab (tab := [(0, .c (.list false 1 (l.map sRow)))]) (rts := []) (n := 47) (k := 1) Tryz.func58 rfl rfl (by simp) rfl (fun t => ?_) rfl ?_
  · rcases t with _ | t <;> rfl
  refine vw_go rfl ?_; simp only [go_sem,setCells,setIn]
  refine vw_seq ?_
  by_cases hl : l.length = 12
  case neg =>
    have hi : ¬ (l.length : Int) = 12 := by omega
    rw [volOk_no hl]
    refine vw_go rfl ?_; simp only [hi,go_sem,setCells,setIn]
    refine vw_cond (t := true) rfl (fun _ => ?_) (fun h => nomatch h)
    refine vw_go rfl ?_; simp only [go_sem,setCells,setIn]
    exact vw_ret (r_then (e_ret (ret_of rfl rfl (by simp [RB]) rfl rfl)))
  have hi : (l.length : Int) = 12 := by omega
  refine vw_go rfl ?_; simp only [hi,go_sem,setCells,setIn]
  refine vw_cond (t := false) rfl (fun h => nomatch h) (fun _ => ?_)
  refine vw_skip (n_then ?_)
  obtain ⟨s, hs⟩ : ∃ s, l[0]? = some s := ⟨_, List.getElem?_eq_getElem (by omega)⟩
  have rR := runs_85 s (hsz s (List.mem_of_getElem? hs)) _ rfl
  have rG := runs_86 l hl hsz 5 0 met0 0 rfl (by decide) rfl
  have hml := goI_len l 5 0 met0 rfl
  have hml2 := goS_len l 5 0 met0 rfl
  have hzero : ((nodeRead s).2 = false ∨ (nodeRead s).1.dir = false) → (goI l 5 0 met0).1 = false := by
    intro h
    rw [goI, getD_of hs, if_neg]
    rintro ⟨h1, _, h2⟩
    rcases h with h | h
    · rw [h1] at h; cases h
    · exact h2 ⟨rfl, h⟩
  have hsame : (nodeRead s).1.dir = true → (goI l 5 0 met0).1 = (goS l 5 0 met0).1 ∧ ((goI l 5 0 met0).1 = true → (goI l 5 0 met0).2 = (goS l 5 0 met0).2) := by
    intro h
    refine go_same l 5 0 met0 ?_
    rw [getD_of hs]
    rintro ⟨_, h2⟩
    rw [h] at h2; cases h2
  have hno : (goI l 5 0 met0).1 = false → volOk l = false := volOk_go
  have hbad : ∀ k, k < 12 → (decide (l.getD k ⟨#[]⟩ = ⟨#[]⟩) || (goI l 5 0 met0).2.getD k false) = false → volOk l = false := fun k hk h => volOk_bad hk h
  have hyes := fun h1 h2 => volOk_yes (l := l) hl h1 h2
  generalize goI l 5 0 met0 = r at hml hzero hsame hno hbad hyes
  generalize goS l 5 0 met0 = r2 at hml2 rG hsame
  generalize nodeRead s = nr at rR hzero hsame
  obtain ⟨n, ok⟩ := nr
  obtain ⟨r, m⟩ := r
  obtain ⟨q, m2⟩ := r2
  simp only at rR rG hml hml2 hzero hsame hno hbad hyes
  have hm0 : List.replicate 12 [T.bool false] = met0.map tRow := rfl
  have g2 : (12 : Int) * (((1 : Nat) : Int) + 1) ≤ (bigRow : Int) := by simp only [bigRow]; omega
  have g3 : (0:Int) < 12 := by decide
  have g4 : 0 < l.length := by omega
  have hm1 : List.take 12 (met0.map tRow) = met0.map tRow := rfl
  have bn : List.take n.names.length (n.names.map sRow) = n.names.map sRow := List.take_of_length_le (by simp)
  have bk : List.take n.kids.length (n.kids.map nRow) = n.kids.map nRow := List.take_of_length_le (by simp)
  refine vw_go rfl ?_; simp only [hi,g3,g4,Int.reduceToNat,getD_map_of hs,sRow,go_sem,setCells,setIn]
  refine ⟨_, _, call_rx [0] Tryz.func85 (rR) rfl rfl rfl rfl rfl rfl rfl (by simp [lendAll,lendC,seek,fresh,nav,rcells,RT.cells,VV.cells,tabE_cons,tabS_cons,ev,take_map_len,sRow_r1,sRow_comp,sRow_clean,nRow_r1,nRow_comp,nRow_clean,tRow_r1,tRow_clean]) rfl (by simp [rcells,RT.cells,CT.clean,T.clean,sRow_r1,sRow_comp,sRow_clean,nRow_r1,nRow_comp,nRow_clean,tRow_r1,tRow_clean]) rfl rfl, ?_⟩
  simp only [runH,runX,bn,bk,go_sem,setCells,setIn]
  refine vw_go rfl ?_; simp only [g2,hm0,go_sem,setCells,setIn]
  refine vw_join (α := Unit) (fun _ => ⟨tabE [(0, .c (.list false 1 (l.map sRow))), (5, .al 1 [] 0 1 0 12)], tabS [(1, some ⟨false, 1, m2.map tRow, [[]]⟩)], 2⟩) (fun _ => RootFit n ok q) ?_ ?_
  · cases ok
    case false =>
      rw [hno (hzero (.inl rfl))]
      refine vw_go rfl ?_; simp only [go_sem,setCells,setIn]
      refine vw_cond (t := true) rfl (fun _ => ?_) (fun h => nomatch h)
      refine vw_go rfl ?_; simp only [go_sem,setCells,setIn]
      exact vw_ret (r_then (e_ret (ret_of rfl rfl (by simp [RB]) rfl rfl)))
    cases hd : n.dir
    · rw [hno (hzero (.inr hd))]
      refine vw_go rfl ?_; simp only [hd,go_sem,setCells,setIn]
      refine vw_cond (t := true) rfl (fun _ => ?_) (fun h => nomatch h)
      refine vw_go rfl ?_; simp only [go_sem,setCells,setIn]
      exact vw_ret (r_then (e_ret (ret_of rfl rfl (by simp [RB]) rfl rfl)))
    refine vw_go rfl ?_; simp only [hd,go_sem,setCells,setIn]
    refine ⟨_, _, call_b1 [0, 0, 0, 0] 196609 Tryz.func86 (rG) rfl rfl rfl rfl rfl rfl rfl rfl rfl (by simp) (by simp [lendAll,lendC,seek,fresh,nav,rcells,RT.cells,VV.cells,tabE_cons,tabS_cons,St.put,ev,lit,take_map_len,sRow_r1,hm1]) rfl rfl (by simp [rcells,RT.cells,CT.fine,T.fine,sRow_r1,hm1]) (by exact tRow_fine _ _) rfl rfl, ?_⟩
    simp only [runH,runX,go_sem,setCells,setIn]
    cases q
    case false =>
      rw [hno ((hsame hd).1)]
      refine vw_cond (t := true) rfl (fun _ => ?_) (fun h => nomatch h)
      refine vw_go rfl ?_; simp only [go_sem,setCells,setIn]
      exact vw_ret (r_then (e_ret (ret_of rfl rfl (by simp [RB]) rfl rfl)))
    refine vw_cond (t := false) rfl (fun h => nomatch h) (fun _ => ?_)
    refine vw_skip (n_then ⟨(), ⟨rfl, hd, rfl⟩, ?_⟩)
    refine norm_to [(196609, 1)] rfl ?_ ?_ <;> simp only [go_sem]
  rintro _ ⟨rfl, hd, rfl⟩
  have hr := (hsame hd).1
  have hmm := (hsame hd).2 hr
  rw [hmm] at hbad hyes
  refine vw_seq ?_
  refine vw_go rfl ?_; simp only [go_sem,setCells,setIn]
  refine vw_block ?_
  refine vw_loop_tab (α := Nat) (fun x => 12 - x) (fun x => ⟨tabE [(0, .c (.list false 1 (l.map sRow))), (5, .al 1 [] 0 1 0 12), (6, .c (.int .i64 x))],
      tabS [(1, some ⟨false, 1, m2.map tRow, [[]]⟩)], 2⟩)
    (fun x => x ≤ 12 ∧ ∀ k, k < x → (decide (l.getD k ⟨#[]⟩ = ⟨#[]⟩) || m2.getD k false) = true) (x := 0) ?round ?h0 ?hn
  case h0 => exact ⟨Nat.zero_le _, fun k hk => absurd hk (by omega)⟩
  case hn =>
    refine norm_to [(1, 1)] rfl ?_ ?_ <;> simp only [go_sem]
  rintro i ⟨hi12, hall⟩
  refine vw_seq ?_
  by_cases hc : (i : Int) < 12
  case neg =>
    obtain rfl : i = 12 := by omega
    rw [hyes hr hall]
    refine vw_go rfl ?_; simp only [hc,go_sem,setCells,setIn]
    refine vw_cond (t := false) rfl (fun h => nomatch h) (fun _ => ?_)
    refine vw_exit (x_then (x_then (x_block (n_then ?_))))
    refine vw_go rfl ?_; simp only [go_sem,setCells,setIn]
    exact vw_ret (e_ret (ret_of rfl rfl (by simp [RB]) rfl rfl))
  have hin : i < 12 := by omega
  obtain ⟨t, ht⟩ : ∃ s, l[i]? = some s := ⟨_, List.getElem?_eq_getElem (by omega)⟩
  obtain ⟨b, hb⟩ : ∃ b, m2[i]? = some b := ⟨_, List.getElem?_eq_getElem (by omega)⟩
  have c0 : (0:Int) ≤ (i : Int) := by omega
  have c1 : (i : Int) < (l.length : Int) := by omega
  have c3 : i < m2.length := by omega
  have c4 : i < l.length := by omega
  have hc2 : (i : Int) < ((12 : Nat) : Int) := by omega
  have w3 : IntKind.wrap .i64 ((i:Int) + 1) = ((i + 1 : Nat) : Int) := by rw [wrap_i64 (by omega) (by omega)]; rfl
  have hst : ∀ k, k < i + 1 → (decide (t = ⟨#[]⟩) || b) = true → (decide (l.getD k ⟨#[]⟩ = ⟨#[]⟩) || m2.getD k false) = true := by
    intro k hk h
    by_cases e : k = i
    · rw [e, getD_of ht, getD_of hb]; exact h
    · exact hall k (by omega)
  have hbd := hbad i hin
  rw [getD_of ht, getD_of hb] at hbd
  refine vw_go rfl ?_; simp only [hc,go_sem,setCells,setIn]
  refine vw_cond (t := true) rfl (fun _ => ?_) (fun h => nomatch h)
  refine vw_skip (n_then ?_)
  refine vw_seq ?_
  refine vw_block ?_
  cases b
  · by_cases hse : t = ⟨#[]⟩
    · (refine vw_go rfl ?_; simp only [c0,hc,hc2,c3,Int.toNat_natCast,getD_map_of hb,tRow,c1,c4,getD_map_of ht,sRow,hse,go_sem,setCells,setIn])
      refine vw_cond (t := false) rfl (fun h => nomatch h) (fun _ => ?_)
      refine vw_skip (n_block (n_then ?_))
      refine vw_last rfl ?_; simp only [w3,go_sem,setCells,setIn]
      refine (n_then ?_)
      refine ⟨i + 1, by omega, ⟨by omega, fun k hk => hst k hk (by rw [hse]; rfl)⟩, ?_⟩
      refine norm_to [(1, 1)] rfl ?_ ?_ <;> simp only [go_sem]
    · rw [hbd (by rw [decide_eq_false hse]; rfl)]
      refine vw_go rfl ?_; simp only [c0,hc,hc2,c3,Int.toNat_natCast,getD_map_of hb,tRow,c1,c4,getD_map_of ht,sRow,hse,go_sem,setCells,setIn]
      refine vw_cond (t := true) rfl (fun _ => ?_) (fun h => nomatch h)
      refine vw_go rfl ?_; simp only [go_sem,setCells,setIn]
      exact vw_ret (r_block (r_then (r_then (r_block (r_then (e_ret (ret_of rfl rfl (by simp [RB]) rfl rfl)))))))
  · (refine vw_go rfl ?_; simp only [c0,hc,hc2,c3,Int.toNat_natCast,getD_map_of hb,tRow,go_sem,setCells,setIn])
    refine vw_cond (t := false) rfl (fun h => nomatch h) (fun _ => ?_)
    refine vw_skip (n_block (n_then ?_))
    refine vw_last rfl ?_; simp only [w3,go_sem,setCells,setIn]
    refine (n_then ?_)
    refine ⟨i + 1, by omega, ⟨by omega, fun k hk => hst k hk (by rw [Bool.or_true])⟩, ?_⟩
    refine norm_to [(1, 1)] rfl ?_ ?_ <;> simp only [go_sem]
end Go.Proofs.YtkijdbljnefeaaaGreatDoor
namespace Go.VM
open Go
theorem call_prim2 {P : Program} {fid : Nat} {o : Oper} {env : Nat → VV} {st : St} {c : Call} {g : Operand} {f : FuncId} {fn : Func} {e : Array Value → Sem Value} {x y : Operand} {s : ByteArray} {b n : Int}
    (t1 t2 : TypeId) (hf : P.funcs[f]? = some fn) (hb : fn.body.isNone = true) (hname : (fn.name == "runtime.NumGoroutine") = false) (hn : Extern.findNext fn = none) (he : Extern.find fn = some e)
    (hrun : ∀ w : World, (e #[.string s, .int .u8 b]).run P w = .ok (.int .i64 n) w) (hop : o.op = .call c) (hcal : c.callee = .value g) (hg : ev P env 0 g = .fn f []) (hargs : c.args = #[x, y])
    (hx : ev P env t1 x = .c (.str s)) (hy : ev P env t2 y = .c (.int .u8 b)) :
    OpOk P fid o env st ⟨.c (.int .i64 n), []⟩ := by
  intro w ow bs fr a hr hE hroom next Q hk
  have hgv := ev_rel (P := P) hE 0 g
  rw [hg] at hgv
  obtain ⟨vs, hgeq, hvl⟩ : ∃ vs : Array Value, a.eval g = .func (.func f) #[] vs ∧ 0 = vs.size := by
    generalize a.eval g = z at hgv
    cases hgv with | fn hl hh => exact ⟨_, rfl, hl⟩
  obtain rfl : vs = #[] := Array.eq_empty_of_size_eq_zero hvl.symm
  have h1 := ev_rel (P := P) hE t1 x
  have h2 := ev_rel (P := P) hE t2 y
  rw [hx] at h1
  rw [hy] at h2
  have e1 : a.eval x = .string s := by
    generalize a.eval x = z at h1
    cases h1 with | c h => cases h with | str => rfl
  have e2 : a.eval y = .int .u8 b := by
    generalize a.eval y = z at h2
    cases h2 with | c h => cases h with | int => rfl
  have hcf := run_callFunc_extern hf hname hb hn he #[.string s, .int .u8 b] w
  rw [hrun w] at hcf
  have hrun' : (execOp a.eval o).run P w = .ok (.value (.int .i64 n)) w := by
    have : (execOp a.eval o).run P w = (callFunc f #[.string s, .int .u8 b]).run P w := by
      simp [execOp,hop,resolve,hcal,hgeq,Deferred.ofValue,invoke,hargs,e1,e2]
    rw [this, hcf]
    rfl
  have hd : Does w ow bs st fr (minus fr fid) ((execOp a.eval o).run P w) (.c (.int .i64 n)) st := Does.pure hr (fun r h => h.1) hrun' (.c .int)
  obtain ⟨val, w', ow', bs', k1, k2, k3, k4, k5⟩ := hd
  have hn' := hk val w' ow' bs' k4 k2 k3 k5
  unfold Oper.wp
  rcases k1 with k1 | ⟨k1, rfl⟩
  · rw [k1, Oper.upon_value]; exact hn'
  · rw [k1, Oper.upon_skip]; exact hn'
end Go.VM
namespace Go.Proofs.YtkijdbljnefeaaaGreatDoor
open Go.VM
set_option maxRecDepth 100000
attribute [local congr] vw_congr runV_congr runH_congr runW_congr runX_congr stuckV_congr stuckX_congr
/-- The pieces of a text between bytes c, from a piece that began at 'fr', read on at 'i', so many bytes. -/
def pcs (c : UInt8) (s : ByteArray) : Nat → Nat → Nat → List ByteArray
  | 0, fr, i => [s.extract fr i]
  | n + 1, fr, i => if s.data.toList.getD i 0 = c then s.extract fr i :: pcs c s n (i + 1) (i + 1) else pcs c s n fr (i + 1)
def names (s : ByteArray) : List ByteArray := pcs 47 s s.size 0 0
theorem pcs_hit {c : UInt8} {s : ByteArray} {fr i : Nat} (hi : i < s.size) (h : s.data.toList.getD i 0 = c) : pcs c s (s.size - i) fr i = s.extract fr i :: pcs c s (s.size - (i + 1)) (i + 1) (i + 1) := by
  rw [show s.size - i = (s.size - (i + 1)) + 1 from by omega, pcs, if_pos h]
theorem pcs_miss {c : UInt8} {s : ByteArray} {fr i : Nat} (hi : i < s.size) (h : ¬ s.data.toList.getD i 0 = c) : pcs c s (s.size - i) fr i = pcs c s (s.size - (i + 1)) fr (i + 1) := by
  rw [show s.size - i = (s.size - (i + 1)) + 1 from by omega, pcs, if_neg h]
theorem pcs_end {c : UInt8} {s : ByteArray} {fr : Nat} : pcs c s (s.size - s.size) fr s.size = [s.extract fr s.size] := by
  rw [Nat.sub_self, pcs]
theorem pcs_skip {c : UInt8} {s : ByteArray} {fr i : Nat} : ∀ (k : Nat), i + k ≤ s.size → (∀ j, j < k → ¬ s.data.toList.getD (i + j) 0 = c) → pcs c s (s.size - i) fr i = pcs c s (s.size - (i + k)) fr (i + k)
  | 0, _, _ => rfl
  | k + 1, h, hj => by
    rw [pcs_skip k (by omega) (fun j h' => hj j (by omega)), pcs_miss (by omega) (hj k (by omega))]; rfl
theorem pcs_len {c : UInt8} {s : ByteArray} : ∀ (n fr i : Nat), i + n = s.size → (pcs c s n fr i).length = (s.data.toList.drop i).count c + 1
  | 0, fr, i, h => by
    rw [pcs, List.drop_of_length_le (by rw [bs_len]; omega)]; rfl
  | n + 1, fr, i, h => by
    obtain ⟨b, hb⟩ : ∃ b, s.data.toList[i]? = some b := ⟨_, List.getElem?_eq_getElem (by rw [bs_len]; omega)⟩
    rw [pcs, drop_of hb, List.count_cons, getD_of hb]
    by_cases e : b = c
    · rw [if_pos e, List.length_cons, pcs_len n (i + 1) (i + 1) (by omega)]; simp [e]
    · rw [if_neg e, pcs_len n fr (i + 1) (by omega)]; simp [e]
theorem names_len (s : ByteArray) : (names s).length = s.data.toList.count 47 + 1 := by
  have := pcs_len (c := 47) (s := s) s.size 0 0 (by omega)
  rw [names, this, List.drop_zero]
theorem names_le (s : ByteArray) : (names s).length ≤ s.size + 1 := by
  have h : s.data.toList.count 47 ≤ s.data.toList.length := List.count_le_length
  rw [names_len, ← bs_len]; omega
/-- What the specification takes for a path's names. -/
def namesZ (s : ByteArray) : List ByteArray := if s = ⟨#[]⟩ then [] else names s
theorem b_iff (b : UInt8) (k : Nat) (hk : k < 256) : ((b.toNat : Int) = (k : Int)) ↔ b = UInt8.ofNat k := by
  constructor
  · intro h
    have : b.toNat = k := by omega
    rw [← this]; simp
  · intro h; subst h; simp; omega
theorem runs_80 (s : ByteArray) (hs : s.size ≤ 2 ^ 20) : Runs Tryz.prog 80 [.one (.v (.str s))] [.one (.v (.list true 1 ((namesZ s).map sRow)))] [] := by
  refine runs_tab (tab := [(0, .c (.str s))]) (rts := []) (n := 37) (k := 1) Tryz.func80 rfl rfl (by simp) rfl (fun t => ?_) rfl ?_
  · rcases t with _ | t <;> rfl
  refine vw_go rfl ?_; simp only [go_sem,setCells,setIn]
  refine vw_go rfl ?_; simp only [go_sem,setCells,setIn]
  refine vw_go rfl ?_; simp only [go_sem,setCells,setIn]
  refine vw_seq ?_
  refine vw_go rfl ?_; simp only [go_sem,setCells,setIn]
  refine vw_block ?_
  refine vw_loop_tab (α := List ByteArray × Nat × Nat) (fun x => s.size + 1 - x.2.2) (fun x => ⟨tabE [(0, .c (.str s)), (3, .al 1 [] 0 1 0 x.1.length), (4, .c (.int .i64 x.2.1)), (5, .c (.int .i64 x.2.2))], tabS [(1, some ⟨false, 1, x.1.map sRow, []⟩)], 2⟩)
    (fun x => x.2.1 ≤ x.2.2 ∧ x.2.2 ≤ s.size + 1 ∧ x.1.length ≤ x.2.2 ∧ (s = ⟨#[]⟩ → x.1 = []) ∧ (x.2.2 ≤ s.size → x.1 ++ pcs 47 s (s.size - x.2.2) x.2.1 x.2.2 = names s) ∧ (x.2.2 = s.size + 1 → x.1 = names s)) (x := ([], 0, 0)) ?round ?h0 ?hn
  case h0 => exact ⟨Nat.le_refl _, Nat.zero_le _, Nat.le_refl _, fun _ => rfl, fun _ => rfl, fun h => by simp at h⟩
  case hn =>
    refine norm_to [(65537, 1)] rfl ?_ ?_ <;> simp only [go_sem]
    · simp
  rintro ⟨out, fr, i⟩ ⟨h1, h2, h3, h4, h5, h6⟩
  simp only at h1 h2 h3 h4 h5 h6
  refine vw_seq ?_
  by_cases hc : (i : Int) ≤ (s.size : Int)
  case neg =>
    refine vw_go rfl ?_; simp only [hc,go_sem,setCells,setIn]
    refine vw_cond (t := false) rfl (fun h => ?_) (fun h => ?_)
    · cases h
    refine vw_exit (x_then (x_then (x_block (n_then ?_))))
    refine vw_go rfl ?_; simp only [go_sem,setCells,setIn]
    have e : out = names s := h6 (by omega)
    have hz : ¬ s = ⟨#[]⟩ := fun h => by
      have := h4 h
      have h' := names_len s
      rw [← e, this] at h'
      simp at h'
    rw [show namesZ s = out from by rw [namesZ, if_neg hz, e]]
    exact vw_ret (e_ret (ret_by rfl rfl (by simp [RB]) rfl (by simp only [takeCs,takeC,go_sem,setCells,setIn])))
  by_cases hz : s = ⟨#[]⟩
  · have hz' : decide (s = ⟨#[]⟩) = true := by simp [hz]
    refine vw_go rfl ?_; simp only [hc,hz',go_sem,setCells,setIn]
    refine vw_cond (t := false) rfl (fun h => ?_) (fun h => ?_)
    · cases h
    refine vw_exit (x_then (x_then (x_block (n_then ?_))))
    refine vw_go rfl ?_; simp only [go_sem,setCells,setIn]
    rw [show namesZ s = out from by rw [namesZ, if_pos hz, h4 hz]]
    exact vw_ret (e_ret (ret_by rfl rfl (by simp [RB]) rfl (by simp only [takeCs,takeC,go_sem,setCells,setIn])))
  have hz' : decide (s = ⟨#[]⟩) = false := by simp [hz]
  refine vw_go rfl ?_; simp only [hc,hz',go_sem,setCells,setIn]
  refine vw_cond (t := true) rfl (fun h => ?_) (fun h => ?_)
  case refine_2 => cases h
  refine vw_skip (n_then ?_)
  have c0 : (0:Int) ≤ (fr : Int) := by omega
  have c1 : (0:Int) ≤ (i : Int) := by omega
  have c2 : fr ≤ i ∧ i ≤ s.size := by omega
  have B1 : ¬ (out.length + 1 + 1) * (16 + 1) > bigRow := by simp only [bigRow]; omega
  have qt : (out.map sRow ++ [[T.str (s.extract fr i)]]).take (out.length + 1) = out.map sRow ++ [[T.str (s.extract fr i)]] := by
    rw [List.take_of_length_le (by simp)]
  have w2 : IntKind.wrap .i64 ((i:Int) + 1) = ((i + 1 : Nat) : Int) := by rw [wrap_i64 (by omega) (by omega)]; rfl
  refine vw_seq ?_
  refine vw_block ?_
  by_cases hE : i = s.size
  · subst hE
    refine vw_go rfl ?_; simp only [go_sem,setCells,setIn]
    refine vw_cond (t := true) rfl (fun h => ?_) (fun h => ?_)
    case refine_2 => cases h
    refine vw_go rfl ?_; simp only [c0,c1,c2,h1,Nat.le_refl,Int.toNat_natCast,range1,List.replicate_succ,List.replicate_zero,List.flatten_cons,List.flatten_nil,List.range_zero,gt_iff_lt,B1,List.length_append,qt,go_sem,setCells,setIn]
    refine vw_last rfl ?_; simp only [w2,go_sem,setCells,setIn]
    refine (n_block (n_then ?_))
    refine vw_last rfl ?_; simp only [w2,go_sem,setCells,setIn]
    refine (n_then ?_)
    have e := h5 (Nat.le_refl _)
    rw [pcs_end] at e
    refine ⟨(out ++ [s.extract fr s.size], s.size + 1, s.size + 1), by simp only; omega, ⟨by simp only; omega, by simp only; omega, by simp; omega, fun h => absurd h hz, fun h => by simp only at h; omega, fun _ => e⟩, ?_⟩
    refine norm_to [(137218, 1)] rfl ?_ ?_ <;> simp only [go_sem]
    · simp
    · simp [sRow]
  rcases get_or s.data.toList i with ⟨b, hx, hlt⟩ | ⟨_, hge⟩
  case inr => rw [bs_len] at hge; omega
  rw [bs_len] at hlt
  have g := getD_of (d := 0) hx
  have c3 : (i:Int) < (s.size : Int) := by omega
  have c4 : ((i:Int) = (s.size : Int)) = False := eq_false (by omega)
  have e := h5 (by omega)
  refine vw_go rfl ?_; simp only [c1,c3,c4,Int.toNat_natCast,g,go_sem,setCells,setIn]
  refine vw_cond (t := decide ((b.toNat : Int) = 47)) rfl (fun h => ?_) (fun h => ?_)
  · simp only [decide_eq_true_eq] at h
    have hb : b = 47 := (b_iff b 47 (by decide)).1 h
    rw [pcs_hit hlt (g.trans hb), ← List.singleton_append, ← List.append_assoc] at e
    refine vw_go rfl ?_; simp only [c0,c1,c2,h1,Nat.le_refl,Int.toNat_natCast,range1,List.replicate_succ,List.replicate_zero,List.flatten_cons,List.flatten_nil,List.range_zero,gt_iff_lt,B1,List.length_append,qt,go_sem,setCells,setIn]
    refine vw_last rfl ?_; simp only [w2,go_sem,setCells,setIn]
    refine (n_block (n_then ?_))
    refine vw_last rfl ?_; simp only [w2,go_sem,setCells,setIn]
    refine (n_then ?_)
    refine ⟨(out ++ [s.extract fr i], i + 1, i + 1), by simp only; omega, ⟨by simp only; omega, by simp only; omega, by simp; omega, fun h => absurd h hz, fun _ => e, fun h => by simp only at h; omega⟩, ?_⟩
    refine norm_to [(137218, 1)] rfl ?_ ?_ <;> simp only [go_sem]
    · simp
    · simp [sRow]
  · simp only [decide_eq_false_iff_not] at h
    have hb : ¬ b = 47 := fun h' => h ((b_iff b 47 (by decide)).2 h')
    rw [pcs_miss hlt (by rw [g]; exact hb)] at e
    refine vw_skip (n_block (n_then ?_))
    refine vw_last rfl ?_; simp only [w2,go_sem,setCells,setIn]
    refine (n_then ?_)
    refine ⟨(out, fr, i + 1), by simp only; omega, ⟨by simp only; omega, by simp only; omega, by simp only; omega, h4, fun _ => e, fun h => by simp only at h; omega⟩, ?_⟩
    refine norm_to [(1, 1)] rfl ?_ ?_ <;> simp only [go_sem]
end Go.Proofs.YtkijdbljnefeaaaGreatDoor
