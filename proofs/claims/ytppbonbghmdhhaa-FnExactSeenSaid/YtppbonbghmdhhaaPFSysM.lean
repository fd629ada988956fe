/- Systems: marks. -/
import Derived.Test.YtppbonbghmdhhaaPVNest
import Derived.Test.YtppbonbghmdhhaaPFSys
import Derived.Test.YtppbonbghmdhhaaPFPartM
import Derived.Test.YtppbonbghmdhhaaPFPortM
namespace Go.Proofs.Ytppbonbghmdhhaa
open Go.VM Go
set_option maxRecDepth 100000
set_option linter.unusedSimpArgs false
set_option linter.unusedVariables false
attribute [local congr] vw_congr runV_congr runH_congr runW_congr runX_congr

/-! ### ints -/
def mkN (k : Int) (j : Nat) : List T := nRow (k + (j : Int))
def marksN (k : Int) (n : Nat) : List Int := (List.range n).map fun (j : Nat) => k + (j : Int)
theorem mkN_rows (k : Int) (n : Nat) : (List.range n).map (mkN k) = (marksN k n).map nRow := by simp [marksN, mkN, List.map_map, Function.comp]

theorem runs_141 (l : List Int) (k : Int) (hl : l.length ≤ 2 ^ 40) (h0 : 0 ≤ k) (h1 : k ≤ 2 ^ 60) :
    Runs Try.prog 141 [.one (.v (.list true 1 (l.map nRow))), .one (.v (.int .i64 k))] [.one (.v (.int .i64 (k + l.length)))] [(0, ⟨false, 1, (marksN k l.length).map nRow, []⟩)] := by
  refine runs_tabB (tab := [(0, .al 0 [] 0 1 0 l.length), (1, .c (.int .i64 k))]) (rts := [(0, some ⟨false, 1, l.map nRow, []⟩)]) (n := 19) (k := 2) Try.func141 rfl rfl (by simp) rfl (fun t => ?_) rfl ?_
  · rcases t with _ | _ | t
    · simp [rvv, RT.vv, CT.vv, envOf, tabE_cons]
    · rfl
    · rfl
  (refine vw_go rfl ?_; simp only [go_sem, setCells, setIn])
  refine vw_seq ?_
  (refine vw_go rfl ?_; simp only [go_sem, setCells, setIn])
  refine vw_block ?_
  refine vw_loop_tab (α := Nat) (fun x => l.length - x) (fun x => ⟨tabE [(0, .al 0 [] 0 1 0 l.length), (1, .c (.int .i64 (k + x))), (5, .c (.int .i64 x))], tabS [(0, some ⟨false, 1, rowsW (mkN k) (l.map nRow) x, []⟩)], 2⟩)
    (fun x => x ≤ l.length) (x := 0) ?round ?h0 ?hn
  case h0 => exact Nat.zero_le _
  case hn =>
    (refine norm_to [(0, 0)] rfl ?_ ?_ <;> simp only [go_sem])
    · simp
    · simp [rowsW_zero]
  intro i hi
  refine vw_seq ?_
  (refine vw_go rfl ?_; simp only [go_sem, setCells, setIn])
  refine vw_cond (t := decide ((i : Int) < l.length)) rfl (fun h => ?_) (fun h => ?_)
  · refine vw_skip (n_then ?_)
    rcases get_or l i with ⟨x, hx, hlt⟩ | ⟨_, hge⟩
    case inr => simp only [decide_eq_true_eq] at h; omega
    have c1 : (0:Int) ≤ (i:Int) := by omega
    have c2 : (i:Int) < (l.length : Int) := by omega
    have hx' : (l.map nRow)[i]? = some (nRow x) := by rw [List.getElem?_map, hx]; rfl
    have hll : (l.map nRow).length = l.length := by simp
    have e1 : (rowsW (mkN k) (l.map nRow) i).length = l.length := by rw [rowsW_len (by omega), hll]
    have e2 : (rowsW (mkN k) (l.map nRow) i).getD i [] = [.int .i64 x] := rowsW_get hx'
    have e3 : (rowsW (mkN k) (l.map nRow) i).set i [.int .i64 (k + i)] = rowsW (mkN k) (l.map nRow) (i + 1) := rowsW_set (by omega) rfl
    have w3 : IntKind.wrap .i64 (k + (i:Int) + 1) = k + ((i + 1 : Nat) : Int) := by rw [wrap_i64 (by omega) (by omega)]; omega
    refine vw_seq ?_
    refine vw_block ?_
    (refine vw_go rfl ?_; simp only [c1, c2, Int.toNat_natCast, e1, e2, e3, hlt, go_sem, setCells, setIn])
    (refine vw_last rfl ?_; simp only [w3, go_sem, setCells, setIn])
    refine (n_block (n_then ?_))
    have w2 : IntKind.wrap .i64 ((i:Int) + 1) = ((i + 1 : Nat) : Int) := by rw [wrap_i64 (by omega) (by omega)]; rfl
    (refine vw_last rfl ?_; simp only [w2, go_sem, setCells, setIn])
    refine (n_then ?_)
    refine ⟨i + 1, by omega, hlt, ?_⟩
    (refine norm_to [(0, 0)] rfl ?_ ?_ <;> simp only [go_sem])
  · refine vw_exit (x_then (x_then (x_block (n_then ?_))))
    (refine vw_go rfl ?_; simp only [go_sem, setCells, setIn])
    simp only [decide_eq_false_iff_not] at h
    have : i = l.length := by omega
    subst this
    refine vw_ret (e_ret (ret_b rfl rfl (by simp [RB]) rfl rfl ⟨⟨by simp, _, rfl, rfl, rfl, ?_⟩, trivial⟩))
    have hll : (l.map nRow).length = l.length := by simp
    show rowsW (mkN k) (l.map nRow) l.length = _
    rw [← hll, rowsW_end, hll, mkN_rows]

/-! ### a chip and a translation layer -/
theorem runs_140 (x : ChipV) (k : Int) (ha : x.pages.length ≤ 2 ^ 30) (ht : x.wear.length ≤ 2 ^ 30) (h0 : 0 ≤ k) (h1 : k ≤ 2 ^ 40) :
    Runs Try.prog 140 [.agg [.v (.list true 1 (x.pages.map sRow)), .v (.list true 1 (x.wear.map nRow))], .one (.v (.int .i64 k))] [.one (.v (.int .i64 (k + x.pages.length + x.wear.length)))]
      [(0, ⟨false, 1, (marks k x.pages.length).map sRow, []⟩), (1, ⟨false, 1, (marksN (k + x.pages.length) x.wear.length).map nRow, []⟩)] := by
  refine runs_tabB (tab := [(0, .agg [.al 0 [] 0 1 0 x.pages.length, .al 1 [] 0 1 0 x.wear.length]), (1, .c (.int .i64 k))]) (rts := [(1, some ⟨false, 1, x.wear.map nRow, []⟩), (0, some ⟨false, 1, x.pages.map sRow, []⟩)]) (n := 14) (k := 3) Try.func140 rfl rfl (by simp) rfl (fun t => ?_) ?_ ?_
  · rcases t with _ | _ | t
    · simp [rvv, RT.vv, CT.vv, cvv, envOf, tabE_cons]
    · rfl
    · rfl
  · simp [rcells, RT.cells, cups, CT.ups]
    funext r
    simp [St.put, tabS, st0]
  refine vw_go1 rfl rfl (box_ro rfl rfl) ?_
  simp only [go_sem, setCells, setIn]
  (refine vw_go rfl ?_; simp only [go_sem, setCells, setIn])
  (refine ⟨_, _, call_bs [0, 0] [.back, .ro] [(0, 0, ⟨false, 1, x.pages.map sRow, []⟩)] [(marks k x.pages.length).map sRow] (rest := [.c (.int .i64 k)]) Try.func16 (runs_16 x.pages k (by omega) h0 (by omega)) rfl rfl rfl rfl rfl rfl rfl rfl (by simp [VV.cells, ev, tabE_cons, sRow_r1, sRow_comp, sRow_clean, nRow_r1, nRow_comp, nRow_clean, insRow_clean, opRow_clean, tellRow_clean]) (by simp [tabS_cons, sRow_r1, sRow_comp, sRow_clean, nRow_r1, nRow_comp, nRow_clean, insRow_clean, opRow_clean, tellRow_clean]) (by simp) rfl rfl (by simp [rcells, RT.cells, sRow_r1, sRow_comp, sRow_clean, nRow_r1, nRow_comp, nRow_clean, insRow_clean, opRow_clean, tellRow_clean]) rfl rfl (by simp [clean_map, sRow_r1, sRow_comp, sRow_clean, nRow_r1, nRow_comp, nRow_clean, insRow_clean, opRow_clean, tellRow_clean]) rfl rfl, ?_⟩)
  simp only [runH, runX, go_sem, setCells, setIn]
  (refine vw_go rfl ?_; simp only [go_sem, setCells, setIn])
  (refine ⟨_, _, call_bs [0, 0] [.back, .ro] [(1, 0, ⟨false, 1, x.wear.map nRow, []⟩)] [(marksN (k + x.pages.length) x.wear.length).map nRow] (rest := [.c (.int .i64 (k + x.pages.length))]) Try.func141 (runs_141 x.wear (k + x.pages.length) (by omega) (by omega) (by omega)) rfl rfl rfl rfl rfl rfl rfl rfl (by simp [VV.cells, ev, tabE_cons, sRow_r1, sRow_comp, sRow_clean, nRow_r1, nRow_comp, nRow_clean, insRow_clean, opRow_clean, tellRow_clean]) (by simp [tabS_cons, sRow_r1, sRow_comp, sRow_clean, nRow_r1, nRow_comp, nRow_clean, insRow_clean, opRow_clean, tellRow_clean]) (by simp) rfl rfl (by simp [rcells, RT.cells, sRow_r1, sRow_comp, sRow_clean, nRow_r1, nRow_comp, nRow_clean, insRow_clean, opRow_clean, tellRow_clean]) rfl rfl (by simp [clean_map, sRow_r1, sRow_comp, sRow_clean, nRow_r1, nRow_comp, nRow_clean, insRow_clean, opRow_clean, tellRow_clean]) rfl rfl, ?_⟩)
  simp only [runH, runX, go_sem, setCells, setIn]
  (refine vw_go rfl ?_; simp only [go_sem, setCells, setIn])
  exact vw_ret (e_ret (ret_b rfl rfl (by simp [RB]) rfl rfl ⟨⟨by simp, _, rfl, rfl, rfl, rfl⟩, ⟨by simp, _, rfl, rfl, rfl, rfl⟩, trivial⟩))

theorem runs_97 (x : FtlV) (k : Int) (ha : x.pages.length ≤ 2 ^ 30) (ht : x.wear.length ≤ 2 ^ 30) (hm : x.map.length ≤ 2 ^ 30) (h0 : 0 ≤ k) (h1 : k ≤ 2 ^ 40) :
    Runs Try.prog 97 [.agg [.v (.list true 1 (x.pages.map sRow)), .v (.list true 1 (x.wear.map nRow)), .v (.list true 1 (x.map.map nRow)), .v (.int .i64 x.seq)], .one (.v (.int .i64 k))] [.one (.v (.int .i64 (k + x.pages.length + x.wear.length + x.map.length)))]
      [(0, ⟨false, 1, (marks k x.pages.length).map sRow, []⟩), (1, ⟨false, 1, (marksN (k + x.pages.length) x.wear.length).map nRow, []⟩), (2, ⟨false, 1, (marksN (k + x.pages.length + x.wear.length) x.map.length).map nRow, []⟩)] := by
  refine runs_tabB (tab := [(0, .agg [.al 0 [] 0 1 0 x.pages.length, .al 1 [] 0 1 0 x.wear.length, .al 2 [] 0 1 0 x.map.length, .c (.int .i64 x.seq)]), (1, .c (.int .i64 k))]) (rts := [(2, some ⟨false, 1, x.map.map nRow, []⟩), (1, some ⟨false, 1, x.wear.map nRow, []⟩), (0, some ⟨false, 1, x.pages.map sRow, []⟩)]) (n := 14) (k := 5) Try.func97 rfl rfl (by simp) rfl (fun t => ?_) ?_ ?_
  · rcases t with _ | _ | t
    · simp [rvv, RT.vv, CT.vv, cvv, envOf, tabE_cons]
    · rfl
    · rfl
  · simp [rcells, RT.cells, cups, CT.ups]
    funext r
    simp [St.put, tabS, st0]
  have r1 := runs_140 x.chip k ha ht h0 h1
  simp only [FtlV.chip] at r1
  refine vw_go1 rfl rfl (box_ro rfl rfl) ?_
  simp only [go_sem, setCells, setIn]
  (refine vw_go rfl ?_; simp only [go_sem, setCells, setIn])
  (refine ⟨_, _, call_bs [0, 0] [.back, .ro] [(0, 0, ⟨false, 1, x.pages.map sRow, []⟩), (1, 0, ⟨false, 1, x.wear.map nRow, []⟩)] [(marks k x.pages.length).map sRow, (marksN (k + x.pages.length) x.wear.length).map nRow] (rest := [.c (.int .i64 k)]) Try.func140 (r1) rfl rfl rfl rfl rfl rfl rfl rfl (by simp [VV.cells, ev, tabE_cons, sRow_r1, sRow_comp, sRow_clean, nRow_r1, nRow_comp, nRow_clean, insRow_clean, opRow_clean, tellRow_clean]) (by simp [tabS_cons, sRow_r1, sRow_comp, sRow_clean, nRow_r1, nRow_comp, nRow_clean, insRow_clean, opRow_clean, tellRow_clean]) (by simp) rfl rfl (by simp [rcells, RT.cells, sRow_r1, sRow_comp, sRow_clean, nRow_r1, nRow_comp, nRow_clean, insRow_clean, opRow_clean, tellRow_clean]) rfl rfl (by simp [clean_map, sRow_r1, sRow_comp, sRow_clean, nRow_r1, nRow_comp, nRow_clean, insRow_clean, opRow_clean, tellRow_clean]) rfl rfl, ?_⟩)
  simp only [runH, runX, go_sem, setCells, setIn]
  (refine vw_go rfl ?_; simp only [go_sem, setCells, setIn])
  (refine ⟨_, _, call_bs [0, 0] [.back, .ro] [(2, 0, ⟨false, 1, x.map.map nRow, []⟩)] [(marksN (k + x.pages.length + x.wear.length) x.map.length).map nRow] (rest := [.c (.int .i64 (k + x.pages.length + x.wear.length))]) Try.func141 (runs_141 x.map (k + x.pages.length + x.wear.length) (by omega) (by omega) (by omega)) rfl rfl rfl rfl rfl rfl rfl rfl (by simp [VV.cells, ev, tabE_cons, sRow_r1, sRow_comp, sRow_clean, nRow_r1, nRow_comp, nRow_clean, insRow_clean, opRow_clean, tellRow_clean]) (by simp [tabS_cons, sRow_r1, sRow_comp, sRow_clean, nRow_r1, nRow_comp, nRow_clean, insRow_clean, opRow_clean, tellRow_clean]) (by simp) rfl rfl (by simp [rcells, RT.cells, sRow_r1, sRow_comp, sRow_clean, nRow_r1, nRow_comp, nRow_clean, insRow_clean, opRow_clean, tellRow_clean]) rfl rfl (by simp [clean_map, sRow_r1, sRow_comp, sRow_clean, nRow_r1, nRow_comp, nRow_clean, insRow_clean, opRow_clean, tellRow_clean]) rfl rfl, ?_⟩)
  simp only [runH, runX, go_sem, setCells, setIn]
  (refine vw_go rfl ?_; simp only [go_sem, setCells, setIn])
  exact vw_ret (e_ret (ret_b rfl rfl (by simp [RB]) rfl rfl ⟨⟨by simp, _, rfl, rfl, rfl, rfl⟩, ⟨by simp, _, rfl, rfl, rfl, rfl⟩, ⟨by simp, _, rfl, rfl, rfl, rfl⟩, trivial⟩))

/-! ### parts -/
def kPart (x : PartV) (k : Int) : Int := k + 6 * x.code.length + 1 + 2 * x.seen.length + 1
def mkPartM (x : PartV) (k : Int) : List T := [.list true 6 (marksIns k x.code.length), .int .i64 (k + 6 * x.code.length), .list true 2 (marksTell (k + 6 * x.code.length + 1) x.seen.length), .bool (decide ((k + 6 * x.code.length + 1 + 2 * x.seen.length).tmod 3 = 0))]
def marksPart : List PartV → Int → List (List T)
  | [], _ => []
  | x :: l, k => mkPartM x k :: marksPart l (kPart x k)
def kParts : List PartV → Int → Int
  | [], k => k
  | x :: l, k => kParts l (kPart x k)
theorem mid_getD {α : Type} (M B : List α) (x d : α) : (M ++ x :: B).getD M.length d = x := by simp [List.getD_eq_getElem?_getD]
theorem mid_set {α : Type} (M B : List α) (x y : α) : (M ++ x :: B).set M.length y = M ++ y :: B := by simp

theorem runs_98 (l : List PartV) (k : Int) (hl : l.length ≤ 2 ^ 20) (hx : ∀ x ∈ l, x.code.length ≤ 2 ^ 20 ∧ x.seen.length ≤ 2 ^ 20) (h0 : 0 ≤ k) (h1 : k ≤ 2 ^ 50) :
    Runs Try.prog 98 [.one (.v (.list true 4 (l.map partRowO))), .one (.v (.int .i64 k))] [.one (.v (.int .i64 (kParts l k)))] [(0, ⟨false, 4, marksPart l k, []⟩)] := by
  refine runs_tabB (tab := [(0, .al 0 [] 0 4 0 l.length), (1, .c (.int .i64 k))]) (rts := [(0, some ⟨false, 4, l.map partRowO, []⟩)]) (n := 43) (k := 2) Try.func98 rfl rfl (by simp) rfl (fun t => ?_) rfl ?_
  · rcases t with _ | _ | t
    · simp [rvv, RT.vv, CT.vv, envOf, tabE_cons]
    · rfl
    · rfl
  (refine vw_go rfl ?_; simp only [go_sem, setCells, setIn])
  refine vw_seq ?_
  (refine vw_go rfl ?_; simp only [go_sem, setCells, setIn])
  refine vw_block ?_
  refine vw_loop_tab (α := List (List T) × List PartV × Int × List Path) (fun x => x.2.1.length) (fun x => ⟨tabE [(0, .al 0 [] 0 4 0 l.length), (1, .c (.int .i64 x.2.2.1)), (5, .c (.int .i64 x.1.length))], tabS [(0, some ⟨false, 4, x.1 ++ x.2.1.map partRowO, x.2.2.2⟩)], 2⟩)
    (fun x => x.1.length + x.2.1.length = l.length ∧ marksPart l k = x.1 ++ marksPart x.2.1 x.2.2.1 ∧ kParts l k = kParts x.2.1 x.2.2.1 ∧ 0 ≤ x.2.2.1 ∧ x.2.2.1 ≤ k + x.1.length * 16777216 ∧ ∀ y ∈ x.2.1, y ∈ l) (x := ([], l, k, [])) ?round ?h0 ?hn
  case h0 => exact ⟨by simp, rfl, rfl, h0, by simp, fun y hy => hy⟩
  case hn =>
    (refine norm_to [(0, 0)] rfl ?_ ?_ <;> simp only [go_sem])
  rintro ⟨M, rest, j, lg⟩ ⟨g1, g2, g3, g4, g5, g6⟩
  simp only at g1 g2 g3 g4 g5 g6
  refine vw_seq ?_
  cases rest with
  | nil =>
    have hc : ¬ (M.length : Int) < l.length := by simp at g1; omega
    (refine vw_go rfl ?_; simp only [hc, go_sem, setCells, setIn])
    (refine vw_cond (t := false) rfl (fun h => nomatch h) (fun _ => ?_))
    refine vw_exit (x_then (x_then (x_block (n_then ?_))))
    (refine vw_go rfl ?_; simp only [go_sem, setCells, setIn])
    rw [g3]
    refine vw_ret (e_ret (ret_b rfl rfl (by simp [RB]) rfl rfl ⟨⟨by simp, _, rfl, rfl, rfl, ?_⟩, trivial⟩))
    rw [g2]
    show M = M ++ marksPart [] j
    simp [marksPart]
  | cons x rest =>
    simp only [List.length_cons] at g1
    obtain ⟨hc1, hc2⟩ := hx x (g6 x List.mem_cons_self)
    have hc : (M.length : Int) < l.length := by omega
    have c1 : (0:Int) ≤ (M.length:Int) := by omega
    have hlt : M.length < M.length + (rest.length + 1) := by omega
    have wi : IntKind.wrap .i64 ((M.length:Int) + 1) = ((M.length + 1 : Nat) : Int) := by rw [wrap_i64 (by omega) (by omega)]; rfl
    have w0 : IntKind.wrap .i64 (j + 6 * (x.code.length : Int) + 1) = j + 6 * (x.code.length : Int) + 1 := wrap_i64 (by omega) (by omega)
    have w1 : IntKind.wrap .i64 (j + 6 * (x.code.length : Int) + 1 + 2 * (x.seen.length : Int) + 1) = j + 6 * (x.code.length : Int) + 1 + 2 * (x.seen.length : Int) + 1 := wrap_i64 (by omega) (by omega)
    have rI := runs_142 x.code j (by omega) g4 (by omega)
    have rT := runs_31 x.seen (j + 6 * (x.code.length : Int) + 1) (by omega) (by omega) (by omega)
    (refine vw_go rfl ?_; simp only [hc, go_sem, setCells, setIn])
    (refine vw_cond (t := true) rfl (fun _ => ?_) (fun h => nomatch h))
    refine vw_skip (n_then ?_)
    refine vw_seq ?_
    refine vw_block ?_
    (refine vw_go rfl ?_; simp only [c1, hc, Int.toNat_natCast, List.map_cons, partRowO, mid_getD, mid_set, List.length_append, hlt, go_sem, setCells, setIn])
    (refine ⟨_, _, op_nest (tabE [(16, .al 0 [] 0 6 0 (x.code.map insRow : List (List T)).length), (17, .c (.int .i64 j))]) 0 [(M.length, 0)] lg.length (es := x.code.map insRow) (es' := marksIns j x.code.length) (call_bs [0, 0] [.back, .ro] [(0, 0, ⟨false, 6, x.code.map insRow, []⟩)] [marksIns j x.code.length] (rest := [.c (.int .i64 j)]) Try.func142 (rI) rfl rfl rfl rfl rfl rfl rfl rfl (by simp [VV.cells, ev, tabE_cons, sRow_r1, sRow_comp, sRow_clean, nRow_r1, nRow_comp, nRow_clean, insRow_clean, opRow_clean, tellRow_clean, marksIns_clean, mid_getD, List.drop_length]) (by simp [tabS_cons, sRow_r1, sRow_comp, sRow_clean, nRow_r1, nRow_comp, nRow_clean, insRow_clean, opRow_clean, tellRow_clean, marksIns_clean, mid_getD, List.drop_length]) (by simp) rfl rfl (by simp [rcells, RT.cells, sRow_r1, sRow_comp, sRow_clean, nRow_r1, nRow_comp, nRow_clean, insRow_clean, opRow_clean, tellRow_clean, marksIns_clean, mid_getD, List.drop_length]) rfl rfl (by simp [clean_map, sRow_r1, sRow_comp, sRow_clean, nRow_r1, nRow_comp, nRow_clean, insRow_clean, opRow_clean, tellRow_clean, marksIns_clean, mid_getD, List.drop_length]) rfl rfl) rfl ⟨rfl, rfl⟩ rfl (by simp [nav, sRow_r1, sRow_comp, sRow_clean, nRow_r1, nRow_comp, nRow_clean, insRow_clean, opRow_clean, tellRow_clean, marksIns_clean, mid_getD, List.drop_length]) (by simp) (by simp [fresh, sRow_r1, sRow_comp, sRow_clean, nRow_r1, nRow_comp, nRow_clean, insRow_clean, opRow_clean, tellRow_clean, marksIns_clean, mid_getD, List.drop_length]) (fun t => if h1 : t = 16 then .inr (.inr (by subst h1; exact ⟨rfl, by simp [tabE]⟩)) else if h2 : t = 17 then .inr (.inl (by subst h2; exact ⟨_, rfl, rfl⟩)) else .inl (by simp [tabE, h1, h2])) rfl (by simp [clean_map, sRow_r1, sRow_comp, sRow_clean, nRow_r1, nRow_comp, nRow_clean, insRow_clean, opRow_clean, tellRow_clean, marksIns_clean, mid_getD, List.drop_length]), ?_⟩)
    simp only [runH, runX, mid_getD, mid_set, go_sem, setCells, setIn]
    (refine vw_go rfl ?_; simp only [c1, hc, Int.toNat_natCast, mid_getD, mid_set, List.length_append, hlt, go_sem, setCells, setIn])
    (refine vw_go rfl ?_; simp only [w0, go_sem, setCells, setIn])
    (refine vw_go rfl ?_; simp only [c1, hc, Int.toNat_natCast, mid_getD, mid_set, List.length_append, hlt, go_sem, setCells, setIn])
    (refine ⟨_, _, op_nest (tabE [(30, .al 0 [] 0 2 0 (x.seen.map tellRow : List (List T)).length), (31, .c (.int .i64 (j + 6 * x.code.length + 1)))]) 0 [(M.length, 2)] (lg ++ [[(M.length, 0)]]).length (es := x.seen.map tellRow) (es' := marksTell (j + 6 * x.code.length + 1) x.seen.length) (call_bs [0, 0] [.back, .ro] [(0, 0, ⟨false, 2, x.seen.map tellRow, []⟩)] [marksTell (j + 6 * x.code.length + 1) x.seen.length] (rest := [.c (.int .i64 (j + 6 * x.code.length + 1))]) Try.func31 (rT) rfl rfl rfl rfl rfl rfl rfl rfl (by simp [VV.cells, ev, tabE_cons, sRow_r1, sRow_comp, sRow_clean, nRow_r1, nRow_comp, nRow_clean, insRow_clean, opRow_clean, tellRow_clean, marksTell_clean, mid_getD, List.drop_length]) (by simp [tabS_cons, sRow_r1, sRow_comp, sRow_clean, nRow_r1, nRow_comp, nRow_clean, insRow_clean, opRow_clean, tellRow_clean, marksTell_clean, mid_getD, List.drop_length]) (by simp) rfl rfl (by simp [rcells, RT.cells, sRow_r1, sRow_comp, sRow_clean, nRow_r1, nRow_comp, nRow_clean, insRow_clean, opRow_clean, tellRow_clean, marksTell_clean, mid_getD, List.drop_length]) rfl rfl (by simp [clean_map, sRow_r1, sRow_comp, sRow_clean, nRow_r1, nRow_comp, nRow_clean, insRow_clean, opRow_clean, tellRow_clean, marksTell_clean, mid_getD, List.drop_length]) rfl rfl) rfl ⟨rfl, rfl⟩ rfl (by simp [nav, sRow_r1, sRow_comp, sRow_clean, nRow_r1, nRow_comp, nRow_clean, insRow_clean, opRow_clean, tellRow_clean, marksTell_clean, mid_getD, List.drop_length]) (by simp) (by simp [fresh, sRow_r1, sRow_comp, sRow_clean, nRow_r1, nRow_comp, nRow_clean, insRow_clean, opRow_clean, tellRow_clean, marksTell_clean, mid_getD, List.drop_length]) (fun t => if h1 : t = 30 then .inr (.inr (by subst h1; exact ⟨rfl, by simp [tabE]⟩)) else if h2 : t = 31 then .inr (.inl (by subst h2; exact ⟨_, rfl, rfl⟩)) else .inl (by simp [tabE, h1, h2])) rfl (by simp [clean_map, sRow_r1, sRow_comp, sRow_clean, nRow_r1, nRow_comp, nRow_clean, insRow_clean, opRow_clean, tellRow_clean, marksTell_clean, mid_getD, List.drop_length]), ?_⟩)
    simp only [runH, runX, mid_getD, mid_set, go_sem, setCells, setIn]
    (refine vw_go rfl ?_; simp only [c1, hc, Int.toNat_natCast, mid_getD, mid_set, List.length_append, hlt, go_sem, setCells, setIn])
    (refine vw_last rfl ?_; simp only [w1, go_sem, setCells, setIn])
    refine (n_block (n_then ?_))
    (refine vw_last rfl ?_; simp only [wi, go_sem, setCells, setIn])
    refine (n_then ?_)
    refine ⟨(M ++ [mkPartM x j], rest, kPart x j, lg ++ [[(M.length, 0)]] ++ [[(M.length, 2)]]), by simp, ⟨by simp; omega, ?_, ?_, by simp only [kPart]; omega, ?_, fun y hy => g6 y (List.mem_cons_of_mem _ hy)⟩, ?_⟩
    · simp only [g2, marksPart, List.append_assoc, List.singleton_append]
    · rw [g3]; rfl
    · simp only [List.length_append, List.length_cons, List.length_nil, kPart]; omega
    · (refine norm_to [(0, 0)] rfl ?_ ?_ <;> simp only [go_sem])
      · simp [kPart]
      · simp [mkPartM]

/-! ### ports -/
def kPort (x : PortV) (k : Int) : Int := k + 4 * x.asks.length + 2 * x.tells.length
def mkPortM (x : PortV) (k : Int) : List T := [.list true 4 (marksOp k x.asks.length), .list true 2 (marksTell (k + 4 * x.asks.length) x.tells.length)]
def marksPort : List PortV → Int → List (List T)
  | [], _ => []
  | x :: l, k => mkPortM x k :: marksPort l (kPort x k)
def kPorts : List PortV → Int → Int
  | [], k => k
  | x :: l, k => kPorts l (kPort x k)

theorem runs_99 (l : List PortV) (k : Int) (hl : l.length ≤ 2 ^ 20) (hx : ∀ x ∈ l, x.asks.length ≤ 2 ^ 20 ∧ x.tells.length ≤ 2 ^ 20) (h0 : 0 ≤ k) (h1 : k ≤ 2 ^ 50) :
    Runs Try.prog 99 [.one (.v (.list true 2 (l.map portRowO))), .one (.v (.int .i64 k))] [.one (.v (.int .i64 (kPorts l k)))] [(0, ⟨false, 2, marksPort l k, []⟩)] := by
  refine runs_tabB (tab := [(0, .al 0 [] 0 2 0 l.length), (1, .c (.int .i64 k))]) (rts := [(0, some ⟨false, 2, l.map portRowO, []⟩)]) (n := 27) (k := 2) Try.func99 rfl rfl (by simp) rfl (fun t => ?_) rfl ?_
  · rcases t with _ | _ | t
    · simp [rvv, RT.vv, CT.vv, envOf, tabE_cons]
    · rfl
    · rfl
  (refine vw_go rfl ?_; simp only [go_sem, setCells, setIn])
  refine vw_seq ?_
  (refine vw_go rfl ?_; simp only [go_sem, setCells, setIn])
  refine vw_block ?_
  refine vw_loop_tab (α := List (List T) × List PortV × Int × List Path) (fun x => x.2.1.length) (fun x => ⟨tabE [(0, .al 0 [] 0 2 0 l.length), (1, .c (.int .i64 x.2.2.1)), (5, .c (.int .i64 x.1.length))], tabS [(0, some ⟨false, 2, x.1 ++ x.2.1.map portRowO, x.2.2.2⟩)], 2⟩)
    (fun x => x.1.length + x.2.1.length = l.length ∧ marksPort l k = x.1 ++ marksPort x.2.1 x.2.2.1 ∧ kPorts l k = kPorts x.2.1 x.2.2.1 ∧ 0 ≤ x.2.2.1 ∧ x.2.2.1 ≤ k + x.1.length * 16777216 ∧ ∀ y ∈ x.2.1, y ∈ l) (x := ([], l, k, [])) ?round ?h0 ?hn
  case h0 => exact ⟨by simp, rfl, rfl, h0, by simp, fun y hy => hy⟩
  case hn =>
    (refine norm_to [(0, 0)] rfl ?_ ?_ <;> simp only [go_sem])
  rintro ⟨M, rest, j, lg⟩ ⟨g1, g2, g3, g4, g5, g6⟩
  simp only at g1 g2 g3 g4 g5 g6
  refine vw_seq ?_
  cases rest with
  | nil =>
    have hc : ¬ (M.length : Int) < l.length := by simp at g1; omega
    (refine vw_go rfl ?_; simp only [hc, go_sem, setCells, setIn])
    (refine vw_cond (t := false) rfl (fun h => nomatch h) (fun _ => ?_))
    refine vw_exit (x_then (x_then (x_block (n_then ?_))))
    (refine vw_go rfl ?_; simp only [go_sem, setCells, setIn])
    rw [g3]
    refine vw_ret (e_ret (ret_b rfl rfl (by simp [RB]) rfl rfl ⟨⟨by simp, _, rfl, rfl, rfl, ?_⟩, trivial⟩))
    rw [g2]
    show M = M ++ marksPort [] j
    simp [marksPort]
  | cons x rest =>
    simp only [List.length_cons] at g1
    obtain ⟨hc1, hc2⟩ := hx x (g6 x List.mem_cons_self)
    have hc : (M.length : Int) < l.length := by omega
    have c1 : (0:Int) ≤ (M.length:Int) := by omega
    have hlt : M.length < M.length + (rest.length + 1) := by omega
    have wi : IntKind.wrap .i64 ((M.length:Int) + 1) = ((M.length + 1 : Nat) : Int) := by rw [wrap_i64 (by omega) (by omega)]; rfl
    have rI := runs_143 x.asks j (by omega) g4 (by omega)
    have rT := runs_31 x.tells (j + 4 * (x.asks.length : Int)) (by omega) (by omega) (by omega)
    (refine vw_go rfl ?_; simp only [hc, go_sem, setCells, setIn])
    (refine vw_cond (t := true) rfl (fun _ => ?_) (fun h => nomatch h))
    refine vw_skip (n_then ?_)
    refine vw_seq ?_
    refine vw_block ?_
    (refine vw_go rfl ?_; simp only [c1, hc, Int.toNat_natCast, List.map_cons, portRowO, mid_getD, mid_set, List.length_append, hlt, go_sem, setCells, setIn])
    (refine ⟨_, _, op_nest (tabE [(16, .al 0 [] 0 4 0 (x.asks.map opRow : List (List T)).length), (17, .c (.int .i64 j))]) 0 [(M.length, 0)] lg.length (es := x.asks.map opRow) (es' := marksOp j x.asks.length) (call_bs [0, 0] [.back, .ro] [(0, 0, ⟨false, 4, x.asks.map opRow, []⟩)] [marksOp j x.asks.length] (rest := [.c (.int .i64 j)]) Try.func143 (rI) rfl rfl rfl rfl rfl rfl rfl rfl (by simp [VV.cells, ev, tabE_cons, sRow_r1, sRow_comp, sRow_clean, nRow_r1, nRow_comp, nRow_clean, insRow_clean, opRow_clean, tellRow_clean, marksOp_clean, mid_getD, List.drop_length]) (by simp [tabS_cons, sRow_r1, sRow_comp, sRow_clean, nRow_r1, nRow_comp, nRow_clean, insRow_clean, opRow_clean, tellRow_clean, marksOp_clean, mid_getD, List.drop_length]) (by simp) rfl rfl (by simp [rcells, RT.cells, sRow_r1, sRow_comp, sRow_clean, nRow_r1, nRow_comp, nRow_clean, insRow_clean, opRow_clean, tellRow_clean, marksOp_clean, mid_getD, List.drop_length]) rfl rfl (by simp [clean_map, sRow_r1, sRow_comp, sRow_clean, nRow_r1, nRow_comp, nRow_clean, insRow_clean, opRow_clean, tellRow_clean, marksOp_clean, mid_getD, List.drop_length]) rfl rfl) rfl ⟨rfl, rfl⟩ rfl (by simp [nav, sRow_r1, sRow_comp, sRow_clean, nRow_r1, nRow_comp, nRow_clean, insRow_clean, opRow_clean, tellRow_clean, marksOp_clean, mid_getD, List.drop_length]) (by simp) (by simp [fresh, sRow_r1, sRow_comp, sRow_clean, nRow_r1, nRow_comp, nRow_clean, insRow_clean, opRow_clean, tellRow_clean, marksOp_clean, mid_getD, List.drop_length]) (fun t => if h1 : t = 16 then .inr (.inr (by subst h1; exact ⟨rfl, by simp [tabE]⟩)) else if h2 : t = 17 then .inr (.inl (by subst h2; exact ⟨_, rfl, rfl⟩)) else .inl (by simp [tabE, h1, h2])) rfl (by simp [clean_map, sRow_r1, sRow_comp, sRow_clean, nRow_r1, nRow_comp, nRow_clean, insRow_clean, opRow_clean, tellRow_clean, marksOp_clean, mid_getD, List.drop_length]), ?_⟩)
    simp only [runH, runX, mid_getD, mid_set, go_sem, setCells, setIn]
    (refine vw_last rfl ?_; simp only [c1, hc, Int.toNat_natCast, mid_getD, mid_set, List.length_append, hlt, go_sem, setCells, setIn])
    (refine ⟨_, _, op_nest (tabE [(23, .al 0 [] 0 2 0 (x.tells.map tellRow : List (List T)).length), (24, .c (.int .i64 (j + 4 * x.asks.length)))]) 0 [(M.length, 1)] (lg ++ [[(M.length, 0)]]).length (es := x.tells.map tellRow) (es' := marksTell (j + 4 * x.asks.length) x.tells.length) (call_bs [0, 0] [.back, .ro] [(0, 0, ⟨false, 2, x.tells.map tellRow, []⟩)] [marksTell (j + 4 * x.asks.length) x.tells.length] (rest := [.c (.int .i64 (j + 4 * x.asks.length))]) Try.func31 (rT) rfl rfl rfl rfl rfl rfl rfl rfl (by simp [VV.cells, ev, tabE_cons, sRow_r1, sRow_comp, sRow_clean, nRow_r1, nRow_comp, nRow_clean, insRow_clean, opRow_clean, tellRow_clean, marksTell_clean, mid_getD, List.drop_length]) (by simp [tabS_cons, sRow_r1, sRow_comp, sRow_clean, nRow_r1, nRow_comp, nRow_clean, insRow_clean, opRow_clean, tellRow_clean, marksTell_clean, mid_getD, List.drop_length]) (by simp) rfl rfl (by simp [rcells, RT.cells, sRow_r1, sRow_comp, sRow_clean, nRow_r1, nRow_comp, nRow_clean, insRow_clean, opRow_clean, tellRow_clean, marksTell_clean, mid_getD, List.drop_length]) rfl rfl (by simp [clean_map, sRow_r1, sRow_comp, sRow_clean, nRow_r1, nRow_comp, nRow_clean, insRow_clean, opRow_clean, tellRow_clean, marksTell_clean, mid_getD, List.drop_length]) rfl rfl) rfl ⟨rfl, rfl⟩ rfl (by simp [nav, sRow_r1, sRow_comp, sRow_clean, nRow_r1, nRow_comp, nRow_clean, insRow_clean, opRow_clean, tellRow_clean, marksTell_clean, mid_getD, List.drop_length]) (by simp) (by simp [fresh, sRow_r1, sRow_comp, sRow_clean, nRow_r1, nRow_comp, nRow_clean, insRow_clean, opRow_clean, tellRow_clean, marksTell_clean, mid_getD, List.drop_length]) (fun t => if h1 : t = 23 then .inr (.inr (by subst h1; exact ⟨rfl, by simp [tabE]⟩)) else if h2 : t = 24 then .inr (.inl (by subst h2; exact ⟨_, rfl, rfl⟩)) else .inl (by simp [tabE, h1, h2])) rfl (by simp [clean_map, sRow_r1, sRow_comp, sRow_clean, nRow_r1, nRow_comp, nRow_clean, insRow_clean, opRow_clean, tellRow_clean, marksTell_clean, mid_getD, List.drop_length]), ?_⟩)
    simp only [runH, runX, mid_getD, mid_set, go_sem, setCells, setIn]
    refine (n_block (n_then ?_))
    (refine vw_last rfl ?_; simp only [wi, go_sem, setCells, setIn])
    refine (n_then ?_)
    refine ⟨(M ++ [mkPortM x j], rest, kPort x j, lg ++ [[(M.length, 0)]] ++ [[(M.length, 1)]]), by simp, ⟨by simp; omega, ?_, ?_, by simp only [kPort]; omega, ?_, fun y hy => g6 y (List.mem_cons_of_mem _ hy)⟩, ?_⟩
    · simp only [g2, marksPort, List.append_assoc, List.singleton_append]
    · rw [g3]; rfl
    · simp only [List.length_append, List.length_cons, List.length_nil, kPort]; omega
    · (refine norm_to [(0, 0)] rfl ?_ ?_ <;> simp only [go_sem])
      · simp [kPort]
      · simp [mkPortM]

theorem kParts_le : ∀ (l : List PartV) (k : Int), (∀ x ∈ l, x.code.length ≤ 2 ^ 20 ∧ x.seen.length ≤ 2 ^ 20) → 0 ≤ k → 0 ≤ kParts l k ∧ kParts l k ≤ k + l.length * 16777216
  | [], k, _, h0 => ⟨h0, by simp [kParts]⟩
  | x :: l, k, h, h0 => by
    have hx := h x List.mem_cons_self
    have := kParts_le l (kPart x k) (fun y hy => h y (List.mem_cons_of_mem _ hy)) (by unfold kPart; omega)
    simp only [kParts, List.length_cons]
    unfold kPart at this ⊢
    omega
theorem kPorts_le : ∀ (l : List PortV) (k : Int), (∀ x ∈ l, x.asks.length ≤ 2 ^ 20 ∧ x.tells.length ≤ 2 ^ 20) → 0 ≤ k → 0 ≤ kPorts l k ∧ kPorts l k ≤ k + l.length * 16777216
  | [], k, _, h0 => ⟨h0, by simp [kPorts]⟩
  | x :: l, k, h, h0 => by
    have hx := h x List.mem_cons_self
    have := kPorts_le l (kPort x k) (fun y hy => h y (List.mem_cons_of_mem _ hy)) (by unfold kPort; omega)
    simp only [kPorts, List.length_cons]
    unfold kPort at this ⊢
    omega
def kFtl (x : FtlV) (k : Int) : Int := k + x.pages.length + x.wear.length + x.map.length
def kSys (x : SysV) (k : Int) : Int := kPorts x.ports (kParts x.parts (kFtl x.ftl k))
theorem marksPart_clean : ∀ (l : List PartV) (k : Int), cleanRs (marksPart l k) = true
  | [], _ => rfl
  | x :: l, k => by simp [marksPart, cleanRs, mkPartM, cleanR, T.clean, marksIns_clean, marksTell_clean, marksPart_clean l]
theorem marksPort_clean : ∀ (l : List PortV) (k : Int), cleanRs (marksPort l k) = true
  | [], _ => rfl
  | x :: l, k => by simp [marksPort, cleanRs, mkPortM, cleanR, T.clean, marksOp_clean, marksTell_clean, marksPort_clean l]

theorem runs_30 (x : SysV) (k : Int) (hs : x.small) (h0 : 0 ≤ k) (h1 : k ≤ 2 ^ 30) :
    Runs Try.prog 30 [.agg [.v (.list true 1 (x.ftl.pages.map sRow)), .v (.list true 1 (x.ftl.wear.map nRow)), .v (.list true 1 (x.ftl.map.map nRow)), .v (.int .i64 x.ftl.seq), .v (.list true 4 (x.parts.map partRowO)), .v (.list true 2 (x.ports.map portRowO)), .v (.int .i64 x.tick)], .one (.v (.int .i64 k))] [.one (.v (.int .i64 (kSys x k)))]
      [(0, ⟨false, 1, (marks k x.ftl.pages.length).map sRow, []⟩), (1, ⟨false, 1, (marksN (k + x.ftl.pages.length) x.ftl.wear.length).map nRow, []⟩), (2, ⟨false, 1, (marksN (k + x.ftl.pages.length + x.ftl.wear.length) x.ftl.map.length).map nRow, []⟩), (4, ⟨false, 4, marksPart x.parts (kFtl x.ftl k), []⟩), (5, ⟨false, 2, marksPort x.ports (kParts x.parts (kFtl x.ftl k)), []⟩)] := by
  refine runs_tabB (tab := [(0, .agg [.al 0 [] 0 1 0 x.ftl.pages.length, .al 1 [] 0 1 0 x.ftl.wear.length, .al 2 [] 0 1 0 x.ftl.map.length, .c (.int .i64 x.ftl.seq), .al 4 [] 0 4 0 x.parts.length, .al 5 [] 0 2 0 x.ports.length, .c (.int .i64 x.tick)]), (1, .c (.int .i64 k))]) (rts := [(5, some ⟨false, 2, x.ports.map portRowO, []⟩), (4, some ⟨false, 4, x.parts.map partRowO, []⟩), (2, some ⟨false, 1, x.ftl.map.map nRow, []⟩), (1, some ⟨false, 1, x.ftl.wear.map nRow, []⟩), (0, some ⟨false, 1, x.ftl.pages.map sRow, []⟩)]) (n := 18) (k := 8) Try.func30 rfl rfl (by simp) rfl (fun t => ?_) ?_ ?_
  · rcases t with _ | _ | t
    · simp [rvv, RT.vv, CT.vv, cvv, envOf, tabE_cons]
    · rfl
    · rfl
  · simp [rcells, RT.cells, cups, CT.ups]
    funext r
    simp [St.put, tabS, st0]
  have s1 := hs.ftl.pages
  have s2 := hs.ftl.wear
  have s3 := hs.ftl.map
  have s4 := hs.nparts
  have s5 := hs.nports
  have r1 := runs_97 x.ftl k (by omega) (by omega) (by omega) h0 (by omega)
  have e1 : k + x.ftl.pages.length + x.ftl.wear.length + x.ftl.map.length = kFtl x.ftl k := rfl
  rw [e1] at r1
  have b1 : 0 ≤ kFtl x.ftl k ∧ kFtl x.ftl k ≤ 2 ^ 40 := by unfold kFtl; omega
  have r2 := runs_98 x.parts (kFtl x.ftl k) s4 hs.parts b1.1 (by omega)
  have b2 := kParts_le x.parts (kFtl x.ftl k) hs.parts b1.1
  have r3 := runs_99 x.ports (kParts x.parts (kFtl x.ftl k)) s5 hs.ports b2.1 (by omega)
  refine vw_go1 rfl rfl (box_ro rfl rfl) ?_
  simp only [go_sem, setCells, setIn]
  (refine vw_go rfl ?_; simp only [go_sem, setCells, setIn])
  (refine ⟨_, _, call_bm [0, 0] [.back, .ro] [.b 0 0 ⟨false, 1, x.ftl.pages.map sRow, []⟩ ((marks k x.ftl.pages.length).map sRow), .b 1 0 ⟨false, 1, x.ftl.wear.map nRow, []⟩ ((marksN (k + x.ftl.pages.length) x.ftl.wear.length).map nRow), .b 2 0 ⟨false, 1, x.ftl.map.map nRow, []⟩ ((marksN (k + x.ftl.pages.length + x.ftl.wear.length) x.ftl.map.length).map nRow), .o true (.int .i64 x.ftl.seq), .o false (.int .i64 k)] Try.func97 (r1) rfl rfl rfl rfl rfl rfl rfl rfl (by simp [VV.cells, ev, tabE_cons, BC.mc, BC.md, sRow_r1, sRow_comp, sRow_clean, nRow_r1, nRow_comp, nRow_clean, insRow_clean, opRow_clean, tellRow_clean]) (by simp [BC.ok, tabS_cons, sRow_r1, sRow_comp, sRow_clean, nRow_r1, nRow_comp, nRow_clean, insRow_clean, opRow_clean, tellRow_clean]) (by simp [BC.rs]) (by simp [rcells, RT.cells, BC.cc, T.toRO, sRow_r1, sRow_comp, sRow_clean, nRow_r1, nRow_comp, nRow_clean, insRow_clean, opRow_clean, tellRow_clean]) rfl rfl rfl rfl, ?_⟩)
  simp only [runH, runX, go_sem, setCells, setIn]
  (refine vw_go rfl ?_; simp only [go_sem, setCells, setIn])
  (refine ⟨_, _, call_bs [0, 0] [.back, .ro] [(4, 0, ⟨false, 4, x.parts.map partRowO, []⟩)] [marksPart x.parts (kFtl x.ftl k)] (rest := [.c (.int .i64 (kFtl x.ftl k))]) Try.func98 (r2) rfl rfl rfl rfl rfl rfl rfl rfl (by simp [VV.cells, ev, tabE_cons, sRow_r1, sRow_comp, sRow_clean, nRow_r1, nRow_comp, nRow_clean, insRow_clean, opRow_clean, tellRow_clean, marksPart_clean]) (by simp [tabS_cons, sRow_r1, sRow_comp, sRow_clean, nRow_r1, nRow_comp, nRow_clean, insRow_clean, opRow_clean, tellRow_clean, marksPart_clean]) (by simp) rfl rfl (by simp [rcells, RT.cells, sRow_r1, sRow_comp, sRow_clean, nRow_r1, nRow_comp, nRow_clean, insRow_clean, opRow_clean, tellRow_clean, marksPart_clean]) rfl rfl (by simp [clean_map, sRow_r1, sRow_comp, sRow_clean, nRow_r1, nRow_comp, nRow_clean, insRow_clean, opRow_clean, tellRow_clean, marksPart_clean]) rfl rfl, ?_⟩)
  simp only [runH, runX, go_sem, setCells, setIn]
  (refine vw_go rfl ?_; simp only [go_sem, setCells, setIn])
  (refine ⟨_, _, call_bs [0, 0] [.back, .ro] [(5, 0, ⟨false, 2, x.ports.map portRowO, []⟩)] [marksPort x.ports (kParts x.parts (kFtl x.ftl k))] (rest := [.c (.int .i64 (kParts x.parts (kFtl x.ftl k)))]) Try.func99 (r3) rfl rfl rfl rfl rfl rfl rfl rfl (by simp [VV.cells, ev, tabE_cons, sRow_r1, sRow_comp, sRow_clean, nRow_r1, nRow_comp, nRow_clean, insRow_clean, opRow_clean, tellRow_clean, marksPort_clean]) (by simp [tabS_cons, sRow_r1, sRow_comp, sRow_clean, nRow_r1, nRow_comp, nRow_clean, insRow_clean, opRow_clean, tellRow_clean, marksPort_clean]) (by simp) rfl rfl (by simp [rcells, RT.cells, sRow_r1, sRow_comp, sRow_clean, nRow_r1, nRow_comp, nRow_clean, insRow_clean, opRow_clean, tellRow_clean, marksPort_clean]) rfl rfl (by simp [clean_map, sRow_r1, sRow_comp, sRow_clean, nRow_r1, nRow_comp, nRow_clean, insRow_clean, opRow_clean, tellRow_clean, marksPort_clean]) rfl rfl, ?_⟩)
  simp only [runH, runX, go_sem, setCells, setIn]
  (refine vw_go rfl ?_; simp only [go_sem, setCells, setIn])
  exact vw_ret (e_ret (ret_b rfl rfl (by simp [RB]) rfl rfl ⟨⟨by simp, _, rfl, rfl, rfl, rfl⟩, ⟨by simp, _, rfl, rfl, rfl, rfl⟩, ⟨by simp, _, rfl, rfl, rfl, rfl⟩, ⟨by simp, _, rfl, rfl, rfl, rfl⟩, ⟨by simp, _, rfl, rfl, rfl, rfl⟩, trivial⟩))
end Go.Proofs.Ytppbonbghmdhhaa
