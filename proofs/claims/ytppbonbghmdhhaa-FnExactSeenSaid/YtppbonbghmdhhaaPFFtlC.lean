/- Size, copy, comparing of numbers, chips, what is mounted. Printed by fcf.py. -/
import Derived.Test.YtppbonbghmdhhaaPFMount
namespace Go.Proofs.Ytppbonbghmdhhaa
open Go.VM Go
set_option maxRecDepth 100000
set_option linter.unusedSimpArgs false
set_option linter.unusedVariables false
attribute [local congr] vw_congr runV_congr runH_congr runW_congr runX_congr
def zN : List T := [.int .i64 0]
def szNT (l : List Int) (left : Int) : Int := if left - l.length < 0 then -1 else left - l.length
theorem szNT_le (l : List Int) (left : Int) (h : 0 ≤ left) : szNT l left ≤ left := by unfold szNT; split <;> omega
theorem szNT_len {l : List Int} {left : Int} (h : ¬ szNT l left < 0) : (l.length : Int) ≤ left := by
  unfold szNT at h
  split at h
  · exact absurd (by decide) h
  · omega
theorem runs_79 (l : List Int) (left : Int) (hl : l.length < 2 ^ 63) (h0 : 0 ≤ left) (h1 : left < 2 ^ 63) :
    Runs Try.prog 79 [.one (.v (.list false 1 (l.map nRow))), .one (.v (.int .i64 left))] [.one (.v (.int .i64 (szNT l left)))] [] := by
  refine runs_tab (tab := [(0, .c (.list false 1 (l.map nRow))), (1, .c (.int .i64 left))]) (rts := []) (n := 12) (k := 2) Try.func79 rfl rfl (by simp) rfl (fun t => ?_) rfl ?_
  · rcases t with _ | _ | t <;> rfl
  have w1 : IntKind.wrap .i64 (left - l.length) = left - l.length := wrap_i64 (by omega) (by omega)
  unfold szNT
  (refine vw_go rfl ?_; simp only [go_sem, setCells, setIn])
  (refine vw_go rfl ?_; simp only [w1, go_sem, setCells, setIn])
  refine vw_seq ?_
  by_cases h : left - l.length < 0
  · (refine vw_go rfl ?_; simp only [h, go_sem, setCells, setIn])
    (refine vw_cond (t := true) rfl (fun _ => ?_) (fun h => nomatch h))
    (refine vw_go rfl ?_; simp only [go_sem, setCells, setIn])
    exact vw_ret (r_then (e_ret (ret_of rfl rfl (by simp [RB]) rfl rfl)))
  · (refine vw_go rfl ?_; simp only [h, go_sem, setCells, setIn])
    (refine vw_cond (t := false) rfl (fun h => nomatch h) (fun _ => ?_))
    refine vw_skip (n_then ?_)
    (refine vw_go rfl ?_; simp only [go_sem, setCells, setIn])
    exact vw_ret (e_ret (ret_of rfl rfl (by simp [RB]) rfl rfl))

theorem runs_82 (l : List Int) (hl : l.length ≤ 2 ^ 20) :
    Runs Try.prog 82 [.one (.v (.list false 1 (l.map nRow)))] [.one (.v (.list true 1 (l.map nRow)))] [] := by
  refine runs_tab (tab := [(0, .c (.list false 1 (l.map nRow)))]) (rts := []) (n := 22) (k := 1) Try.func82 rfl rfl (by simp) rfl (fun t => ?_) rfl ?_
  · rcases t with _ | t <;> rfl
  have b1 : (0:Int) ≤ (l.length : Int) := by omega
  have b2 : (l.length : Int) * (((8:Nat):Int) + 1) ≤ ((bigRow : Nat) : Int) := by simp only [bigRow]; omega
  have b3 : (l.length : Int) ≤ (l.length : Int) := by omega
  (refine vw_go rfl ?_; simp only [go_sem, setCells, setIn])
  (refine vw_go rfl ?_; simp only [b1, b2, b3, Int.toNat_natCast, go_sem, setCells, setIn])
  refine vw_seq ?_
  (refine vw_go rfl ?_; simp only [go_sem, setCells, setIn])
  refine vw_block ?_
  refine vw_loop_tab (α := Nat) (fun x => l.length - x) (fun x => ⟨tabE [(0, .c (.list false 1 (l.map nRow))), (3, .al 1 [] 0 1 0 l.length), (4, .c (.int .i64 x))], tabS [(1, some ⟨false, 1, fillW nRow zN l x, []⟩)], 2⟩)
    (fun x => x ≤ l.length) (x := 0) ?round ?h0 ?hn
  case h0 => exact Nat.zero_le _
  case hn =>
    (refine norm_to [(67585, 1)] rfl ?_ ?_ <;> simp only [go_sem])
    · simp [fillW_zero, zN]
  intro i hi
  refine vw_seq ?_
  (refine vw_go rfl ?_; simp only [go_sem, setCells, setIn])
  refine vw_cond (t := decide ((i : Int) < l.length)) rfl (fun h => ?_) (fun h => ?_)
  · refine vw_skip (n_then ?_)
    rcases get_or l i with ⟨x, hx, hlt⟩ | ⟨_, hge⟩
    case inr => simp only [decide_eq_true_eq] at h; omega
    have c1 : (0:Int) ≤ (i:Int) := by omega
    have c2 : (i:Int) < (l.length : Int) := by omega
    have e1 : (fillW nRow zN l i).length = l.length := fillW_len hi
    have e2 : (fillW nRow zN l i).getD i [] = zN := fillW_get hlt
    have e3 : setCells i 0 [.int .i64 x] (fillW nRow zN l i) = fillW nRow zN l (i + 1) := fillW_set hx rfl rfl
    have e4 : zN.length = 1 := rfl
    refine vw_seq ?_
    refine vw_block ?_
    (refine vw_last rfl ?_; simp only [c1, c2, e1, e2, e3, e4, hlt, Int.toNat_natCast, getD_map_of hx, nRow, go_sem])
    refine (n_block (n_then ?_))
    have w2 : IntKind.wrap .i64 ((i:Int) + 1) = ((i + 1 : Nat) : Int) := by rw [wrap_i64 (by omega) (by omega)]; rfl
    (refine vw_last rfl ?_; simp only [w2, go_sem, setCells, setIn])
    refine (n_then ?_)
    refine ⟨i + 1, by omega, hlt, ?_⟩
    (refine norm_to [(1, 1)] rfl ?_ ?_ <;> simp only [go_sem])
  · refine vw_exit (x_then (x_then (x_block (n_then ?_))))
    (refine vw_go rfl ?_; simp only [go_sem, setCells, setIn])
    simp only [decide_eq_false_iff_not] at h
    have : i = l.length := by omega
    subst this
    rw [← fillW_end nRow zN l]
    exact vw_ret (e_ret (ret_of rfl rfl (by simp [RB]) rfl (take_whole (R := ⟨false, 1, fillW nRow zN l l.length, []⟩) rfl rfl rfl (fillW_len (Nat.le_refl _)))))


theorem runs_86 (a b : List Int) (ha : a.length < 2 ^ 63) (hb : b.length < 2 ^ 63) :
    Runs Try.prog 86 [.one (.v (.list false 1 (a.map nRow))), .one (.v (.list false 1 (b.map nRow)))] [.one (.v (.bool (decide (a = b))))] [] := by
  refine runs_tab (tab := [(0, .c (.list false 1 (a.map nRow))), (1, .c (.list false 1 (b.map nRow)))]) (rts := []) (n := 26) (k := 2) Try.func86 rfl rfl (by simp) rfl (fun t => ?_) rfl ?_
  · rcases t with _ | _ | t <;> rfl
  (refine vw_go rfl ?_; simp only [go_sem, setCells, setIn])
  refine vw_seq ?_
  (refine vw_go rfl ?_; simp only [go_sem, setCells, setIn])
  refine vw_cond (t := !decide ((a.length : Int) = b.length)) rfl (fun h => ?_) (fun h => ?_)
  · (refine vw_go rfl ?_; simp only [go_sem, setCells, setIn])
    have h' : ¬ a = b := by
      intro e; subst e; simp at h
    rw [decide_eq_false h']
    exact vw_ret (r_then (e_ret (ret_of rfl rfl (by simp [RB]) rfl rfl)))
  · have hab : a.length = b.length := by
      have : (a.length : Int) = b.length := by simpa using h
      omega
    refine vw_skip (n_then ?_)
    refine vw_seq ?_
    (refine vw_go rfl ?_; simp only [go_sem, setCells, setIn])
    refine vw_block ?_
    refine vw_loop_tab (α := Nat) (fun x => a.length - x) (fun x => ⟨tabE [(0, .c (.list false 1 (a.map nRow))), (1, .c (.list false 1 (b.map nRow))), (5, .c (.int .i64 x))], tabS [], 2⟩)
      (fun x => x ≤ a.length ∧ a.take x = b.take x) (x := 0) ?round ?h0 ?hn
    case h0 => exact ⟨Nat.zero_le _, by simp⟩
    case hn => (refine norm_to [] rfl ?_ ?_ <;> simp only [go_sem])
    rintro i ⟨hi, htk⟩
    refine vw_seq ?_
    (refine vw_go rfl ?_; simp only [go_sem, setCells, setIn])
    refine vw_cond (t := decide ((i : Int) < a.length)) rfl (fun h => ?_) (fun h => ?_)
    · refine vw_skip (n_then ?_)
      rcases get_or a i with ⟨x, hx, hlt⟩ | ⟨_, hge⟩
      case inr => simp only [decide_eq_true_eq] at h; omega
      rcases get_or b i with ⟨y, hy, hlt'⟩ | ⟨_, hge⟩
      case inr => omega
      have c1 : (0:Int) ≤ (i:Int) := by omega
      have c2 : (i:Int) < (a.length : Int) := by omega
      have c3 : (i:Int) < (b.length : Int) := by omega
      refine vw_seq ?_
      refine vw_block ?_
      (refine vw_draw mixed rfl rfl ?_; simp only [c1, c2, c3, Int.toNat_natCast, getD_map_of hx, getD_map_of hy, nRow, go_sem, setCells, setIn])
      refine ⟨by unfold allOk; kernel_rfl, ?_⟩
      refine vw_cond (t := !decide (x = y)) rfl (fun h => ?_) (fun h => ?_)
      · (refine vw_go rfl ?_; simp only [go_sem, setCells, setIn])
        have h' : ¬ a = b := by
          intro e; subst e
          rw [hx] at hy
          simp only [Option.some.injEq] at hy
          subst hy
          simp at h
        rw [decide_eq_false h']
        exact vw_ret (r_block (r_then (r_then (r_block (r_then (e_ret (ret_of rfl rfl (by simp [RB]) rfl rfl)))))))
      · refine vw_skip (n_block (n_then ?_))
        have w2 : IntKind.wrap .i64 ((i:Int) + 1) = ((i + 1 : Nat) : Int) := by rw [wrap_i64 (by omega) (by omega)]; rfl
        (refine vw_last rfl ?_; simp only [w2, go_sem, setCells, setIn])
        refine (n_then ?_)
        have hxy : x = y := by simpa using h
        refine ⟨i + 1, by omega, ⟨hlt, ?_⟩, ?_⟩
        · rw [List.take_add_one, List.take_add_one, hx, hy, htk, hxy]
        · (refine norm_to [] rfl ?_ ?_ <;> simp only [go_sem])
    · refine vw_exit (x_then (x_then (x_block (n_then ?_))))
      (refine vw_go rfl ?_; simp only [go_sem, setCells, setIn])
      simp only [decide_eq_false_iff_not] at h
      have h' : a = b := by
        have e1 : i = a.length := by omega
        rw [e1, List.take_length, hab, List.take_length] at htk
        exact htk
      rw [decide_eq_true h']
      exact vw_ret (e_ret (ret_of rfl rfl (by simp [RB]) rfl rfl))


structure ChipV where
  pages : List ByteArray
  wear : List Int
  deriving DecidableEq
def ChipV.ok (x : ChipV) : Prop := (x.pages.length < 2 ^ 63 ∧ ∀ y ∈ x.pages, y.size < 2 ^ 63) ∧ x.wear.length < 2 ^ 63
def FtlV.chip (x : FtlV) : ChipV := ⟨x.pages, x.wear⟩
def FtlV.ok (x : FtlV) : Prop := x.chip.ok ∧ x.map.length < 2 ^ 63

def szChip (x : ChipV) (left : Int) : Int := if szST x.pages left < 0 then -1 else if szNT x.wear (szST x.pages left) < 0 then -1 else szNT x.wear (szST x.pages left)
theorem runs_78 (x : ChipV) (left : Int) (hx : x.ok) (h0 : 0 ≤ left) (h1 : left < 2 ^ 63) :
    Runs Try.prog 78 [.agg [.v (.list false 1 (x.pages.map sRow)), .v (.list false 1 (x.wear.map nRow))], .one (.v (.int .i64 left))] [.one (.v (.int .i64 (szChip x left)))] [] := by
  refine runs_tab (tab := [(0, .agg [.c (.list false 1 (x.pages.map sRow)), .c (.list false 1 (x.wear.map nRow))]), (1, .c (.int .i64 left))]) (rts := []) (n := 18) (k := 3) Try.func78 rfl rfl (by simp) rfl (fun t => ?_) rfl ?_
  · rcases t with _ | _ | t <;> rfl
  have l1 := szST_le x.pages left h0
  unfold szChip
  (refine vw_go rfl ?_; simp only [go_sem, setCells, setIn])
  (refine vw_go rfl ?_; simp only [go_sem, setCells, setIn])
  (refine ⟨_, _, call_rx [0, 0] Try.func10 (runs_10 x.pages left hx.1.2 hx.1.1 h0 h1) rfl rfl rfl rfl rfl rfl rfl (by simp [lendAll, lendC, seek, fresh, nav, rcells, RT.cells, VV.cells, tabE_cons, tabS_cons, ev, take_map_len, sRow_r1, sRow_comp, sRow_clean, nRow_r1, nRow_comp, nRow_clean, FtlV.chip]) rfl (by simp [rcells, RT.cells, CT.clean, T.clean, sRow_r1, sRow_comp, sRow_clean, nRow_r1, nRow_comp, nRow_clean, FtlV.chip]) rfl rfl, ?_⟩)
  simp only [runH, runX, go_sem, setCells, setIn]
  refine vw_seq ?_
  by_cases g0 : szST x.pages left < 0
  · (refine vw_go rfl ?_; simp only [g0, go_sem, setCells, setIn])
    (refine vw_cond (t := true) rfl (fun _ => ?_) (fun h => nomatch h))
    (refine vw_go rfl ?_; simp only [go_sem, setCells, setIn])
    exact vw_ret (r_then (e_ret (ret_of rfl rfl (by simp [RB]) rfl rfl)))
  (refine vw_go rfl ?_; simp only [g0, go_sem, setCells, setIn])
  (refine vw_cond (t := false) rfl (fun h => nomatch h) (fun _ => ?_))
  refine vw_skip (n_then ?_)
  (refine vw_go rfl ?_; simp only [go_sem, setCells, setIn])
  (refine ⟨_, _, call_rx [0, 0] Try.func79 (runs_79 x.wear (szST x.pages left) hx.2 (by omega) (by omega)) rfl rfl rfl rfl rfl rfl rfl (by simp [lendAll, lendC, seek, fresh, nav, rcells, RT.cells, VV.cells, tabE_cons, tabS_cons, ev, take_map_len, sRow_r1, sRow_comp, sRow_clean, nRow_r1, nRow_comp, nRow_clean]) rfl (by simp [rcells, RT.cells, CT.clean, T.clean, sRow_r1, sRow_comp, sRow_clean, nRow_r1, nRow_comp, nRow_clean]) rfl rfl, ?_⟩)
  simp only [runH, runX, go_sem, setCells, setIn]
  refine vw_seq ?_
  by_cases g1 : szNT x.wear (szST x.pages left) < 0
  · (refine vw_go rfl ?_; simp only [g1, go_sem, setCells, setIn])
    (refine vw_cond (t := true) rfl (fun _ => ?_) (fun h => nomatch h))
    (refine vw_go rfl ?_; simp only [go_sem, setCells, setIn])
    exact vw_ret (r_then (e_ret (ret_of rfl rfl (by simp [RB]) rfl rfl)))
  (refine vw_go rfl ?_; simp only [g1, go_sem, setCells, setIn])
  (refine vw_cond (t := false) rfl (fun h => nomatch h) (fun _ => ?_))
  refine vw_skip (n_then ?_)
  (refine vw_go rfl ?_; simp only [go_sem, setCells, setIn])
  exact vw_ret (e_ret (ret_of rfl rfl (by simp [RB]) rfl rfl))
theorem szChip_le (x : ChipV) (left : Int) (h : 0 ≤ left) : szChip x left ≤ left := by
  unfold szChip
  have a := szST_le x.pages left h
  split
  · omega
  · rename_i g
    have b := szNT_le x.wear (szST x.pages left) (by omega)
    split <;> omega
theorem szChip_len {x : ChipV} {left : Int} (h0 : 0 ≤ left) (h : ¬ szChip x left < 0) : (x.pages.length : Int) ≤ left ∧ (x.wear.length : Int) ≤ left := by
  unfold szChip at h
  have l1 := szST_le x.pages left h0
  split at h
  · exact absurd (by decide) h
  · rename_i g0
    split at h
    · exact absurd (by decide) h
    · rename_i g1
      have a := szST_len g0
      have b := szNT_len g1
      omega

def szFtl (x : FtlV) (left : Int) : Int := if szChip x.chip left < 0 then -1 else if szNT x.map (szChip x.chip left) < 0 then -1 else szNT x.map (szChip x.chip left)
theorem runs_19 (x : FtlV) (left : Int) (hx : x.ok) (h0 : 0 ≤ left) (h1 : left < 2 ^ 63) :
    Runs Try.prog 19 [.agg [.v (.list false 1 (x.pages.map sRow)), .v (.list false 1 (x.wear.map nRow)), .v (.list false 1 (x.map.map nRow)), .v (.int .i64 x.seq)], .one (.v (.int .i64 left))] [.one (.v (.int .i64 (szFtl x left)))] [] := by
  refine runs_tab (tab := [(0, .agg [.c (.list false 1 (x.pages.map sRow)), .c (.list false 1 (x.wear.map nRow)), .c (.list false 1 (x.map.map nRow)), .c (.int .i64 x.seq)]), (1, .c (.int .i64 left))]) (rts := []) (n := 18) (k := 5) Try.func19 rfl rfl (by simp) rfl (fun t => ?_) rfl ?_
  · rcases t with _ | _ | t <;> rfl
  have l1 := szChip_le x.chip left h0
  unfold szFtl
  (refine vw_go rfl ?_; simp only [go_sem, setCells, setIn])
  (refine vw_go rfl ?_; simp only [go_sem, setCells, setIn])
  (refine ⟨_, _, call_rx [0, 0] Try.func78 (runs_78 x.chip left hx.1 h0 h1) rfl rfl rfl rfl rfl rfl rfl (by simp [lendAll, lendC, seek, fresh, nav, rcells, RT.cells, VV.cells, tabE_cons, tabS_cons, ev, take_map_len, sRow_r1, sRow_comp, sRow_clean, nRow_r1, nRow_comp, nRow_clean, FtlV.chip]) rfl (by simp [rcells, RT.cells, CT.clean, T.clean, sRow_r1, sRow_comp, sRow_clean, nRow_r1, nRow_comp, nRow_clean, FtlV.chip]) rfl rfl, ?_⟩)
  simp only [runH, runX, go_sem, setCells, setIn]
  refine vw_seq ?_
  by_cases g0 : szChip x.chip left < 0
  · (refine vw_go rfl ?_; simp only [g0, go_sem, setCells, setIn])
    (refine vw_cond (t := true) rfl (fun _ => ?_) (fun h => nomatch h))
    (refine vw_go rfl ?_; simp only [go_sem, setCells, setIn])
    exact vw_ret (r_then (e_ret (ret_of rfl rfl (by simp [RB]) rfl rfl)))
  (refine vw_go rfl ?_; simp only [g0, go_sem, setCells, setIn])
  (refine vw_cond (t := false) rfl (fun h => nomatch h) (fun _ => ?_))
  refine vw_skip (n_then ?_)
  (refine vw_go rfl ?_; simp only [go_sem, setCells, setIn])
  (refine ⟨_, _, call_rx [0, 0] Try.func79 (runs_79 x.map (szChip x.chip left) hx.2 (by omega) (by omega)) rfl rfl rfl rfl rfl rfl rfl (by simp [lendAll, lendC, seek, fresh, nav, rcells, RT.cells, VV.cells, tabE_cons, tabS_cons, ev, take_map_len, sRow_r1, sRow_comp, sRow_clean, nRow_r1, nRow_comp, nRow_clean]) rfl (by simp [rcells, RT.cells, CT.clean, T.clean, sRow_r1, sRow_comp, sRow_clean, nRow_r1, nRow_comp, nRow_clean]) rfl rfl, ?_⟩)
  simp only [runH, runX, go_sem, setCells, setIn]
  refine vw_seq ?_
  by_cases g1 : szNT x.map (szChip x.chip left) < 0
  · (refine vw_go rfl ?_; simp only [g1, go_sem, setCells, setIn])
    (refine vw_cond (t := true) rfl (fun _ => ?_) (fun h => nomatch h))
    (refine vw_go rfl ?_; simp only [go_sem, setCells, setIn])
    exact vw_ret (r_then (e_ret (ret_of rfl rfl (by simp [RB]) rfl rfl)))
  (refine vw_go rfl ?_; simp only [g1, go_sem, setCells, setIn])
  (refine vw_cond (t := false) rfl (fun h => nomatch h) (fun _ => ?_))
  refine vw_skip (n_then ?_)
  (refine vw_go rfl ?_; simp only [go_sem, setCells, setIn])
  exact vw_ret (e_ret (ret_of rfl rfl (by simp [RB]) rfl rfl))
theorem szFtl_le (x : FtlV) (left : Int) (h : 0 ≤ left) : szFtl x left ≤ left := by
  unfold szFtl
  have a := szChip_le x.chip left h
  split
  · omega
  · rename_i g
    have b := szNT_le x.map (szChip x.chip left) (by omega)
    split <;> omega
theorem szFtl_len {x : FtlV} {left : Int} (h0 : 0 ≤ left) (h : ¬ szFtl x left < 0) : (x.pages.length : Int) ≤ left ∧ (x.wear.length : Int) ≤ left ∧ (x.map.length : Int) ≤ left := by
  unfold szFtl at h
  have l1 := szChip_le x.chip left h0
  split at h
  · exact absurd (by decide) h
  · rename_i g0
    split at h
    · exact absurd (by decide) h
    · rename_i g1
      obtain ⟨a1, a2⟩ := szChip_len h0 g0
      have b := szNT_len g1
      exact ⟨a1, a2, by omega⟩
theorem runs_81 (x : ChipV) (hp : x.pages.length ≤ 2 ^ 20) (hw : x.wear.length ≤ 2 ^ 20) : Runs Try.prog 81 [.agg [.v (.list false 1 (x.pages.map sRow)), .v (.list false 1 (x.wear.map nRow))]] [.agg [.v (.list true 1 (x.pages.map sRow)), .v (.list true 1 (x.wear.map nRow))]] [] := by
  refine runs_tab (tab := [(0, .agg [.c (.list false 1 (x.pages.map sRow)), .c (.list false 1 (x.wear.map nRow))])]) (rts := []) (n := 13) (k := 2) Try.func81 rfl rfl (by simp) rfl (fun t => ?_) rfl ?_
  · cases t <;> rfl
  (refine vw_go rfl ?_; simp only [go_sem, setCells, setIn])
  (refine vw_go rfl ?_; simp only [go_sem, setCells, setIn])
  (refine vw_go rfl ?_; simp only [go_sem, setCells, setIn])
  (refine ⟨_, _, call_rx [0] Try.func12 (runs_12 x.pages hp) rfl rfl rfl rfl rfl rfl rfl (by simp [lendAll, lendC, seek, fresh, nav, rcells, RT.cells, VV.cells, tabE_cons, tabS_cons, ev, take_map_len, sRow_r1, sRow_comp, sRow_clean, nRow_r1, nRow_comp, nRow_clean]) rfl (by simp [rcells, RT.cells, CT.clean, T.clean, sRow_r1, sRow_comp, sRow_clean, nRow_r1, nRow_comp, nRow_clean]) rfl rfl, ?_⟩)
  simp only [runH, runX, go_sem, setCells, setIn]
  (refine vw_go rfl ?_; simp only [go_sem, setCells, setIn])
  (refine ⟨_, _, call_rx [0] Try.func82 (runs_82 x.wear hw) rfl rfl rfl rfl rfl rfl rfl (by simp [lendAll, lendC, seek, fresh, nav, rcells, RT.cells, VV.cells, tabE_cons, tabS_cons, ev, take_map_len, sRow_r1, sRow_comp, sRow_clean, nRow_r1, nRow_comp, nRow_clean]) rfl (by simp [rcells, RT.cells, CT.clean, T.clean, sRow_r1, sRow_comp, sRow_clean, nRow_r1, nRow_comp, nRow_clean]) rfl rfl, ?_⟩)
  simp only [runH, runX, go_sem, setCells, setIn]
  (refine vw_go rfl ?_; simp only [go_sem, setCells, setIn])
  exact vw_ret (e_ret (ret_by rfl rfl (by simp [RB]) rfl (by simp only [takeCs, takeC, go_sem, setCells, setIn])))
theorem runs_21 (x : FtlV) (hp : x.pages.length ≤ 2 ^ 20) (hw : x.wear.length ≤ 2 ^ 20) (hm : x.map.length ≤ 2 ^ 20) : Runs Try.prog 21 [.agg [.v (.list false 1 (x.pages.map sRow)), .v (.list false 1 (x.wear.map nRow)), .v (.list false 1 (x.map.map nRow)), .v (.int .i64 x.seq)]] [.agg [.v (.list true 1 (x.pages.map sRow)), .v (.list true 1 (x.wear.map nRow)), .v (.list true 1 (x.map.map nRow)), .v (.int .i64 x.seq)]] [] := by
  refine runs_tab (tab := [(0, .agg [.c (.list false 1 (x.pages.map sRow)), .c (.list false 1 (x.wear.map nRow)), .c (.list false 1 (x.map.map nRow)), .c (.int .i64 x.seq)])]) (rts := []) (n := 16) (k := 4) Try.func21 rfl rfl (by simp) rfl (fun t => ?_) rfl ?_
  · cases t <;> rfl
  have r1 := runs_81 ⟨x.pages, x.wear⟩ hp hw
  simp only at r1
  have qp : (x.pages.map sRow).take x.pages.length = x.pages.map sRow := by rw [List.take_of_length_le (by simp)]
  have qw : (x.wear.map nRow).take x.wear.length = x.wear.map nRow := by rw [List.take_of_length_le (by simp)]
  (refine vw_go rfl ?_; simp only [go_sem, setCells, setIn])
  (refine vw_go rfl ?_; simp only [go_sem, setCells, setIn])
  (refine vw_go rfl ?_; simp only [go_sem, setCells, setIn])
  (refine ⟨_, _, call_rx [0] Try.func81 (r1) rfl rfl rfl rfl rfl rfl rfl (by simp [lendAll, lendC, seek, fresh, nav, rcells, RT.cells, VV.cells, tabE_cons, tabS_cons, ev, take_map_len, sRow_r1, sRow_comp, sRow_clean, nRow_r1, nRow_comp, nRow_clean, FtlV.chip]) rfl (by simp [rcells, RT.cells, CT.clean, T.clean, sRow_r1, sRow_comp, sRow_clean, nRow_r1, nRow_comp, nRow_clean, FtlV.chip]) rfl rfl, ?_⟩)
  simp only [runH, runX, FtlV.chip, qp, qw, List.length_map, go_sem, setCells, setIn]
  (refine vw_go rfl ?_; simp only [go_sem, setCells, setIn])
  (refine ⟨_, _, call_rx [0] Try.func82 (runs_82 x.map hm) rfl rfl rfl rfl rfl rfl rfl (by simp [lendAll, lendC, seek, fresh, nav, rcells, RT.cells, VV.cells, tabE_cons, tabS_cons, ev, take_map_len, sRow_r1, sRow_comp, sRow_clean, nRow_r1, nRow_comp, nRow_clean]) rfl (by simp [rcells, RT.cells, CT.clean, T.clean, sRow_r1, sRow_comp, sRow_clean, nRow_r1, nRow_comp, nRow_clean]) rfl rfl, ?_⟩)
  simp only [runH, runX, go_sem, setCells, setIn]
  (refine vw_go rfl ?_; simp only [go_sem, setCells, setIn])
  (refine vw_go rfl ?_; simp only [go_sem, setCells, setIn])
  exact vw_ret (e_ret (ret_by rfl rfl (by simp [RB]) rfl (by simp only [takeCs, takeC, go_sem, setCells, setIn])))
theorem runs_85 (x y : ChipV) (hx : x.pages.length < 2 ^ 63 ∧ x.wear.length < 2 ^ 63) (hy : y.pages.length < 2 ^ 63 ∧ y.wear.length < 2 ^ 63) :
    Runs Try.prog 85 [.agg [.v (.list false 1 (x.pages.map sRow)), .v (.list false 1 (x.wear.map nRow))], .agg [.v (.list false 1 (y.pages.map sRow)), .v (.list false 1 (y.wear.map nRow))]] [.one (.v (.bool (decide (x = y))))] [] := by
  refine runs_tab (tab := [(0, .agg [.c (.list false 1 (x.pages.map sRow)), .c (.list false 1 (x.wear.map nRow))]), (1, .agg [.c (.list false 1 (y.pages.map sRow)), .c (.list false 1 (y.wear.map nRow))])]) (rts := []) (n := 17) (k := 4) Try.func85 rfl rfl (by simp) rfl (fun t => ?_) rfl ?_
  · rcases t with _ | _ | t <;> rfl
  (refine vw_go rfl ?_; simp only [go_sem, setCells, setIn])
  refine vw_seq ?_
  (refine vw_go rfl ?_; simp only [go_sem, setCells, setIn])
  (refine ⟨_, _, call_rx [0, 0] Try.func15 (runs_15 x.pages y.pages hx.1 hy.1) rfl rfl rfl rfl rfl rfl rfl (by simp [lendAll, lendC, seek, fresh, nav, rcells, RT.cells, VV.cells, tabE_cons, tabS_cons, ev, take_map_len, sRow_r1, sRow_comp, sRow_clean, nRow_r1, nRow_comp, nRow_clean]) rfl (by simp [rcells, RT.cells, CT.clean, T.clean, sRow_r1, sRow_comp, sRow_clean, nRow_r1, nRow_comp, nRow_clean]) rfl rfl, ?_⟩)
  simp only [runH, runX, go_sem, setCells, setIn]
  refine vw_cond (t := !decide (x.pages = y.pages)) rfl (fun g0 => ?_) (fun g0 => ?_)
  · (refine vw_go rfl ?_; simp only [go_sem, setCells, setIn])
    rw [show decide (x = y) = false from decide_eq_false (fun e => by subst e; simp at g0)]
    exact vw_ret (r_then (e_ret (ret_of rfl rfl (by simp [RB]) rfl rfl)))
  refine vw_skip (n_then ?_)
  refine vw_seq ?_
  (refine vw_go rfl ?_; simp only [go_sem, setCells, setIn])
  (refine ⟨_, _, call_rx [0, 0] Try.func86 (runs_86 x.wear y.wear hx.2 hy.2) rfl rfl rfl rfl rfl rfl rfl (by simp [lendAll, lendC, seek, fresh, nav, rcells, RT.cells, VV.cells, tabE_cons, tabS_cons, ev, take_map_len, sRow_r1, sRow_comp, sRow_clean, nRow_r1, nRow_comp, nRow_clean]) rfl (by simp [rcells, RT.cells, CT.clean, T.clean, sRow_r1, sRow_comp, sRow_clean, nRow_r1, nRow_comp, nRow_clean]) rfl rfl, ?_⟩)
  simp only [runH, runX, go_sem, setCells, setIn]
  refine vw_cond (t := !decide (x.wear = y.wear)) rfl (fun g1 => ?_) (fun g1 => ?_)
  · (refine vw_go rfl ?_; simp only [go_sem, setCells, setIn])
    rw [show decide (x = y) = false from decide_eq_false (fun e => by subst e; simp at g1)]
    exact vw_ret (r_then (e_ret (ret_of rfl rfl (by simp [RB]) rfl rfl)))
  refine vw_skip (n_then ?_)
  (refine vw_go rfl ?_; simp only [go_sem, setCells, setIn])
  rw [show decide (x = y) = true from decide_eq_true (by cases x; cases y; simp_all)]
  exact vw_ret (e_ret (ret_of rfl rfl (by simp [RB]) rfl rfl))
theorem runs_23 (x y : FtlV) (hx : x.pages.length < 2 ^ 63 ∧ x.wear.length < 2 ^ 63) (hy : y.pages.length < 2 ^ 63 ∧ y.wear.length < 2 ^ 63) (hx2 : x.map.length < 2 ^ 63) (hy2 : y.map.length < 2 ^ 63) :
    Runs Try.prog 23 [.agg [.v (.list false 1 (x.pages.map sRow)), .v (.list false 1 (x.wear.map nRow)), .v (.list false 1 (x.map.map nRow)), .v (.int .i64 x.seq)], .agg [.v (.list false 1 (y.pages.map sRow)), .v (.list false 1 (y.wear.map nRow)), .v (.list false 1 (y.map.map nRow)), .v (.int .i64 y.seq)]] [.one (.v (.bool (decide (x = y))))] [] := by
  refine runs_tab (tab := [(0, .agg [.c (.list false 1 (x.pages.map sRow)), .c (.list false 1 (x.wear.map nRow)), .c (.list false 1 (x.map.map nRow)), .c (.int .i64 x.seq)]), (1, .agg [.c (.list false 1 (y.pages.map sRow)), .c (.list false 1 (y.wear.map nRow)), .c (.list false 1 (y.map.map nRow)), .c (.int .i64 y.seq)])]) (rts := []) (n := 22) (k := 8) Try.func23 rfl rfl (by simp) rfl (fun t => ?_) rfl ?_
  · rcases t with _ | _ | t <;> rfl
  have r1 := runs_85 x.chip y.chip hx hy
  (refine vw_go rfl ?_; simp only [go_sem, setCells, setIn])
  refine vw_seq ?_
  (refine vw_go rfl ?_; simp only [go_sem, setCells, setIn])
  (refine ⟨_, _, call_rx [0, 0] Try.func85 (r1) rfl rfl rfl rfl rfl rfl rfl (by simp [lendAll, lendC, seek, fresh, nav, rcells, RT.cells, VV.cells, tabE_cons, tabS_cons, ev, take_map_len, sRow_r1, sRow_comp, sRow_clean, nRow_r1, nRow_comp, nRow_clean, FtlV.chip]) rfl (by simp [rcells, RT.cells, CT.clean, T.clean, sRow_r1, sRow_comp, sRow_clean, nRow_r1, nRow_comp, nRow_clean, FtlV.chip]) rfl rfl, ?_⟩)
  simp only [runH, runX, go_sem, setCells, setIn]
  refine vw_cond (t := !decide (x.chip = y.chip)) rfl (fun g0 => ?_) (fun g0 => ?_)
  · (refine vw_go rfl ?_; simp only [go_sem, setCells, setIn])
    rw [show decide (x = y) = false from decide_eq_false (fun e => by subst e; simp at g0)]
    exact vw_ret (r_then (e_ret (ret_of rfl rfl (by simp [RB]) rfl rfl)))
  refine vw_skip (n_then ?_)
  refine vw_seq ?_
  (refine vw_go rfl ?_; simp only [go_sem, setCells, setIn])
  (refine ⟨_, _, call_rx [0, 0] Try.func86 (runs_86 x.map y.map hx2 hy2) rfl rfl rfl rfl rfl rfl rfl (by simp [lendAll, lendC, seek, fresh, nav, rcells, RT.cells, VV.cells, tabE_cons, tabS_cons, ev, take_map_len, sRow_r1, sRow_comp, sRow_clean, nRow_r1, nRow_comp, nRow_clean]) rfl (by simp [rcells, RT.cells, CT.clean, T.clean, sRow_r1, sRow_comp, sRow_clean, nRow_r1, nRow_comp, nRow_clean]) rfl rfl, ?_⟩)
  simp only [runH, runX, go_sem, setCells, setIn]
  refine vw_cond (t := !decide (x.map = y.map)) rfl (fun g1 => ?_) (fun g1 => ?_)
  · (refine vw_go rfl ?_; simp only [go_sem, setCells, setIn])
    rw [show decide (x = y) = false from decide_eq_false (fun e => by subst e; simp at g1)]
    exact vw_ret (r_then (e_ret (ret_of rfl rfl (by simp [RB]) rfl rfl)))
  refine vw_skip (n_then ?_)
  refine vw_seq ?_
  (refine vw_go rfl ?_; simp only [go_sem, setCells, setIn])
  refine vw_cond (t := !decide (x.seq = y.seq)) rfl (fun g2 => ?_) (fun g2 => ?_)
  · (refine vw_go rfl ?_; simp only [go_sem, setCells, setIn])
    rw [show decide (x = y) = false from decide_eq_false (fun e => by subst e; simp at g2)]
    exact vw_ret (r_then (e_ret (ret_of rfl rfl (by simp [RB]) rfl rfl)))
  refine vw_skip (n_then ?_)
  (refine vw_go rfl ?_; simp only [go_sem, setCells, setIn])
  rw [show decide (x = y) = true from decide_eq_true (by cases x; cases y; simp_all [FtlV.chip])]
  exact vw_ret (e_ret (ret_of rfl rfl (by simp [RB]) rfl rfl))
end Go.Proofs.Ytppbonbghmdhhaa
