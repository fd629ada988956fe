/- slices.Delete at []impl.Item, one element. Plain of the program: what is made, dropped, moved. -/
import Derived.Test.YtoenfbbadfcfpaaGreatDoorPFItem2
import Derived.Test.YtoenfbbadfcfpaaGreatDoorPFDraw
import Derived.Test.YtoenfbbadfcfpaaGreatDoorPVOps
import Derived.Test.YtoenfbbadfcfpaaGreatDoorPFPlainD
set_option linter.unusedSimpArgs false
set_option linter.unusedVariables false
namespace Go.Proofs.YtoenfbbadfcfpaaGreatDoor
open Go.VM Go
set_option maxRecDepth 100000
attribute [-go_sem] runW_cons
attribute [local congr] vw_congr runV_congr runH_congr runW_congr runX_congr stuckV_congr stuckX_congr
theorem runs_72 (l : List It3) (i : Nat) (hi : i < l.length) (hl : l.length ≤ 2 ^ 20) :
    Runs Tryz.prog 72 [.one (.v (.list true 3 (l.map iRow))), .one (.v (.int .i64 i)), .one (.v (.int .i64 ((i + 1 : Nat) : Int)))] [.one (.v (.list true 3 ((l.take i ++ l.drop (i + 1)).map iRow)))] [] := by
  refine runs_tab (tab := [(0, .al 0 [] 0 3 0 l.length), (1, .c (.int .i64 i)), (2, .c (.int .i64 ((i + 1 : Nat) : Int)))]) (rts := [(0, some ⟨false, 3, l.map iRow, []⟩)]) (n := 33) (k := 3) Tryz.func72 rfl rfl (by simp) rfl (fun t => ?_) rfl ?_
  · rcases t with _ | _ | _ | t <;> simp [envOf, rvv, RT.vv, CT.vv, cvv, tabE_cons, tabE_nil, rcells, RT.cells]
  have c0 : (0 : Int) ≤ (i : Int) := by omega
  have c1 : (i : Int) ≤ ((i + 1 : Nat) : Int) := by omega
  have hne : ¬ (i : Int) = ((i + 1 : Nat) : Int) := by omega
  have bl : List.take l.length (l.map iRow) = l.map iRow := List.take_of_length_le (by simp)
  refine vw_go rfl ?_; simp only [go_sem, setCells, setIn]
  refine vw_go rfl ?_; simp only [go_sem, setCells, setIn]
  unfold stuckV
  refine ⟨_, _, op_slice3 (slice3V_al elemT_27 cellsOf_51 (by omega) (by omega) (Nat.le_refl _)), ?_⟩
  simp only [runH, runX, go_sem, setCells, setIn]
  refine vw_seq ?_
  refine vw_go rfl ?_; simp only [hne, go_sem, setCells, setIn]
  refine vw_cond (t := false) rfl (fun h => nomatch h) (fun _ => ?_)
  refine vw_skip (n_then ?_)
  refine vw_go rfl ?_; simp only [go_sem, setCells, setIn]
  refine vw_drawA mixed rfl rfl ?_; intro A hAA
  have hend : (0 + i == l.length) = false := by simp; omega
  have hend2 : (i == l.length) = false := by simp; omega
  have hend3 : (i - 0 == l.length) = false := by simp; omega
  have c5 : i + 1 + (l.length - (i + 1)) ≤ l.length := by omega
  have c4 : (0 : Int) ≤ ((i + 1 : Nat) : Int) := by omega
  have c2 : i ≤ l.length := by omega
  have c3 : i + 1 ≤ l.length := by omega
  simp (maxSteps := 1000000) only [c0, c2, c3, c4, c5, hend, hend2, hend3, Nat.sub_zero, Int.toNat_natCast, List.length_map, go_sem, setCells, setIn, runW_step]
  have hxs : List.take (l.length - (i + 1)) (List.drop (i + 1) (l.map iRow)) = (l.drop (i + 1)).map iRow := by rw [← List.map_drop]; exact List.take_of_length_le (by simp)
  have hxl : ((l.drop (i + 1)).map iRow).length = l.length - (i + 1) := by simp
  have hno : noOwn ((l.drop (i + 1)).map iRow) = true := by
    unfold noOwn
    rw [List.all_eq_true]
    intro r hr
    obtain ⟨x, _, rfl⟩ := List.mem_map.1 hr
    rfl
  have h3 : ∀ (q : List It3), ∀ r ∈ q.map iRow, r.length = 3 := fun q r hr => by
    obtain ⟨x, _, rfl⟩ := List.mem_map.1 hr
    rfl
  have hput : putRows (0 + i) ((l.drop (i + 1)).map iRow) (l.map iRow) = (l.take i ++ l.drop (i + 1)).map iRow ++ [iRow (l.getD (l.length - 1) (⟨#[]⟩, false, ⟨#[]⟩))] := by
    rw [putRows_list (sz := 3) _ _ _ (h3 _) (h3 _) (by rw [hxl]; simp; omega), hxl, List.map_append, Nat.zero_add, List.map_take]
    congr 1
    have e : i + (l.length - (i + 1)) = l.length - 1 := by omega
    rw [e]
    have hlast : l.drop (l.length - 1) = [l.getD (l.length - 1) (⟨#[]⟩, false, ⟨#[]⟩)] := by
      obtain ⟨x, hx⟩ : ∃ x, l[l.length - 1]? = some x := ⟨_, List.getElem?_eq_getElem (by omega)⟩
      rw [drop_of hx, getD_of hx, List.drop_eq_nil_of_le (by omega)]
    rw [← List.map_drop, hlast]
    rfl
  generalize hq : (l.take i ++ l.drop (i + 1) : List It3) = q at hput
  have hql : q.length + 1 = l.length := by rw [← hq]; simp; omega
  have hlast3 : (iRow (l.getD (l.length - 1) (⟨#[]⟩, false, ⟨#[]⟩))).length = 3 := rfl
  generalize iRow (l.getD (l.length - 1) (⟨#[]⟩, false, ⟨#[]⟩)) = last at hput hlast3
  unfold stuckX
  refine ⟨_, _, _, op_appendIn_at (appendIn_al elemT_27 elemT_27 cellsOf_51 (by decide) (R := ⟨false, 3, l.map iRow, []⟩) rfl rfl (xs := (l.drop (i + 1)).map iRow) ?_ hno (by rw [hxl]; simp; omega) hput), ?_⟩
  · have hs0 : (tabS [(0, some ⟨false, 3, l.map iRow, []⟩)]) 0 = some ⟨false, 3, l.map iRow, []⟩ := rfl
    show rowsOf _ (.al 0 [] 0 3 (i + 1) (l.length - (i + 1))) = _
    unfold rowsOf
    simp only [seek_root hs0]
    rw [if_pos ⟨by simp; omega, trivial⟩, hxs]
  have hqi : i + ((l.drop (i + 1)).map iRow).length = q.length := by rw [hxl]; omega
  rw [hqi]
  (unfold runX; simp (maxSteps := 1000000) only [go_sem, setCells, setIn, runW_step])
  refine ⟨by subst hAA; unfold allOk; kernel_rfl, ?_⟩
  have hlq : (l.length : Int) = ((q.length + 1 : Nat) : Int) := by omega
  have bq : List.take q.length (q.map iRow ++ [last]) = q.map iRow := by
    rw [List.take_append_of_le_length (by simp)]; exact List.take_of_length_le (by simp)
  have z0 : (0 : Int) ≤ (q.length : Int) := by omega
  have z1 : (0 : Int) ≤ ((q.length + 1 : Nat) : Int) := by omega
  have z2 : ¬ (q.length ≤ q.length + 1 ∧ q.length + 1 ≤ q.length) := by omega
  have z3 : ¬ (q.length + 1 ≤ q.length) := by omega
  refine vw_go rfl ?_; simp only [hlq, z0, z1, z2, z3, Int.toNat_natCast, and_false, go_sem, setCells, setIn]
  unfold stuckV
  refine ⟨_, _, op_sliceX (sliceX_al (l := q.length) (h := q.length + 1) (R := ⟨false, 3, q.map iRow ++ [last], []⟩) elemT_27 cellsOf_51 (seek_root rfl) (by omega) (by simp)), ?_⟩
  have z4 : q.length + 1 - q.length = 1 := by omega
  simp only [runH, runX, z4, Nat.zero_add, go_sem, setCells, setIn]
  unfold stuckV
  have hput2 : putRows q.length (List.replicate 1 [T.str ⟨#[]⟩, T.bool false, T.str ⟨#[]⟩]) (q.map iRow ++ [last]) = q.map iRow ++ [zI] := by
    rw [putRows_list (sz := 3) _ _ _ (fun r hr => by
      rcases List.mem_append.1 hr with h | h
      · exact h3 q r h
      · rw [List.mem_singleton] at h; rw [h]; exact hlast3) (fun r hr => by rw [List.mem_replicate] at hr; rw [hr.2]; rfl) (by simp)]
    rw [List.take_append_of_le_length (by simp), List.take_of_length_le (by simp), List.drop_of_length_le (by simp), List.append_nil]
    rfl
  refine ⟨_, _, op_clear (clear_al (R := ⟨false, 3, q.map iRow ++ [last], []⟩) elemT_27 zeroT_51 cellsOf_51 (by decide) rfl rfl rfl (by simp) hput2), ?_⟩
  simp only [runH, runX, go_sem, setCells, setIn]
  refine vw_go rfl ?_; simp only [go_sem, setCells, setIn]
  have bq2 : List.take q.length (q.map iRow ++ [zI]) = q.map iRow := by
    rw [List.take_append_of_le_length (by simp)]; exact List.take_of_length_le (by simp)
  have hle1 : q.length ≤ (q.map iRow ++ [zI]).length := by simp
  have hle2 : q.length ≤ q.length + 1 := by omega
  exact vw_ret (e_ret (ret_by rfl rfl (by simp [RB]) rfl (by simp only [takeCs, takeC, bq2, hle1, hle2, List.drop_zero, go_sem, setCells, setIn])))
end Go.Proofs.YtoenfbbadfcfpaaGreatDoor
namespace Go.Proofs.YtoenfbbadfcfpaaGreatDoor
open Go.VM Go
set_option maxRecDepth 100000
attribute [-go_sem] runW_cons
attribute [local congr] vw_congr runV_congr runH_congr runW_congr runX_congr stuckV_congr stuckX_congr
theorem runs_IndexFuncM (l : List It3) (hl : l.length < 2 ^ 63) (f : Nat) (fn : Func) (caps : List T) (p : It3 → Bool) (hf : Tryz.prog.funcs[f]? = some fn) (hbody : fn.body.isNone = false) (hname : (fn.name == "runtime.NumGoroutine") = false)
    (hp : ∀ x : It3, x ∈ l → Runs Tryz.prog f [.agg [.v (.str x.1), .v (.bool x.2.1), .v (.str x.2.2)], .one (.ref caps)] [.one (.v (.bool (p x)))] []) :
    Runs Tryz.prog 59 [.one (.v (.list false 3 (l.map iRow))), .one (.fn f [caps])] [.one (.v (.int .i64 (idxOf p l 0)))] [] := by
  refine runs_tab (tab := [(0, .c (.list false 3 (l.map iRow))), (1, .fn f [caps])]) (rts := []) (n := 19) (k := 2) Tryz.func59 rfl rfl (by simp) rfl (fun t => ?_) rfl ?_
  · rcases t with _ | _ | t <;> rfl
  refine vw_go rfl ?_; simp only [go_sem, setCells, setIn]
  refine vw_seq ?_
  refine vw_go rfl ?_; simp only [go_sem, setCells, setIn]
  refine vw_block ?_
  refine vw_loop_tab (α := Nat) (fun x => l.length - x) (fun x => ⟨tabE [(0, .c (.list false 3 (l.map iRow))), (1, .fn f [caps]), (7, .c (.int .i64 l.length)), (8, .c (.int .i64 x))], tabS [], 2⟩)
    (fun x => x ≤ l.length ∧ idxOf p (l.drop x) x = idxOf p l 0) (x := 0) ?round ?h0 ?hn
  case h0 => exact ⟨Nat.zero_le _, rfl⟩
  case hn => (refine norm_to [] rfl ?_ ?_ <;> simp only [go_sem])
  rintro i ⟨hi, hm⟩
  refine vw_go rfl ?_; simp only [go_sem, setCells, setIn]
  refine vw_seq ?_
  refine vw_cond (t := decide ((i : Int) < l.length)) rfl (fun h => ?_) (fun h => ?_)
  · refine vw_skip (n_then ?_)
    rcases get_or l i with ⟨x, hx, hlt⟩ | ⟨_, hge⟩
    case inr => simp only [decide_eq_true_eq] at h; omega
    have c1 : (0:Int) ≤ (i:Int) := by omega
    have c2 : (i:Int) < (l.length : Int) := by omega
    rw [drop_of hx] at hm
    refine vw_seq ?_
    refine vw_block ?_
    refine vw_go rfl ?_; simp only [go_sem, setCells, setIn]
    refine vw_go rfl ?_; simp only [c1, c2, Int.toNat_natCast, getD_map_of hx, iRow, go_sem, setCells, setIn]
    refine ⟨_, _, call_rd [0] hf (hp x (List.mem_of_getElem? hx)) rfl rfl rfl hbody hname rfl rfl rfl rfl rfl rfl rfl rfl, ?_⟩
    simp only [runH, runX, go_sem, setCells, setIn]
    refine vw_cond (t := p x) rfl (fun h => ?_) (fun h => ?_)
    · (refine vw_go rfl ?_; simp only [go_sem, setCells, setIn])
      simp only [idxOf, h, if_true] at hm
      rw [← hm]
      exact vw_ret (r_block (r_then (r_then (r_block (r_then (e_ret (ret_of rfl rfl (by simp [RB]) rfl rfl)))))))
    · refine vw_skip (n_block (n_then ?_))
      have w2 : IntKind.wrap .i64 ((i:Int) + 1) = ((i + 1 : Nat) : Int) := by rw [wrap_i64 (by omega) (by omega)]; rfl
      refine vw_last rfl ?_; simp only [w2, go_sem, setCells, setIn]
      refine (n_then ?_)
      simp only [idxOf, h, Bool.false_eq_true, if_false] at hm
      refine ⟨i + 1, by omega, ⟨hlt, hm⟩, ?_⟩
      refine norm_to [] rfl ?_ ?_ <;> simp only [go_sem]
  · refine vw_exit (x_then (x_then (x_block (n_then ?_))))
    refine vw_go rfl ?_; simp only [go_sem, setCells, setIn]
    simp only [decide_eq_false_iff_not] at h
    have : i = l.length := by omega
    subst this
    simp only [List.drop_length, idxOf] at hm
    rw [← hm]
    exact vw_ret (e_ret (ret_of rfl rfl (by simp [RB]) rfl rfl))
theorem runs_48 (l : List It3) (hl : l.length < 2 ^ 63) (f : Nat) (fn : Func) (caps : List T) (p : It3 → Bool) (hf : Tryz.prog.funcs[f]? = some fn) (hbody : fn.body.isNone = false) (hname : (fn.name == "runtime.NumGoroutine") = false)
    (hp : ∀ x : It3, x ∈ l → Runs Tryz.prog f [.agg [.v (.str x.1), .v (.bool x.2.1), .v (.str x.2.2)], .one (.ref caps)] [.one (.v (.bool (p x)))] []) :
    Runs Tryz.prog 48 [.one (.v (.list false 3 (l.map iRow))), .one (.fn f [caps])] [.one (.v (.bool (l.any p)))] [] := by
  refine runs_tab (tab := [(0, .c (.list false 3 (l.map iRow))), (1, .fn f [caps])]) (rts := []) (n := 9) (k := 2) Tryz.func48 rfl rfl (by simp) rfl (fun t => ?_) rfl ?_
  · rcases t with _ | _ | t <;> rfl
  refine vw_go rfl ?_; simp only [go_sem, setCells, setIn]
  refine vw_go rfl ?_; simp only [go_sem, setCells, setIn]
  refine ⟨_, _, call_rx [0, 0] Tryz.func59 (runs_IndexFuncM l hl f fn caps p hf hbody hname hp) rfl rfl rfl rfl rfl rfl rfl (by simp [lendAll, lendC, seek, fresh, nav, rcells, RT.cells, VV.cells, tabE_cons, tabS_cons, ev, take_map_len, iRow_r1, iRow_clean]) rfl (by simp [rcells, RT.cells, CT.clean, T.clean, iRow_r1, iRow_clean]) rfl rfl, ?_⟩
  simp only [runH, runX, go_sem, setCells, setIn]
  rw [← idxOf_any p l 0]
  exact vw_ret (e_ret (ret_of rfl rfl (by simp [RB]) rfl rfl))
theorem runs_34 (l : List It3) (hl : l.length ≤ 2 ^ 20) :
    Runs Tryz.prog 34 [.one (.v (.list false 3 (l.map iRow)))] [.one (.v (.list true 3 (l.map iRow)))] [] := by
  refine runs_tab (tab := [(0, .c (.list false 3 (l.map iRow)))]) (rts := []) (n := 8) (k := 1) Tryz.func34 rfl rfl (by simp) rfl (fun t => ?_) rfl ?_
  · rcases t with _ | t <;> rfl
  refine vw_go rfl ?_; simp only [go_sem, setCells, setIn]
  refine vw_seq ?_
  refine vw_nil rfl Tryz.underlying27 rfl rfl rfl ⟨_, rfl⟩ rfl rfl rfl (fun b hb => ?_)
  simp only [dstE_tab]
  refine vw_cond (t := b) rfl (fun h => ?_) (fun h => ?_)
  · (refine vw_go rfl ?_; simp only [go_sem, setCells, setIn])
    have : l = [] := by
      cases l with
      | nil => rfl
      | cons x l => exact absurd (hb (by simp)) (by rw [h]; decide)
    subst this
    exact vw_ret (r_then (e_ret (ret_by rfl rfl (by simp [RB]) rfl (by simp only [takeCs, takeC, go_sem, setCells, setIn]))))
  refine vw_skip (n_then ?_)
  have B : ¬ (l.length + 1) * (40 + 1) > bigRow := big41b (by omega)
  refine vw_go rfl ?_; simp only [List.replicate_zero, List.flatten_nil, List.range_zero, iRow_plain, B, gt_iff_lt, go_sem, setCells, setIn]
  exact vw_ret (e_ret (ret_by rfl rfl (by simp [RB]) rfl (by simp only [takeCs, takeC, go_sem, setCells, setIn])))
def thereB (l : List It3) (q : ByteArray) : Bool := decide (q = ⟨#[]⟩) || decide (0 ≤ findF l q)
theorem runs_68 (l : List It3) (hl : l.length < 2 ^ 62) (q : ByteArray) : Runs Tryz.prog 68 [.one (.v (.list false 3 (l.map iRow))), .one (.v (.str q))] [.one (.v (.bool (thereB l q)))] [] := by
  refine runs_tab (tab := [(0, .c (.list false 3 (l.map iRow))), (1, .c (.str q))]) (rts := []) (n := 13) (k := 2) Tryz.func68 rfl rfl (by simp) rfl (fun t => ?_) rfl ?_
  · rcases t with _ | _ | t <;> rfl
  have rF := runs_27 l q (by omega)
  change Runs _ _ _ [.one (.v (.int .i64 (findF l q)))] _ at rF
  unfold thereB
  generalize findF l q = fi at rF
  refine vw_go rfl ?_; simp only [go_sem, setCells, setIn]
  cases hz : decide (q = ⟨#[]⟩)
  · (refine vw_go rfl ?_; simp only [hz, go_sem, setCells, setIn])
    refine ⟨_, _, call_rx [0, 0] Tryz.func27 (rF) rfl rfl rfl rfl rfl rfl rfl (by simp [lendAll, lendC, seek, fresh, nav, rcells, RT.cells, VV.cells, tabE_cons, tabS_cons, ev, take_map_len, iRow_r1, iRow_clean]) rfl (by simp [rcells, RT.cells, CT.clean, T.clean, iRow_r1, iRow_clean]) rfl rfl, ?_⟩
    simp only [runH, runX, go_sem, setCells, setIn]
    exact vw_ret (e_ret (ret_of rfl rfl (by simp [RB]) rfl rfl))
  · (refine vw_go rfl ?_; simp only [hz, go_sem, setCells, setIn])
    exact vw_ret (e_ret (ret_of rfl rfl (by simp [RB]) rfl rfl))
theorem fold_iff (l : List It3) (q : ByteArray) : foldF l q = if thereB l q = true then (if isFold l q = true then 0 else 4) else 2 := by
  unfold foldF thereB isFold findF
  by_cases hq : q = ⟨#[]⟩
  · rw [if_pos hq, decide_eq_true hq]; rfl
  rw [if_neg hq, decide_eq_false hq]
  simp only [Bool.false_or]
  by_cases h : idxOf (hasPath q) l 0 < 0
  · rw [if_pos h, decide_eq_false (by omega)]; rfl
  · rw [if_neg h, decide_eq_true (by omega), if_pos rfl]
    cases dirAt l (idxOf (hasPath q) l 0).toNat <;> rfl
theorem runs_69 (l : List It3) (hl : l.length < 2 ^ 62) (p : ByteArray) (hp : p.size ≤ 2 ^ 20) : Runs Tryz.prog 69 [.one (.v (.list false 3 (l.map iRow))), .one (.v (.str p))] [.one (.v (.int .i64 (foldF l (splitF p).1)))] [] := by
  refine runs_tab (tab := [(0, .c (.list false 3 (l.map iRow))), (1, .c (.str p))]) (rts := []) (n := 24) (k := 2) Tryz.func69 rfl rfl (by simp) rfl (fun t => ?_) rfl ?_
  · rcases t with _ | _ | t <;> rfl
  have rS := runs_55 p hp
  have rT := runs_68 l hl (splitF p).1
  have rI := runs_56 l (splitF p).1 hl
  rw [fold_iff]
  generalize splitF p = sp at rS rT rI
  obtain ⟨up, nm, ok⟩ := sp
  simp only at rS rT rI
  generalize thereB l up = tb at rT
  generalize isFold l up = ib at rI
  refine vw_go rfl ?_; simp only [go_sem, setCells, setIn]
  refine vw_go rfl ?_; simp only [go_sem, setCells, setIn]
  refine ⟨_, _, call_rx [0] Tryz.func55 (rS) rfl rfl rfl rfl rfl rfl rfl (by simp [lendAll, lendC, seek, fresh, nav, rcells, RT.cells, VV.cells, tabE_cons, tabS_cons, ev, take_map_len, iRow_r1, iRow_clean]) rfl (by simp [rcells, RT.cells, CT.clean, T.clean, iRow_r1, iRow_clean]) rfl rfl, ?_⟩
  simp only [runH, runX, go_sem, setCells, setIn]
  refine vw_seq ?_
  refine vw_block ?_
  refine vw_go rfl ?_; simp only [go_sem, setCells, setIn]
  refine ⟨_, _, call_rx [0, 0] Tryz.func68 (rT) rfl rfl rfl rfl rfl rfl rfl (by simp [lendAll, lendC, seek, fresh, nav, rcells, RT.cells, VV.cells, tabE_cons, tabS_cons, ev, take_map_len, iRow_r1, iRow_clean]) rfl (by simp [rcells, RT.cells, CT.clean, T.clean, iRow_r1, iRow_clean]) rfl rfl, ?_⟩
  cases tb
  · simp only [runH, runX, go_sem, setCells, setIn]
    refine vw_cond (t := true) rfl (fun _ => ?_) (fun h => nomatch h)
    refine vw_go rfl ?_; simp only [go_sem, setCells, setIn]
    exact vw_ret (r_block (r_then (e_ret (ret_of rfl rfl (by simp [RB]) rfl rfl))))
  simp only [runH, runX, go_sem, setCells, setIn]
  refine vw_cond (t := false) rfl (fun h => nomatch h) (fun _ => ?_)
  refine vw_go rfl ?_; simp only [go_sem, setCells, setIn]
  refine ⟨_, _, call_rx [0, 0] Tryz.func56 (rI) rfl rfl rfl rfl rfl rfl rfl (by simp [lendAll, lendC, seek, fresh, nav, rcells, RT.cells, VV.cells, tabE_cons, tabS_cons, ev, take_map_len, iRow_r1, iRow_clean]) rfl (by simp [rcells, RT.cells, CT.clean, T.clean, iRow_r1, iRow_clean]) rfl rfl, ?_⟩
  cases ib
  · simp only [runH, runX, go_sem, setCells, setIn]
    refine vw_cond (t := true) rfl (fun _ => ?_) (fun h => nomatch h)
    refine vw_go rfl ?_; simp only [go_sem, setCells, setIn]
    exact vw_ret (r_block (r_then (e_ret (ret_of rfl rfl (by simp [RB]) rfl rfl))))
  simp only [runH, runX, go_sem, setCells, setIn]
  refine vw_cond (t := false) rfl (fun h => nomatch h) (fun _ => ?_)
  refine vw_skip (n_block (n_then ?_))
  refine vw_go rfl ?_; simp only [go_sem, setCells, setIn]
  exact vw_ret (e_ret (ret_of rfl rfl (by simp [RB]) rfl rfl))
set_option maxHeartbeats 1000000 in
theorem runs_36 (l : List It3) (hl : l.length ≤ 11) (o : OpV) (hp : o.path.size ≤ 2 ^ 20) (R : List It3 × Int) (hR : R = makeL l o) :
    Runs Tryz.prog 36 [.one (.v (.list true 3 (l.map iRow))), .agg [.v (.int .i64 o.kind), .v (.str o.path), .v (.str o.to), .v (.str o.data)]] [.one (.v (.list true 3 (R.1.map iRow))), .one (.v (.int .i64 R.2))] [] := by
  refine runs_tab (tab := [(0, .al 0 [] 0 3 0 l.length), (1, .agg [.c (.int .i64 o.kind), .c (.str o.path), .c (.str o.to), .c (.str o.data)])]) (rts := [(0, some ⟨false, 3, l.map iRow, []⟩)]) (n := 33) (k := 5) Tryz.func36 rfl rfl (by simp) rfl (fun t => ?_) rfl ?_
  · rcases t with _ | _ | t <;> simp [envOf, rvv, RT.vv, CT.vv, cvv, tabE_cons, tabE_nil, rcells, RT.cells]
  unfold makeL at hR
  have bl : List.take l.length (l.map iRow) = l.map iRow := List.take_of_length_le (by simp)
  have rT := runs_68 l (by omega) o.path
  have rC := runs_69 l (by omega) o.path hp
  have hth : thereB l o.path = true ↔ (o.path = ⟨#[]⟩ ∨ 0 ≤ findF l o.path) := by unfold thereB; simp
  generalize foldF l (splitF o.path).1 = fo at rC hR
  generalize thereB l o.path = tb at rT hth
  refine vw_go rfl ?_; simp only [go_sem, setCells, setIn]
  refine vw_seq ?_
  refine vw_go rfl ?_; simp only [bl, go_sem, setCells, setIn]
  refine ⟨_, _, call_rx [0, 0] Tryz.func68 (rT) rfl rfl rfl rfl rfl rfl rfl (by simp [lendAll, lendC, seek, fresh, nav, rcells, RT.cells, VV.cells, tabE_cons, tabS_cons, ev, take_map_len, iRow_r1, iRow_clean, bl]) rfl (by simp [rcells, RT.cells, CT.clean, T.clean, iRow_r1, iRow_clean, bl]) rfl rfl, ?_⟩
  cases tb
  case true =>
    rw [if_pos (hth.1 rfl)] at hR
    subst hR
    simp only [runH, runX, bl, go_sem, setCells, setIn]
    refine vw_cond (t := true) rfl (fun _ => ?_) (fun h => nomatch h)
    refine vw_go rfl ?_; simp only [go_sem, setCells, setIn]
    exact vw_ret (r_then (e_ret (ret_by rfl rfl (by simp [RB]) rfl (by simp only [takeCs, takeC, go_sem, setCells, setIn]))))
  rw [if_neg (fun h => by have := hth.2 h; cases this)] at hR
  simp only [runH, runX, bl, go_sem, setCells, setIn]
  refine vw_cond (t := false) rfl (fun h => nomatch h) (fun _ => ?_)
  refine vw_skip (n_then ?_)
  refine vw_seq ?_
  refine vw_go rfl ?_; simp only [bl, go_sem, setCells, setIn]
  refine ⟨_, _, call_rx [0, 0] Tryz.func69 (rC) rfl rfl rfl rfl rfl rfl rfl (by simp [lendAll, lendC, seek, fresh, nav, rcells, RT.cells, VV.cells, tabE_cons, tabS_cons, ev, take_map_len, iRow_r1, iRow_clean, bl]) rfl (by simp [rcells, RT.cells, CT.clean, T.clean, iRow_r1, iRow_clean, bl]) rfl rfl, ?_⟩
  simp only [runH, runX, bl, go_sem, setCells, setIn]
  by_cases h0 : fo = 0
  case neg =>
    rw [if_pos h0] at hR
    subst hR
    refine vw_go rfl ?_; simp only [h0, bl, go_sem, setCells, setIn]
    refine vw_cond (t := true) rfl (fun _ => ?_) (fun h => nomatch h)
    refine vw_go rfl ?_; simp only [go_sem, setCells, setIn]
    exact vw_ret (r_then (e_ret (ret_by rfl rfl (by simp [RB]) rfl (by simp only [takeCs, takeC, go_sem, setCells, setIn]))))
  rw [if_neg (fun h => h h0)] at hR
  refine vw_go rfl ?_; simp only [h0, go_sem, setCells, setIn]
  refine vw_cond (t := false) rfl (fun h => nomatch h) (fun _ => ?_)
  refine vw_skip (n_then ?_)
  refine vw_seq ?_
  by_cases h11 : l.length = 11
  · rw [if_pos h11] at hR
    subst hR
    have h11' : (11 : Int) ≤ (l.length : Int) := by omega
    refine vw_go rfl ?_; simp only [h11', go_sem, setCells, setIn]
    refine vw_cond (t := true) rfl (fun _ => ?_) (fun h => nomatch h)
    refine vw_go rfl ?_; simp only [go_sem, setCells, setIn]
    exact vw_ret (r_then (e_ret (ret_by rfl rfl (by simp [RB]) rfl (by simp only [takeCs, takeC, go_sem, setCells, setIn]))))
  rw [if_neg h11] at hR
  subst hR
  have h11' : ¬ (11 : Int) ≤ (l.length : Int) := by omega
  have B1 : ¬ (l.length + 1 + 1) * (40 + 1) > bigRow := big41 (by omega)
  have bt : List.take (l.length + 1) (l.map iRow ++ [[T.str o.path, T.bool (decide (o.kind = 2)), T.str (⟨#[]⟩ : ByteArray)]]) = (l ++ [((o.path, decide (o.kind = 2), (⟨#[]⟩ : ByteArray)) : It3)]).map iRow := by
    rw [List.map_append]; exact List.take_of_length_le (by simp)
  have hle : l.length + 1 ≤ (l.map iRow ++ [[T.str o.path, T.bool (decide (o.kind = 2)), T.str (⟨#[]⟩ : ByteArray)]]).length := by simp
  refine vw_go rfl ?_; simp only [h11', go_sem, setCells, setIn]
  refine vw_cond (t := false) rfl (fun h => nomatch h) (fun _ => ?_)
  refine vw_skip (n_then ?_)
  refine vw_go rfl ?_; simp only [B1, bl, List.drop_length, List.length_append, iRow_plain, range1, List.replicate_succ, List.replicate_zero, List.flatten_cons, List.flatten_nil, List.range_zero, gt_iff_lt, go_sem, setCells, setIn]
  exact vw_ret (e_ret (ret_by rfl rfl (by simp [RB]) rfl (by simp only [takeCs, takeC, bt, hle, List.drop_zero, go_sem, setCells, setIn])))
/-! ### what is dropped -/
theorem runs_71 (p q : ByteArray) (hp : p.size ≤ 2 ^ 20) (hq : q.size ≤ 2 ^ 20) : Runs Tryz.prog 71 [.one (.v (.str p)), .one (.v (.str q))] [.one (.v (.bool (!decide (p = q) && underB p q)))] [] := by
  refine runs_tab (tab := [(0, .c (.str p)), (1, .c (.str q))]) (rts := []) (n := 13) (k := 2) Tryz.func71 rfl rfl (by simp) rfl (fun t => ?_) rfl ?_
  · rcases t with _ | _ | t <;> rfl
  have rU := runs_73 p q hp hq
  generalize underB p q = u at rU
  refine vw_go rfl ?_; simp only [go_sem, setCells, setIn]
  cases hz : decide (p = q)
  · (refine vw_go rfl ?_; simp only [hz, go_sem, setCells, setIn])
    refine ⟨_, _, call_rd [0, 0] Tryz.func73 (rU) rfl rfl rfl rfl rfl rfl rfl rfl rfl rfl rfl rfl rfl, ?_⟩
    simp only [runH, runX, go_sem, setCells, setIn]
    exact vw_ret (e_ret (ret_of rfl rfl (by simp [RB]) rfl rfl))
  · (refine vw_go rfl ?_; simp only [hz, go_sem, setCells, setIn])
    exact vw_ret (e_ret (ret_of rfl rfl (by simp [RB]) rfl rfl))
theorem runs_70 (x : It3) (o : OpV) (hx : x.1.size ≤ 2 ^ 20) (hp : o.path.size ≤ 2 ^ 20) : Runs Tryz.prog 70 [.agg [.v (.str x.1), .v (.bool x.2.1), .v (.str x.2.2)], .one (.ref [.int .i64 o.kind, .str o.path, .str o.to, .str o.data])] [.one (.v (.bool (!decide (x.1 = o.path) && underB x.1 o.path)))] [] := by
  refine runs_tab (tab := [(0, .agg [.c (.str x.1), .c (.bool x.2.1), .c (.str x.2.2)]), (1, .rop [.int .i64 o.kind, .str o.path, .str o.to, .str o.data])]) (rts := []) (n := 9) (k := 4) Tryz.func70 rfl rfl (by simp) rfl (fun t => ?_) rfl ?_
  · rcases t with _ | _ | t <;> rfl
  refine vw_go rfl ?_; simp only [go_sem, setCells, setIn]
  refine vw_go rfl ?_; simp only [go_sem, setCells, setIn]
  refine ⟨_, _, call_rd [0, 0] Tryz.func71 (runs_71 x.1 o.path hx hp) rfl rfl rfl rfl rfl rfl rfl rfl rfl rfl rfl rfl rfl, ?_⟩
  simp only [runH, runX, go_sem, setCells, setIn]
  exact vw_ret (e_ret (ret_of rfl rfl (by simp [RB]) rfl rfl))
theorem idxOf_sat {α : Type} (p : α → Bool) : ∀ (l : List α) (i j : Nat) (x : α), idxOf p l i = ((i + j : Nat) : Int) → l[j]? = some x → p x = true
  | [], i, j, x, h, hx => by simp at hx
  | y :: l, i, j, x, h, hx => by
    rw [idxOf] at h
    cases hp : p y
    · rw [hp] at h
      simp only [Bool.false_eq_true, if_false] at h
      cases j with
      | zero =>
        rcases idxOf_at p l (i + 1) with e | ⟨k, z, e, _⟩
        · rw [e] at h; omega
        · rw [e] at h; omega
      | succ j => exact idxOf_sat p l (i + 1) j x (by rw [h]; congr 1; omega) (by simpa using hx)
    · rw [hp] at h
      simp only [if_true] at h
      obtain rfl : j = 0 := by omega
      simp only [List.getElem?_cons_zero, Option.some.injEq] at hx
      rw [← hx]; exact hp
theorem find_hit {l : List It3} {q : ByteArray} {fi : Int} (h : findF l q = fi) (h0 : 0 ≤ fi) : ∃ (j : Nat) (x : It3), fi = (j : Int) ∧ l[j]? = some x ∧ x.1 = q := by
  subst h
  rcases idxOf_at (hasPath q) l 0 with e | ⟨j, x, e, hx⟩
  · unfold findF at h0; rw [e] at h0; exact absurd h0 (by decide)
  · refine ⟨j, x, by unfold findF; rw [e, Nat.zero_add], hx, ?_⟩
    have := idxOf_sat (hasPath q) l 0 j x e hx
    unfold hasPath at this
    exact of_decide_eq_true this
theorem filter_drop {l : List It3} {i : Nat} {x : It3} (hx : l[i]? = some x) (hu : ∀ (j : Nat) (y : It3), l[j]? = some y → y.1 = x.1 → j = i) : l.filter (fun y => !decide (y.1 = x.1)) = l.take i ++ l.drop (i + 1) := by
  have h1 : l = l.take i ++ x :: l.drop (i + 1) := by
    rw [← drop_of hx, List.take_append_drop]
  have ha : (l.take i).filter (fun y => !decide (y.1 = x.1)) = l.take i := by
    rw [List.filter_eq_self]
    intro y hy
    obtain ⟨j, hj⟩ := List.getElem?_of_mem hy
    rw [List.getElem?_take] at hj
    split at hj
    · rename_i hji
      simp only [Bool.not_eq_true', decide_eq_false_iff_not]
      intro e
      have := hu j y hj e
      omega
    · cases hj
  have hb : (l.drop (i + 1)).filter (fun y => !decide (y.1 = x.1)) = l.drop (i + 1) := by
    rw [List.filter_eq_self]
    intro y hy
    obtain ⟨j, hj⟩ := List.getElem?_of_mem hy
    rw [List.getElem?_drop] at hj
    simp only [Bool.not_eq_true', decide_eq_false_iff_not]
    intro e
    have := hu _ y hj e
    omega
  have h2 := congrArg (List.filter (fun y => !decide (y.1 = x.1))) h1
  rw [List.filter_append, List.filter_cons] at h2
  simp only [decide_true, Bool.not_true, Bool.false_eq_true, if_false] at h2
  rw [ha, hb] at h2
  exact h2
set_option maxHeartbeats 1000000 in
theorem runs_37 (l : List It3) (hok : itemsOk l = true) (o : OpV) (hp : o.path.size ≤ 2 ^ 20) (R : List It3 × Int) (hR : R = if foldF l o.path = 2 then (l, 2) else dropL l o) :
    Runs Tryz.prog 37 [.one (.v (.list true 3 (l.map iRow))), .agg [.v (.int .i64 o.kind), .v (.str o.path), .v (.str o.to), .v (.str o.data)]] [.one (.v (.list true 3 (R.1.map iRow))), .one (.v (.int .i64 R.2))] [] := by
  refine runs_tab (tab := [(0, .al 0 [] 0 3 0 l.length), (1, .agg [.c (.int .i64 o.kind), .c (.str o.path), .c (.str o.to), .c (.str o.data)])]) (rts := [(0, some ⟨false, 3, l.map iRow, []⟩)]) (n := 33) (k := 5) Tryz.func37 rfl rfl (by simp) rfl (fun t => ?_) rfl ?_
  · rcases t with _ | _ | t <;> simp [envOf, rvv, RT.vv, CT.vv, cvv, tabE_cons, tabE_nil, rcells, RT.cells]
  obtain ⟨h11, h100⟩ := itemsOk_small hok
  have bl : List.take l.length (l.map iRow) = l.map iRow := List.take_of_length_le (by simp)
  have rF := runs_27 l o.path (by omega)
  change Runs _ _ _ [.one (.v (.int .i64 (findF l o.path)))] _ at rF
  have rT := runs_68 l (by omega) o.path
  have hth : thereB l o.path = true ↔ (o.path = ⟨#[]⟩ ∨ 0 ≤ findF l o.path) := by unfold thereB; simp
  rw [fold_iff] at hR
  have rK := runs_48 l (by omega) 70 Tryz.f70 [.int .i64 o.kind, .str o.path, .str o.to, .str o.data] (fun x => !decide (x.1 = o.path) && underB x.1 o.path) Tryz.func70 rfl rfl (fun x hx => runs_70 x o (by have := h100 x hx; omega) hp)
  change Runs _ _ _ [.one (.v (.bool (kidsB l o.path)))] _ at rK
  generalize hfi : findF l o.path = fi at rF hth
  generalize thereB l o.path = tb at rT hth hR
  refine vw_go rfl ?_; simp only [go_sem, setCells, setIn]
  refine vw_go rfl ?_; simp only [bl, go_sem, setCells, setIn]
  refine ⟨_, _, call_rx [0, 0] Tryz.func27 (rF) rfl rfl rfl rfl rfl rfl rfl (by simp [lendAll, lendC, seek, fresh, nav, rcells, RT.cells, VV.cells, tabE_cons, tabS_cons, ev, take_map_len, iRow_r1, iRow_clean, bl]) rfl (by simp [rcells, RT.cells, CT.clean, T.clean, iRow_r1, iRow_clean, bl]) rfl rfl, ?_⟩
  simp only [runH, runX, bl, go_sem, setCells, setIn]
  refine vw_seq ?_
  refine vw_block ?_
  refine vw_go rfl ?_; simp only [bl, go_sem, setCells, setIn]
  refine ⟨_, _, call_rx [0, 0] Tryz.func68 (rT) rfl rfl rfl rfl rfl rfl rfl (by simp [lendAll, lendC, seek, fresh, nav, rcells, RT.cells, VV.cells, tabE_cons, tabS_cons, ev, take_map_len, iRow_r1, iRow_clean, bl]) rfl (by simp [rcells, RT.cells, CT.clean, T.clean, iRow_r1, iRow_clean, bl]) rfl rfl, ?_⟩
  cases tb
  · simp only [Bool.false_eq_true, if_false, if_true] at hR
    subst hR
    simp only [runH, runX, bl, go_sem, setCells, setIn]
    refine vw_cond (t := true) rfl (fun _ => ?_) (fun h => nomatch h)
    refine vw_go rfl ?_; simp only [go_sem, setCells, setIn]
    exact vw_ret (r_block (r_then (e_ret (ret_by rfl rfl (by simp [RB]) rfl (by simp only [takeCs, takeC, go_sem, setCells, setIn])))))
  have hne2 : ¬ (if isFold l o.path = true then (0 : Int) else 4) = 2 := by split <;> decide
  simp only [if_true] at hR
  rw [if_neg hne2] at hR
  unfold dropL at hR
  simp only [runH, runX, bl, go_sem, setCells, setIn]
  refine vw_cond (t := false) rfl (fun h => nomatch h) (fun _ => ?_)
  by_cases hz : o.path = ⟨#[]⟩
  · rw [if_pos (.inl hz)] at hR
    subst hR
    have hz' : decide (o.path = ⟨#[]⟩) = true := by simp [hz]
    refine vw_go rfl ?_; simp only [hz', bl, go_sem, setCells, setIn]
    refine vw_cond (t := true) rfl (fun _ => ?_) (fun h => nomatch h)
    refine vw_go rfl ?_; simp only [go_sem, setCells, setIn]
    exact vw_ret (r_block (r_then (e_ret (ret_by rfl rfl (by simp [RB]) rfl (by simp only [takeCs, takeC, go_sem, setCells, setIn])))))
  have hz' : decide (o.path = ⟨#[]⟩) = false := by simp [hz]
  have hf0 : 0 ≤ fi := by
    rcases hth.1 rfl with h | h
    · exact absurd h hz
    · exact h
  obtain ⟨j, x, rfl, hx, hxp⟩ : ∃ (j : Nat) (x : It3), fi = (j : Int) ∧ l[j]? = some x ∧ x.1 = o.path := find_hit hfi hf0
  generalize kidsB l o.path = kb at rK hR
  refine vw_go rfl ?_; simp only [hz', bl, go_sem, setCells, setIn]
  refine ⟨_, _, mk_ok [5] rfl rfl rfl rfl, ?_⟩
  (unfold runH; simp (maxSteps := 1000000) only [bl, toRO_int, toRO_str, go_sem, setCells, setIn])
  refine ⟨_, _, call_rx [0, 0] Tryz.func48 (rK) rfl rfl rfl rfl rfl rfl rfl (by simp [lendAll, lendC, seek, fresh, nav, rcells, RT.cells, VV.cells, tabE_cons, tabS_cons, ev, take_map_len, iRow_r1, iRow_clean, bl, toRO_int, toRO_str]) rfl (by simp [rcells, RT.cells, CT.clean, T.clean, iRow_r1, iRow_clean, bl, toRO_int, toRO_str]) rfl rfl, ?_⟩
  cases kb
  case true =>
    rw [if_pos (.inr rfl)] at hR
    subst hR
    simp only [runH, runX, bl, go_sem, setCells, setIn]
    refine vw_cond (t := true) rfl (fun _ => ?_) (fun h => nomatch h)
    refine vw_go rfl ?_; simp only [go_sem, setCells, setIn]
    exact vw_ret (r_block (r_then (e_ret (ret_by rfl rfl (by simp [RB]) rfl (by simp only [takeCs, takeC, go_sem, setCells, setIn])))))
  rw [if_neg (by rintro (h | h); exact hz h; cases h)] at hR
  have hfil := filter_drop hx (fun k y hk hy => by
    have hu := (itemsOk_at hok).2
    have e1 := (hu k y hk).2.2.2.1
    have e2 := (hu j x hx).2.2.2.1
    rw [hy] at e1
    rw [e1] at e2
    omega)
  rw [hxp] at hfil
  rw [hfil] at hR
  subst hR
  have hj := lt_of_getl hx
  have rX := runs_72 l j hj (by omega)
  have w3 : IntKind.wrap .i64 ((j:Int) + 1) = ((j + 1 : Nat) : Int) := by rw [wrap_i64 (by omega) (by omega)]; rfl
  generalize (l.take j ++ l.drop (j + 1) : List It3) = q at rX
  have bq : List.take q.length (q.map iRow) = q.map iRow := List.take_of_length_le (by simp)
  simp only [runH, runX, bl, go_sem, setCells, setIn]
  refine vw_cond (t := false) rfl (fun h => nomatch h) (fun _ => ?_)
  refine vw_skip (n_block (n_then ?_))
  refine vw_go rfl ?_; simp only [bl, w3, List.drop_length, go_sem, setCells, setIn]
  refine ⟨_, _, call_own [0, 0, 0] [(0, none)] Tryz.func72 (rX) rfl rfl rfl rfl rfl rfl rfl (by simp [takeCs, takeC, takeV, seek, fresh, nav, takenUp, rcells, RT.cells, VV.cells, tabE_cons, tabS_cons, ups_tab, ups_nil, ev, take_map_len, bl, iRow_r1, iRow_clean, List.drop_length]) rfl (by simp [rcells, RT.cells, CT.clean, T.clean, bl, iRow_r1, iRow_clean, List.drop_length]) rfl rfl, ?_⟩
  simp only [runH, runX, bq, go_sem, setCells, setIn]
  exact vw_ret (e_ret (ret_by rfl rfl (by simp [RB]) rfl (by simp only [takeCs, takeC, go_sem, setCells, setIn])))
end Go.Proofs.YtoenfbbadfcfpaaGreatDoor
