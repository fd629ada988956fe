/- Seen of both. -/
import Derived.Test.YtppbonbghmdhhaaPFSysM
import Derived.Test.YtppbonbghmdhhaaPFIn
namespace Go.Proofs.Ytppbonbghmdhhaa
open Go.VM Go
set_option maxRecDepth 100000
set_option linter.unusedSimpArgs false
set_option linter.unusedVariables false
attribute [local congr] vw_congr runV_congr runH_congr runW_congr runX_congr

def nilPart : PartV := ⟨[], 0, [], false⟩
def seenF (x : SysV) (who : Int) : List TellV := if inB who 0 (x.parts.length - 1) = true then (x.parts.getD who.toNat nilPart).seen else []

theorem runs_27 (x : SysV) (who : Int) (hl : x.parts.length ≤ 2 ^ 20) (hx : ∀ y ∈ x.parts, y.seen.length ≤ 2 ^ 20) :
    Runs Try.prog 27 [.agg [.v (.list false 1 (x.ftl.pages.map sRow)), .v (.list false 1 (x.ftl.wear.map nRow)), .v (.list false 1 (x.ftl.map.map nRow)), .v (.int .i64 x.ftl.seq), .v (.list false 4 (x.parts.map partRow)), .v (.list false 2 (x.ports.map portRow)), .v (.int .i64 x.tick)], .one (.v (.int .i64 who))] [.one (.v (.list true 2 ((seenF x who).map tellRow)))] [] := by
  refine runs_tab (tab := [(0, .agg [.c (.list false 1 (x.ftl.pages.map sRow)), .c (.list false 1 (x.ftl.wear.map nRow)), .c (.list false 1 (x.ftl.map.map nRow)), .c (.int .i64 x.ftl.seq), .c (.list false 4 (x.parts.map partRow)), .c (.list false 2 (x.ports.map portRow)), .c (.int .i64 x.tick)]), (1, .c (.int .i64 who))]) (rts := []) (n := 19) (k := 8) Try.func27 rfl rfl (by simp) rfl (fun t => ?_) rfl ?_
  · rcases t with _ | _ | t <;> rfl
  have w1 : IntKind.wrap .i64 ((x.parts.length : Int) - 1) = (x.parts.length : Int) - 1 := wrap_i64 (by omega) (by omega)
  have rI := runs_92 who 0 (x.parts.length - 1)
  unfold seenF
  (refine vw_go rfl ?_; simp only [go_sem, setCells, setIn])
  refine vw_seq ?_
  (refine vw_go rfl ?_; simp only [w1, go_sem, setCells, setIn])
  (refine ⟨_, _, call_rd [0, 0, 0] Try.func92 (rI) rfl rfl rfl rfl rfl rfl rfl rfl rfl rfl rfl rfl rfl, ?_⟩)
  cases hk : inB who 0 ((x.parts.length : Int) - 1)
  · rw [if_neg (by decide)]
    simp only [runH, runX, go_sem, setCells, setIn]
    (refine vw_cond (t := true) rfl (fun _ => ?_) (fun h => nomatch h))
    (refine vw_go rfl ?_; simp only [go_sem, setCells, setIn])
    exact vw_ret (r_then (e_ret (ret_by rfl rfl (by simp [RB]) rfl (by simp only [takeCs, takeC, go_sem, setCells, setIn]))))
  rw [if_pos rfl]
  simp only [inB, Bool.and_eq_true, decide_eq_true_eq] at hk
  obtain ⟨k, rfl⟩ : ∃ n : Nat, who = n := ⟨who.toNat, by omega⟩
  obtain ⟨p, hp⟩ : ∃ p, x.parts[k]? = some p := ⟨_, List.getElem?_eq_getElem (by omega)⟩
  rw [Int.toNat_natCast, getD_of hp]
  have d0 : (0:Int) ≤ (k : Int) := by omega
  have d1 : (k : Int) < x.parts.length := by omega
  have d2 : k < x.parts.length := by omega
  have rC := runs_93 p.seen (hx p (List.mem_of_getElem? hp))
  simp only [runH, runX, go_sem, setCells, setIn]
  (refine vw_cond (t := false) rfl (fun h => nomatch h) (fun _ => ?_))
  refine vw_skip (n_then ?_)
  (refine vw_go rfl ?_; simp only [d0, d1, d2, Int.toNat_natCast, getD_map_of hp, partRow, go_sem, setCells, setIn])
  (refine ⟨_, _, call_rx [0] Try.func93 (rC) rfl rfl rfl rfl rfl rfl rfl (by simp [lendAll, lendC, seek, fresh, nav, rcells, RT.cells, VV.cells, tabE_cons, tabS_cons, ev, take_map_len, sRow_r1, sRow_comp, sRow_clean, nRow_r1, nRow_comp, nRow_clean, partRow_r1, partRow_comp, partRowO_r1, partRowO_comp, partRowO_clean, portRow_r1, portRow_comp, portRowO_r1, portRowO_comp, portRowO_clean, tellRow_r1, tellRow_clean]) rfl (by simp [rcells, RT.cells, CT.clean, T.clean, sRow_r1, sRow_comp, sRow_clean, nRow_r1, nRow_comp, nRow_clean, partRow_r1, partRow_comp, partRowO_r1, partRowO_comp, partRowO_clean, portRow_r1, portRow_comp, portRowO_r1, portRowO_comp, portRowO_clean, tellRow_r1, tellRow_clean]) rfl rfl, ?_⟩)
  simp only [runH, runX, go_sem, setCells, setIn]
  exact vw_ret (e_ret (ret_by rfl rfl (by simp [RB]) rfl (by simp only [takeCs, takeC, go_sem, setCells, setIn])))

theorem runs_25 (x : SysV) (who : Int) (hl : x.parts.length ≤ 2 ^ 20) (hx : ∀ y ∈ x.parts, y.seen.length ≤ 2 ^ 20) :
    Runs Try.prog 25 [.agg [.v (.list false 1 (x.ftl.pages.map sRow)), .v (.list false 1 (x.ftl.wear.map nRow)), .v (.list false 1 (x.ftl.map.map nRow)), .v (.int .i64 x.ftl.seq), .v (.list false 4 (x.parts.map partRow)), .v (.list false 2 (x.ports.map portRow)), .v (.int .i64 x.tick)], .one (.v (.int .i64 who))] [.one (.v (.list true 2 ((seenF x who).map tellRow)))] [] := by
  refine runs_tab (tab := [(0, .agg [.c (.list false 1 (x.ftl.pages.map sRow)), .c (.list false 1 (x.ftl.wear.map nRow)), .c (.list false 1 (x.ftl.map.map nRow)), .c (.int .i64 x.ftl.seq), .c (.list false 4 (x.parts.map partRow)), .c (.list false 2 (x.ports.map portRow)), .c (.int .i64 x.tick)]), (1, .c (.int .i64 who))]) (rts := []) (n := 21) (k := 8) Try.func25 rfl rfl (by simp) rfl (fun t => ?_) rfl ?_
  · rcases t with _ | _ | t <;> rfl
  have w1 : IntKind.wrap .i64 ((x.parts.length : Int) - 1) = (x.parts.length : Int) - 1 := wrap_i64 (by omega) (by omega)
  have rI := runs_89 who 0 (x.parts.length - 1)
  unfold seenF
  (refine vw_go rfl ?_; simp only [go_sem, setCells, setIn])
  refine vw_seq ?_
  (refine vw_go rfl ?_; simp only [w1, go_sem, setCells, setIn])
  (refine ⟨_, _, call_rd [0, 0, 0] Try.func89 (rI) rfl rfl rfl rfl rfl rfl rfl rfl rfl rfl rfl rfl rfl, ?_⟩)
  cases hk : inB who 0 ((x.parts.length : Int) - 1)
  · rw [if_neg (by decide)]
    simp only [runH, runX, go_sem, setCells, setIn]
    (refine vw_cond (t := true) rfl (fun _ => ?_) (fun h => nomatch h))
    (refine vw_go rfl ?_; simp only [List.replicate_zero, List.flatten_nil, List.range_zero, go_sem, setCells, setIn])
    exact vw_ret (r_then (e_ret (ret_by rfl rfl (by simp [RB]) rfl (by simp only [takeCs, takeC, go_sem, setCells, setIn]))))
  rw [if_pos rfl]
  simp only [inB, Bool.and_eq_true, decide_eq_true_eq] at hk
  obtain ⟨k, rfl⟩ : ∃ n : Nat, who = n := ⟨who.toNat, by omega⟩
  obtain ⟨p, hp⟩ : ∃ p, x.parts[k]? = some p := ⟨_, List.getElem?_eq_getElem (by omega)⟩
  rw [Int.toNat_natCast, getD_of hp]
  have d0 : (0:Int) ≤ (k : Int) := by omega
  have d1 : (k : Int) < x.parts.length := by omega
  have d2 : k < x.parts.length := by omega
  have hpl := hx p (List.mem_of_getElem? hp)
  have B : ¬ (p.seen.length + 1) * (24 + 1) > bigRow := by simp only [bigRow]; omega
  simp only [runH, runX, go_sem, setCells, setIn]
  (refine vw_cond (t := false) rfl (fun h => nomatch h) (fun _ => ?_))
  refine vw_skip (n_then ?_)
  (refine vw_go rfl ?_; simp only [d0, d1, d2, Int.toNat_natCast, getD_map_of hp, partRow, List.replicate_zero, List.flatten_nil, List.range_zero, tellRow_noOwn, B, gt_iff_lt, go_sem, setCells, setIn])
  exact vw_ret (e_ret (ret_by rfl rfl (by simp [RB]) rfl (by simp only [takeCs, takeC, go_sem, setCells, setIn])))
end Go.Proofs.Ytppbonbghmdhhaa
