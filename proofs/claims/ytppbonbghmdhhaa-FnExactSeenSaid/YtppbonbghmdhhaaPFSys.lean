/- Systems: size, copy, comparing. -/
import Derived.Test.YtppbonbghmdhhaaPFPartS
import Derived.Test.YtppbonbghmdhhaaPFPortS
import Derived.Test.YtppbonbghmdhhaaPLShow
namespace Go.Proofs.Ytppbonbghmdhhaa
open Go.VM Go
set_option maxRecDepth 100000
set_option linter.unusedSimpArgs false
set_option linter.unusedVariables false
attribute [local congr] vw_congr runV_congr runH_congr runW_congr runX_congr

structure SysV where
  ftl : FtlV
  parts : List PartV
  ports : List PortV
  tick : Int
  deriving DecidableEq
def SysV.ok (x : SysV) : Prop := x.ftl.ok ∧ (x.parts.length < 2 ^ 63 ∧ ∀ y ∈ x.parts, y.ok) ∧ (x.ports.length < 2 ^ 63 ∧ ∀ y ∈ x.ports, y.ok)

theorem partRow_r1 (x : PartV) : (partRow x).map T.toRO = partRow x := by simp [partRow, T.toRO, insRow_r1, tellRow_r1]
theorem partRowO_r1 (x : PartV) : (partRowO x).map T.toRO = partRow x := by simp [partRow, partRowO, T.toRO, insRow_r1, tellRow_r1]
theorem partRow_comp : List.map T.toRO ∘ partRow = partRow := funext partRow_r1
theorem partRowO_comp : List.map T.toRO ∘ partRowO = partRow := funext partRowO_r1
theorem partRowO_clean (l : List PartV) : cleanRs (l.map partRowO) = true := clean_map (fun x => by simp [partRowO, cleanR, T.clean, insRow_clean, tellRow_clean]) l
theorem portRow_r1 (x : PortV) : (portRow x).map T.toRO = portRow x := by simp [portRow, T.toRO, opRow_r1, tellRow_r1]
theorem portRowO_r1 (x : PortV) : (portRowO x).map T.toRO = portRow x := by simp [portRow, portRowO, T.toRO, opRow_r1, tellRow_r1]
theorem portRow_comp : List.map T.toRO ∘ portRow = portRow := funext portRow_r1
theorem portRowO_comp : List.map T.toRO ∘ portRowO = portRow := funext portRowO_r1
theorem portRowO_clean (l : List PortV) : cleanRs (l.map portRowO) = true := clean_map (fun x => by simp [portRowO, cleanR, T.clean, opRow_clean, tellRow_clean]) l

def szSystem (x : SysV) (left : Int) : Int := if szFtl x.ftl left < 0 then -1 else if szSPart x.parts (szFtl x.ftl left) < 0 then -1 else if szSPort x.ports (szSPart x.parts (szFtl x.ftl left)) < 0 then -1 else szSPort x.ports (szSPart x.parts (szFtl x.ftl left))
theorem runs_24 (x : SysV) (left : Int) (hx : x.ok) (h0 : 0 ≤ left) (h1 : left < 2 ^ 63) :
    Runs Try.prog 24 [.agg [.v (.list false 1 (x.ftl.pages.map sRow)), .v (.list false 1 (x.ftl.wear.map nRow)), .v (.list false 1 (x.ftl.map.map nRow)), .v (.int .i64 x.ftl.seq), .v (.list false 4 (x.parts.map partRow)), .v (.list false 2 (x.ports.map portRow)), .v (.int .i64 x.tick)], .one (.v (.int .i64 left))] [.one (.v (.int .i64 (szSystem x left)))] [] := by
  refine runs_tab (tab := [(0, .agg [.c (.list false 1 (x.ftl.pages.map sRow)), .c (.list false 1 (x.ftl.wear.map nRow)), .c (.list false 1 (x.ftl.map.map nRow)), .c (.int .i64 x.ftl.seq), .c (.list false 4 (x.parts.map partRow)), .c (.list false 2 (x.ports.map portRow)), .c (.int .i64 x.tick)]), (1, .c (.int .i64 left))]) (rts := []) (n := 24) (k := 8) Try.func24 rfl rfl (by simp) rfl (fun t => ?_) rfl ?_
  · rcases t with _ | _ | t <;> rfl
  have l1 := szFtl_le x.ftl left h0
  unfold szSystem
  (refine vw_go rfl ?_; simp only [go_sem, setCells, setIn])
  (refine vw_go rfl ?_; simp only [go_sem, setCells, setIn])
  (refine ⟨_, _, call_rx [0, 0] Try.func19 (runs_19 x.ftl left hx.1 h0 h1) rfl rfl rfl rfl rfl rfl rfl (by simp [lendAll, lendC, seek, fresh, nav, rcells, RT.cells, VV.cells, tabE_cons, tabS_cons, ev, take_map_len, sRow_r1, sRow_comp, sRow_clean, nRow_r1, nRow_comp, nRow_clean, partRow_r1, partRow_comp, partRowO_r1, partRowO_comp, partRowO_clean, portRow_r1, portRow_comp, portRowO_r1, portRowO_comp, portRowO_clean]) rfl (by simp [rcells, RT.cells, CT.clean, T.clean, sRow_r1, sRow_comp, sRow_clean, nRow_r1, nRow_comp, nRow_clean, partRow_r1, partRow_comp, partRowO_r1, partRowO_comp, partRowO_clean, portRow_r1, portRow_comp, portRowO_r1, portRowO_comp, portRowO_clean]) rfl rfl, ?_⟩)
  simp only [runH, runX, go_sem, setCells, setIn]
  refine vw_seq ?_
  by_cases g0 : szFtl x.ftl left < 0
  · (refine vw_go rfl ?_; simp only [g0, go_sem, setCells, setIn])
    (refine vw_cond (t := true) rfl (fun _ => ?_) (fun h => nomatch h))
    (refine vw_go rfl ?_; simp only [go_sem, setCells, setIn])
    exact vw_ret (r_then (e_ret (ret_of rfl rfl (by simp [RB]) rfl rfl)))
  have l2 := szSPart_le x.parts (szFtl x.ftl left) (by omega)
  (refine vw_go rfl ?_; simp only [g0, go_sem, setCells, setIn])
  (refine vw_cond (t := false) rfl (fun h => nomatch h) (fun _ => ?_))
  refine vw_skip (n_then ?_)
  (refine vw_go rfl ?_; simp only [go_sem, setCells, setIn])
  (refine ⟨_, _, call_rx [0, 0] Try.func87 (runs_87 x.parts (szFtl x.ftl left) hx.2.1.2 hx.2.1.1 (by omega) (by omega)) rfl rfl rfl rfl rfl rfl rfl (by simp [lendAll, lendC, seek, fresh, nav, rcells, RT.cells, VV.cells, tabE_cons, tabS_cons, ev, take_map_len, sRow_r1, sRow_comp, sRow_clean, nRow_r1, nRow_comp, nRow_clean, partRow_r1, partRow_comp, partRowO_r1, partRowO_comp, partRowO_clean, portRow_r1, portRow_comp, portRowO_r1, portRowO_comp, portRowO_clean]) rfl (by simp [rcells, RT.cells, CT.clean, T.clean, sRow_r1, sRow_comp, sRow_clean, nRow_r1, nRow_comp, nRow_clean, partRow_r1, partRow_comp, partRowO_r1, partRowO_comp, partRowO_clean, portRow_r1, portRow_comp, portRowO_r1, portRowO_comp, portRowO_clean]) rfl rfl, ?_⟩)
  simp only [runH, runX, go_sem, setCells, setIn]
  refine vw_seq ?_
  by_cases g1 : szSPart x.parts (szFtl x.ftl left) < 0
  · (refine vw_go rfl ?_; simp only [g1, go_sem, setCells, setIn])
    (refine vw_cond (t := true) rfl (fun _ => ?_) (fun h => nomatch h))
    (refine vw_go rfl ?_; simp only [go_sem, setCells, setIn])
    exact vw_ret (r_then (e_ret (ret_of rfl rfl (by simp [RB]) rfl rfl)))
  (refine vw_go rfl ?_; simp only [g1, go_sem, setCells, setIn])
  (refine vw_cond (t := false) rfl (fun h => nomatch h) (fun _ => ?_))
  refine vw_skip (n_then ?_)
  (refine vw_go rfl ?_; simp only [go_sem, setCells, setIn])
  (refine ⟨_, _, call_rx [0, 0] Try.func88 (runs_88 x.ports (szSPart x.parts (szFtl x.ftl left)) hx.2.2.2 hx.2.2.1 (by omega) (by omega)) rfl rfl rfl rfl rfl rfl rfl (by simp [lendAll, lendC, seek, fresh, nav, rcells, RT.cells, VV.cells, tabE_cons, tabS_cons, ev, take_map_len, sRow_r1, sRow_comp, sRow_clean, nRow_r1, nRow_comp, nRow_clean, partRow_r1, partRow_comp, partRowO_r1, partRowO_comp, partRowO_clean, portRow_r1, portRow_comp, portRowO_r1, portRowO_comp, portRowO_clean]) rfl (by simp [rcells, RT.cells, CT.clean, T.clean, sRow_r1, sRow_comp, sRow_clean, nRow_r1, nRow_comp, nRow_clean, partRow_r1, partRow_comp, partRowO_r1, partRowO_comp, partRowO_clean, portRow_r1, portRow_comp, portRowO_r1, portRowO_comp, portRowO_clean]) rfl rfl, ?_⟩)
  simp only [runH, runX, go_sem, setCells, setIn]
  refine vw_seq ?_
  by_cases g2 : szSPort x.ports (szSPart x.parts (szFtl x.ftl left)) < 0
  · (refine vw_go rfl ?_; simp only [g2, go_sem, setCells, setIn])
    (refine vw_cond (t := true) rfl (fun _ => ?_) (fun h => nomatch h))
    (refine vw_go rfl ?_; simp only [go_sem, setCells, setIn])
    exact vw_ret (r_then (e_ret (ret_of rfl rfl (by simp [RB]) rfl rfl)))
  (refine vw_go rfl ?_; simp only [g2, go_sem, setCells, setIn])
  (refine vw_cond (t := false) rfl (fun h => nomatch h) (fun _ => ?_))
  refine vw_skip (n_then ?_)
  (refine vw_go rfl ?_; simp only [go_sem, setCells, setIn])
  exact vw_ret (e_ret (ret_of rfl rfl (by simp [RB]) rfl rfl))

structure SysV.small (x : SysV) : Prop where
  ftl : x.ftl.small
  nparts : x.parts.length ≤ 2 ^ 20
  nports : x.ports.length ≤ 2 ^ 20
  parts : ∀ y ∈ x.parts, y.code.length ≤ 2 ^ 20 ∧ y.seen.length ≤ 2 ^ 20
  ports : ∀ y ∈ x.ports, y.asks.length ≤ 2 ^ 20 ∧ y.tells.length ≤ 2 ^ 20

theorem szLPart_mem : ∀ (l : List PartV) (left : Int), 0 ≤ left → ¬ szLPart l left < 0 → ∀ x ∈ l, (x.code.length : Int) ≤ left ∧ (x.seen.length : Int) ≤ left
  | [], left, _, _, s, hs => nomatch hs
  | x :: l, left, h0, h, s, hs => by
    simp only [szLPart] at h
    split at h
    · exact absurd (by decide) h
    · rename_i g
      rcases List.mem_cons.1 hs with rfl | hs
      · exact szPart_len h0 g
      · have a := szPart_le x left h0
        have := szLPart_mem l (szPart x left) (by omega) h s hs
        omega
theorem szSPart_mem {l : List PartV} {left : Int} (h0 : 0 ≤ left) (h : ¬ szSPart l left < 0) : ∀ x ∈ l, (x.code.length : Int) ≤ left ∧ (x.seen.length : Int) ≤ left := by
  unfold szSPart at h
  split at h
  · exact absurd (by decide) h
  · intro s hs
    have := szLPart_mem l (left - l.length) (by omega) h s hs
    omega
theorem szLPort_mem : ∀ (l : List PortV) (left : Int), 0 ≤ left → ¬ szLPort l left < 0 → ∀ x ∈ l, (x.asks.length : Int) ≤ left ∧ (x.tells.length : Int) ≤ left
  | [], left, _, _, s, hs => nomatch hs
  | x :: l, left, h0, h, s, hs => by
    simp only [szLPort] at h
    split at h
    · exact absurd (by decide) h
    · rename_i g
      rcases List.mem_cons.1 hs with rfl | hs
      · exact szPort_len h0 g
      · have a := szPort_le x left h0
        have := szLPort_mem l (szPort x left) (by omega) h s hs
        omega
theorem szSPort_mem {l : List PortV} {left : Int} (h0 : 0 ≤ left) (h : ¬ szSPort l left < 0) : ∀ x ∈ l, (x.asks.length : Int) ≤ left ∧ (x.tells.length : Int) ≤ left := by
  unfold szSPort at h
  split at h
  · exact absurd (by decide) h
  · intro s hs
    have := szLPort_mem l (left - l.length) (by omega) h s hs
    omega
theorem szSystem_small {x : SysV} (h : ¬ szSystem x 1048576 < 0) : x.small := by
  unfold szSystem at h
  have l1 := szFtl_le x.ftl 1048576 (by decide)
  split at h
  · exact absurd (by decide) h
  rename_i g0
  have l2 := szSPart_le x.parts (szFtl x.ftl 1048576) (by omega)
  split at h
  · exact absurd (by decide) h
  rename_i g1
  split at h
  · exact absurd (by decide) h
  rename_i g2
  have a := szSPart_len g1
  have b := szSPort_len g2
  refine ⟨szFtl_small g0, by omega, by omega, fun y hy => ?_, fun y hy => ?_⟩
  · have := szSPart_mem (by omega) g1 y hy
    omega
  · have := szSPort_mem (by omega) g2 y hy
    omega

theorem runs_26 (x : SysV) (hs : x.small) : Runs Try.prog 26 [.agg [.v (.list false 1 (x.ftl.pages.map sRow)), .v (.list false 1 (x.ftl.wear.map nRow)), .v (.list false 1 (x.ftl.map.map nRow)), .v (.int .i64 x.ftl.seq), .v (.list false 4 (x.parts.map partRow)), .v (.list false 2 (x.ports.map portRow)), .v (.int .i64 x.tick)]] [.agg [.v (.list true 1 (x.ftl.pages.map sRow)), .v (.list true 1 (x.ftl.wear.map nRow)), .v (.list true 1 (x.ftl.map.map nRow)), .v (.int .i64 x.ftl.seq), .v (.list true 4 (x.parts.map partRowO)), .v (.list true 2 (x.ports.map portRowO)), .v (.int .i64 x.tick)]] [] := by
  refine runs_tab (tab := [(0, .agg [.c (.list false 1 (x.ftl.pages.map sRow)), .c (.list false 1 (x.ftl.wear.map nRow)), .c (.list false 1 (x.ftl.map.map nRow)), .c (.int .i64 x.ftl.seq), .c (.list false 4 (x.parts.map partRow)), .c (.list false 2 (x.ports.map portRow)), .c (.int .i64 x.tick)])]) (rts := []) (n := 20) (k := 7) Try.func26 rfl rfl (by simp) rfl (fun t => ?_) rfl ?_
  · cases t <;> rfl
  have r1 := runs_21 x.ftl hs.ftl.pages hs.ftl.wear hs.ftl.map
  have qp : (x.ftl.pages.map sRow).take x.ftl.pages.length = x.ftl.pages.map sRow := by rw [List.take_of_length_le (by simp)]
  have qw : (x.ftl.wear.map nRow).take x.ftl.wear.length = x.ftl.wear.map nRow := by rw [List.take_of_length_le (by simp)]
  have qm : (x.ftl.map.map nRow).take x.ftl.map.length = x.ftl.map.map nRow := by rw [List.take_of_length_le (by simp)]
  (refine vw_go rfl ?_; simp only [go_sem, setCells, setIn])
  (refine vw_go rfl ?_; simp only [go_sem, setCells, setIn])
  (refine vw_go rfl ?_; simp only [go_sem, setCells, setIn])
  (refine ⟨_, _, call_rx [0] Try.func21 (r1) rfl rfl rfl rfl rfl rfl rfl (by simp [lendAll, lendC, seek, fresh, nav, rcells, RT.cells, VV.cells, tabE_cons, tabS_cons, ev, take_map_len, sRow_r1, sRow_comp, sRow_clean, nRow_r1, nRow_comp, nRow_clean, partRow_r1, partRow_comp, partRowO_r1, partRowO_comp, partRowO_clean, portRow_r1, portRow_comp, portRowO_r1, portRowO_comp, portRowO_clean]) rfl (by simp [rcells, RT.cells, CT.clean, T.clean, sRow_r1, sRow_comp, sRow_clean, nRow_r1, nRow_comp, nRow_clean, partRow_r1, partRow_comp, partRowO_r1, partRowO_comp, partRowO_clean, portRow_r1, portRow_comp, portRowO_r1, portRowO_comp, portRowO_clean]) rfl rfl, ?_⟩)
  simp only [runH, runX, qp, qw, qm, List.length_map, go_sem, setCells, setIn]
  (refine vw_go rfl ?_; simp only [go_sem, setCells, setIn])
  (refine ⟨_, _, call_rx [0] Try.func90 (runs_90 x.parts hs.nparts hs.parts) rfl rfl rfl rfl rfl rfl rfl (by simp [lendAll, lendC, seek, fresh, nav, rcells, RT.cells, VV.cells, tabE_cons, tabS_cons, ev, take_map_len, sRow_r1, sRow_comp, sRow_clean, nRow_r1, nRow_comp, nRow_clean, partRow_r1, partRow_comp, partRowO_r1, partRowO_comp, partRowO_clean, portRow_r1, portRow_comp, portRowO_r1, portRowO_comp, portRowO_clean]) rfl (by simp [rcells, RT.cells, CT.clean, T.clean, sRow_r1, sRow_comp, sRow_clean, nRow_r1, nRow_comp, nRow_clean, partRow_r1, partRow_comp, partRowO_r1, partRowO_comp, partRowO_clean, portRow_r1, portRow_comp, portRowO_r1, portRowO_comp, portRowO_clean]) rfl rfl, ?_⟩)
  simp only [runH, runX, go_sem, setCells, setIn]
  (refine vw_go rfl ?_; simp only [go_sem, setCells, setIn])
  (refine ⟨_, _, call_rx [0] Try.func91 (runs_91 x.ports hs.nports hs.ports) rfl rfl rfl rfl rfl rfl rfl (by simp [lendAll, lendC, seek, fresh, nav, rcells, RT.cells, VV.cells, tabE_cons, tabS_cons, ev, take_map_len, sRow_r1, sRow_comp, sRow_clean, nRow_r1, nRow_comp, nRow_clean, partRow_r1, partRow_comp, partRowO_r1, partRowO_comp, partRowO_clean, portRow_r1, portRow_comp, portRowO_r1, portRowO_comp, portRowO_clean]) rfl (by simp [rcells, RT.cells, CT.clean, T.clean, sRow_r1, sRow_comp, sRow_clean, nRow_r1, nRow_comp, nRow_clean, partRow_r1, partRow_comp, partRowO_r1, partRowO_comp, partRowO_clean, portRow_r1, portRow_comp, portRowO_r1, portRowO_comp, portRowO_clean]) rfl rfl, ?_⟩)
  simp only [runH, runX, go_sem, setCells, setIn]
  (refine vw_go rfl ?_; simp only [go_sem, setCells, setIn])
  (refine vw_go rfl ?_; simp only [go_sem, setCells, setIn])
  exact vw_ret (e_ret (ret_by rfl rfl (by simp [RB]) rfl (by simp only [takeCs, takeC, go_sem, setCells, setIn])))

theorem runs_29 (x y : SysV) (hx : x.small) (hy : y.small) (hxo : x.ok) (hyo : y.ok) :
    Runs Try.prog 29 [.agg [.v (.list false 1 (x.ftl.pages.map sRow)), .v (.list false 1 (x.ftl.wear.map nRow)), .v (.list false 1 (x.ftl.map.map nRow)), .v (.int .i64 x.ftl.seq), .v (.list false 4 (x.parts.map partRow)), .v (.list false 2 (x.ports.map portRow)), .v (.int .i64 x.tick)], .agg [.v (.list false 1 (y.ftl.pages.map sRow)), .v (.list false 1 (y.ftl.wear.map nRow)), .v (.list false 1 (y.ftl.map.map nRow)), .v (.int .i64 y.ftl.seq), .v (.list false 4 (y.parts.map partRow)), .v (.list false 2 (y.ports.map portRow)), .v (.int .i64 y.tick)]] [.one (.v (.bool (decide (x = y))))] [] := by
  refine runs_tab (tab := [(0, .agg [.c (.list false 1 (x.ftl.pages.map sRow)), .c (.list false 1 (x.ftl.wear.map nRow)), .c (.list false 1 (x.ftl.map.map nRow)), .c (.int .i64 x.ftl.seq), .c (.list false 4 (x.parts.map partRow)), .c (.list false 2 (x.ports.map portRow)), .c (.int .i64 x.tick)]), (1, .agg [.c (.list false 1 (y.ftl.pages.map sRow)), .c (.list false 1 (y.ftl.wear.map nRow)), .c (.list false 1 (y.ftl.map.map nRow)), .c (.int .i64 y.ftl.seq), .c (.list false 4 (y.parts.map partRow)), .c (.list false 2 (y.ports.map portRow)), .c (.int .i64 y.tick)])]) (rts := []) (n := 28) (k := 14) Try.func29 rfl rfl (by simp) rfl (fun t => ?_) rfl ?_
  · rcases t with _ | _ | t <;> rfl
  have h1 := hx.ftl.pages
  have h2 := hx.ftl.wear
  have h3 := hx.ftl.map
  have h4 := hy.ftl.pages
  have h5 := hy.ftl.wear
  have h6 := hy.ftl.map
  have r1 := runs_23 x.ftl y.ftl ⟨by omega, by omega⟩ ⟨by omega, by omega⟩ (by omega) (by omega)
  have r2 := runs_95 x.parts y.parts hxo.2.1.1 hyo.2.1.1 hxo.2.1.2 hyo.2.1.2
  have r3 := runs_96 x.ports y.ports hxo.2.2.1 hyo.2.2.1 hxo.2.2.2 hyo.2.2.2
  (refine vw_go rfl ?_; simp only [go_sem, setCells, setIn])
  refine vw_seq ?_
  (refine vw_go rfl ?_; simp only [go_sem, setCells, setIn])
  (refine ⟨_, _, call_rx [0, 0] Try.func23 (r1) rfl rfl rfl rfl rfl rfl rfl (by simp [lendAll, lendC, seek, fresh, nav, rcells, RT.cells, VV.cells, tabE_cons, tabS_cons, ev, take_map_len, sRow_r1, sRow_comp, sRow_clean, nRow_r1, nRow_comp, nRow_clean, partRow_r1, partRow_comp, partRowO_r1, partRowO_comp, partRowO_clean, portRow_r1, portRow_comp, portRowO_r1, portRowO_comp, portRowO_clean]) rfl (by simp [rcells, RT.cells, CT.clean, T.clean, sRow_r1, sRow_comp, sRow_clean, nRow_r1, nRow_comp, nRow_clean, partRow_r1, partRow_comp, partRowO_r1, partRowO_comp, partRowO_clean, portRow_r1, portRow_comp, portRowO_r1, portRowO_comp, portRowO_clean]) rfl rfl, ?_⟩)
  simp only [runH, runX, go_sem, setCells, setIn]
  refine vw_cond (t := !decide (x.ftl = y.ftl)) rfl (fun g0 => ?_) (fun g0 => ?_)
  · (refine vw_go rfl ?_; simp only [go_sem, setCells, setIn])
    rw [show decide (x = y) = false from decide_eq_false (fun e => by subst e; simp at g0)]
    exact vw_ret (r_then (e_ret (ret_of rfl rfl (by simp [RB]) rfl rfl)))
  refine vw_skip (n_then ?_)
  refine vw_seq ?_
  (refine vw_go rfl ?_; simp only [go_sem, setCells, setIn])
  (refine ⟨_, _, call_rx [0, 0] Try.func95 (r2) rfl rfl rfl rfl rfl rfl rfl (by simp [lendAll, lendC, seek, fresh, nav, rcells, RT.cells, VV.cells, tabE_cons, tabS_cons, ev, take_map_len, sRow_r1, sRow_comp, sRow_clean, nRow_r1, nRow_comp, nRow_clean, partRow_r1, partRow_comp, partRowO_r1, partRowO_comp, partRowO_clean, portRow_r1, portRow_comp, portRowO_r1, portRowO_comp, portRowO_clean]) rfl (by simp [rcells, RT.cells, CT.clean, T.clean, sRow_r1, sRow_comp, sRow_clean, nRow_r1, nRow_comp, nRow_clean, partRow_r1, partRow_comp, partRowO_r1, partRowO_comp, partRowO_clean, portRow_r1, portRow_comp, portRowO_r1, portRowO_comp, portRowO_clean]) rfl rfl, ?_⟩)
  simp only [runH, runX, go_sem, setCells, setIn]
  refine vw_cond (t := !decide (x.parts = y.parts)) rfl (fun g1 => ?_) (fun g1 => ?_)
  · (refine vw_go rfl ?_; simp only [go_sem, setCells, setIn])
    rw [show decide (x = y) = false from decide_eq_false (fun e => by subst e; simp at g1)]
    exact vw_ret (r_then (e_ret (ret_of rfl rfl (by simp [RB]) rfl rfl)))
  refine vw_skip (n_then ?_)
  refine vw_seq ?_
  (refine vw_go rfl ?_; simp only [go_sem, setCells, setIn])
  (refine ⟨_, _, call_rx [0, 0] Try.func96 (r3) rfl rfl rfl rfl rfl rfl rfl (by simp [lendAll, lendC, seek, fresh, nav, rcells, RT.cells, VV.cells, tabE_cons, tabS_cons, ev, take_map_len, sRow_r1, sRow_comp, sRow_clean, nRow_r1, nRow_comp, nRow_clean, partRow_r1, partRow_comp, partRowO_r1, partRowO_comp, partRowO_clean, portRow_r1, portRow_comp, portRowO_r1, portRowO_comp, portRowO_clean]) rfl (by simp [rcells, RT.cells, CT.clean, T.clean, sRow_r1, sRow_comp, sRow_clean, nRow_r1, nRow_comp, nRow_clean, partRow_r1, partRow_comp, partRowO_r1, partRowO_comp, partRowO_clean, portRow_r1, portRow_comp, portRowO_r1, portRowO_comp, portRowO_clean]) rfl rfl, ?_⟩)
  simp only [runH, runX, go_sem, setCells, setIn]
  refine vw_cond (t := !decide (x.ports = y.ports)) rfl (fun g2 => ?_) (fun g2 => ?_)
  · (refine vw_go rfl ?_; simp only [go_sem, setCells, setIn])
    rw [show decide (x = y) = false from decide_eq_false (fun e => by subst e; simp at g2)]
    exact vw_ret (r_then (e_ret (ret_of rfl rfl (by simp [RB]) rfl rfl)))
  refine vw_skip (n_then ?_)
  refine vw_seq ?_
  (refine vw_go rfl ?_; simp only [go_sem, setCells, setIn])
  refine vw_cond (t := !decide (x.tick = y.tick)) rfl (fun g3 => ?_) (fun g3 => ?_)
  · (refine vw_go rfl ?_; simp only [go_sem, setCells, setIn])
    rw [show decide (x = y) = false from decide_eq_false (fun e => by subst e; simp at g3)]
    exact vw_ret (r_then (e_ret (ret_of rfl rfl (by simp [RB]) rfl rfl)))
  refine vw_skip (n_then ?_)
  (refine vw_go rfl ?_; simp only [go_sem, setCells, setIn])
  rw [show decide (x = y) = true from decide_eq_true (by cases x; cases y; simp_all)]
  exact vw_ret (e_ret (ret_of rfl rfl (by simp [RB]) rfl rfl))
end Go.Proofs.Ytppbonbghmdhhaa
