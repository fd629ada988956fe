/- Ports: size, copy, comparing, PortOk. -/
import Derived.Test.YtppbonbghmdhhaaPFOp
import Derived.Test.YtppbonbghmdhhaaPFTell
namespace Go.Proofs.Ytppbonbghmdhhaa
open Go.VM
set_option maxRecDepth 100000
set_option linter.unusedSimpArgs false
set_option linter.unusedVariables false
attribute [local congr] vw_congr runV_congr runH_congr runW_congr runX_congr

structure PortV where
  asks : List OpV
  tells : List TellV
  deriving DecidableEq
def PortV.ok (x : PortV) : Prop := (x.asks.length < 2 ^ 63 ∧ ∀ y ∈ x.asks, y.ok) ∧ (x.tells.length < 2 ^ 63 ∧ ∀ y ∈ x.tells, y.ok)

def szPort (x : PortV) (left : Int) : Int := if szSOp x.asks left < 0 then -1 else if szSTell x.tells (szSOp x.asks left) < 0 then -1 else szSTell x.tells (szSOp x.asks left)

theorem runs_135 (x : PortV) (left : Int) (hx : x.ok) (h0 : 0 ≤ left) (h1 : left < 2 ^ 63) :
    Runs Try.prog 135 [.agg [.v (.list false 4 (x.asks.map opRow)), .v (.list false 2 (x.tells.map tellRow))], .one (.v (.int .i64 left))] [.one (.v (.int .i64 (szPort x left)))] [] := by
  refine runs_tab (tab := [(0, .agg [.c (.list false 4 (x.asks.map opRow)), .c (.list false 2 (x.tells.map tellRow))]), (1, .c (.int .i64 left))]) (rts := []) (n := 18) (k := 3) Try.func135 rfl rfl (by simp) rfl (fun t => ?_) rfl ?_
  · rcases t with _ | _ | t <;> rfl
  have l1 := szSOp_le x.asks left h0
  (refine vw_go rfl ?_; simp only [go_sem, setCells, setIn])
  (refine vw_go rfl ?_; simp only [go_sem, setCells, setIn])
  (refine ⟨_, _, call_rx [0, 0] Try.func172 (runs_172 x.asks left hx.1.2 hx.1.1 h0 h1) rfl rfl rfl rfl rfl rfl rfl (by simp [lendAll, lendC, seek, fresh, nav, rcells, RT.cells, VV.cells, tabE_cons, tabS_cons, ev, take_map_len, opRow_r1, opRow_clean]) rfl (by simp [rcells, RT.cells, CT.clean, T.clean, opRow_r1, opRow_clean]) rfl rfl, ?_⟩)
  simp only [runH, runX, go_sem, setCells, setIn]
  refine vw_seq ?_
  (refine vw_go rfl ?_; simp only [go_sem, setCells, setIn])
  refine vw_cond (t := decide (szSOp x.asks left < 0)) rfl (fun g0 => ?_) (fun g0 => ?_)
  · (refine vw_go rfl ?_; simp only [go_sem, setCells, setIn])
    simp only [decide_eq_true_eq] at g0
    rw [show szPort x left = -1 from by simp [szPort, g0]]
    exact vw_ret (r_then (e_ret (ret_of rfl rfl (by simp [RB]) rfl rfl)))
  refine vw_skip (n_then ?_)
  simp only [decide_eq_false_iff_not] at g0
  (refine vw_go rfl ?_; simp only [go_sem, setCells, setIn])
  (refine ⟨_, _, call_rx [0, 0] Try.func171 (runs_171 x.tells (szSOp x.asks left) hx.2.2 hx.2.1 (by omega) (by omega)) rfl rfl rfl rfl rfl rfl rfl (by simp [lendAll, lendC, seek, fresh, nav, rcells, RT.cells, VV.cells, tabE_cons, tabS_cons, ev, take_map_len, tellRow_r1, tellRow_clean]) rfl (by simp [rcells, RT.cells, CT.clean, T.clean, tellRow_r1, tellRow_clean]) rfl rfl, ?_⟩)
  simp only [runH, runX, go_sem, setCells, setIn]
  refine vw_seq ?_
  (refine vw_go rfl ?_; simp only [go_sem, setCells, setIn])
  refine vw_cond (t := decide (szSTell x.tells (szSOp x.asks left) < 0)) rfl (fun g1 => ?_) (fun g1 => ?_)
  · (refine vw_go rfl ?_; simp only [go_sem, setCells, setIn])
    simp only [decide_eq_true_eq] at g1
    rw [show szPort x left = -1 from by simp [szPort, g0, g1]]
    exact vw_ret (r_then (e_ret (ret_of rfl rfl (by simp [RB]) rfl rfl)))
  refine vw_skip (n_then ?_)
  simp only [decide_eq_false_iff_not] at g1
  (refine vw_go rfl ?_; simp only [go_sem, setCells, setIn])
  rw [show szPort x left = szSTell x.tells (szSOp x.asks left) from by simp [szPort, g0, g1]]
  exact vw_ret (e_ret (ret_of rfl rfl (by simp [RB]) rfl rfl))

theorem szPort_le (x : PortV) (left : Int) (h : 0 ≤ left) : szPort x left ≤ left := by
  unfold szPort
  have a := szSOp_le x.asks left h
  split
  · omega
  · rename_i g
    have b := szSTell_le x.tells (szSOp x.asks left) (by omega)
    split <;> omega

theorem szPort_len {x : PortV} {left : Int} (h0 : 0 ≤ left) (h : ¬ szPort x left < 0) : (x.asks.length : Int) ≤ left ∧ (x.tells.length : Int) ≤ left := by
  unfold szPort at h
  have l1 := szSOp_le x.asks left h0
  split at h
  · exact absurd (by decide) h
  · rename_i g0
    split at h
    · exact absurd (by decide) h
    · rename_i g1
      have a := szSOp_len g0
      have b := szSTell_len g1
      omega

theorem runs_137 (x : PortV) (ha : x.asks.length ≤ 2 ^ 20) (ht : x.tells.length ≤ 2 ^ 20) :
    Runs Try.prog 137 [.agg [.v (.list false 4 (x.asks.map opRow)), .v (.list false 2 (x.tells.map tellRow))]] [.agg [.v (.list true 4 (x.asks.map opRow)), .v (.list true 2 (x.tells.map tellRow))]] [] := by
  refine runs_tab (tab := [(0, .agg [.c (.list false 4 (x.asks.map opRow)), .c (.list false 2 (x.tells.map tellRow))])]) (rts := []) (n := 13) (k := 2) Try.func137 rfl rfl (by simp) rfl (fun t => ?_) rfl ?_
  · cases t <;> rfl
  (refine vw_go rfl ?_; simp only [go_sem, setCells, setIn])
  (refine vw_go rfl ?_; simp only [go_sem, setCells, setIn])
  (refine vw_go rfl ?_; simp only [go_sem, setCells, setIn])
  (refine ⟨_, _, call_rx [0] Try.func175 (runs_175 x.asks ha) rfl rfl rfl rfl rfl rfl rfl (by simp [lendAll, lendC, seek, fresh, nav, rcells, RT.cells, VV.cells, tabE_cons, tabS_cons, ev, take_map_len, opRow_r1, opRow_clean]) rfl (by simp [rcells, RT.cells, CT.clean, T.clean, opRow_r1, opRow_clean]) rfl rfl, ?_⟩)
  simp only [runH, runX, go_sem, setCells, setIn]
  (refine vw_go rfl ?_; simp only [go_sem, setCells, setIn])
  (refine ⟨_, _, call_rx [0] Try.func174 (runs_174 x.tells ht) rfl rfl rfl rfl rfl rfl rfl (by simp [lendAll, lendC, seek, fresh, nav, rcells, RT.cells, VV.cells, tabE_cons, tabS_cons, ev, take_map_len, tellRow_r1, tellRow_clean]) rfl (by simp [rcells, RT.cells, CT.clean, T.clean, tellRow_r1, tellRow_clean]) rfl rfl, ?_⟩)
  simp only [runH, runX, go_sem, setCells, setIn]
  (refine vw_go rfl ?_; simp only [go_sem, setCells, setIn])
  exact vw_ret (e_ret (ret_by rfl rfl (by simp [RB]) rfl (by simp only [takeCs, takeC, go_sem, setCells, setIn])))

theorem runs_139 (x y : PortV) (hxa : x.asks.length < 2 ^ 63) (hxt : x.tells.length < 2 ^ 63) (hya : y.asks.length < 2 ^ 63) (hyt : y.tells.length < 2 ^ 63) :
    Runs Try.prog 139 [.agg [.v (.list false 4 (x.asks.map opRow)), .v (.list false 2 (x.tells.map tellRow))], .agg [.v (.list false 4 (y.asks.map opRow)), .v (.list false 2 (y.tells.map tellRow))]] [.one (.v (.bool (decide (x = y))))] [] := by
  refine runs_tab (tab := [(0, .agg [.c (.list false 4 (x.asks.map opRow)), .c (.list false 2 (x.tells.map tellRow))]), (1, .agg [.c (.list false 4 (y.asks.map opRow)), .c (.list false 2 (y.tells.map tellRow))])]) (rts := []) (n := 17) (k := 4) Try.func139 rfl rfl (by simp) rfl (fun t => ?_) rfl ?_
  · rcases t with _ | _ | t <;> rfl
  (refine vw_go rfl ?_; simp only [go_sem, setCells, setIn])
  refine vw_seq ?_
  (refine vw_go rfl ?_; simp only [go_sem, setCells, setIn])
  (refine ⟨_, _, call_rx [0, 0] Try.func177 (runs_177 x.asks y.asks hxa hya) rfl rfl rfl rfl rfl rfl rfl (by simp [lendAll, lendC, seek, fresh, nav, rcells, RT.cells, VV.cells, tabE_cons, tabS_cons, ev, take_map_len, opRow_r1, opRow_clean]) rfl (by simp [rcells, RT.cells, CT.clean, T.clean, opRow_r1, opRow_clean]) rfl rfl, ?_⟩)
  simp only [runH, runX, go_sem, setCells, setIn]
  refine vw_cond (t := !decide (x.asks = y.asks)) rfl (fun g0 => ?_) (fun g0 => ?_)
  · (refine vw_go rfl ?_; simp only [go_sem, setCells, setIn])
    rw [show decide (x = y) = false from decide_eq_false (fun e => by subst e; simp at g0)]
    exact vw_ret (r_then (e_ret (ret_of rfl rfl (by simp [RB]) rfl rfl)))
  refine vw_skip (n_then ?_)
  refine vw_seq ?_
  (refine vw_go rfl ?_; simp only [go_sem, setCells, setIn])
  (refine ⟨_, _, call_rx [0, 0] Try.func28 (runs_28 x.tells y.tells hxt hyt) rfl rfl rfl rfl rfl rfl rfl (by simp [lendAll, lendC, seek, fresh, nav, rcells, RT.cells, VV.cells, tabE_cons, tabS_cons, ev, take_map_len, tellRow_r1, tellRow_clean]) rfl (by simp [rcells, RT.cells, CT.clean, T.clean, tellRow_r1, tellRow_clean]) rfl rfl, ?_⟩)
  simp only [runH, runX, go_sem, setCells, setIn]
  refine vw_cond (t := !decide (x.tells = y.tells)) rfl (fun g1 => ?_) (fun g1 => ?_)
  · (refine vw_go rfl ?_; simp only [go_sem, setCells, setIn])
    rw [show decide (x = y) = false from decide_eq_false (fun e => by subst e; simp at g1)]
    exact vw_ret (r_then (e_ret (ret_of rfl rfl (by simp [RB]) rfl rfl)))
  refine vw_skip (n_then ?_)
  (refine vw_go rfl ?_; simp only [go_sem, setCells, setIn])
  rw [show decide (x = y) = true from decide_eq_true (by cases x; cases y; simp_all)]
  exact vw_ret (e_ret (ret_of rfl rfl (by simp [RB]) rfl rfl))

theorem typed_168 {k : Nat} {ts : List T} (h : typed Try.prog (k + 5) 168 ts) : ∃ x : PortV, ts = [.list false 4 (x.asks.map opRow), .list false 2 (x.tells.map tellRow)] ∧ x.ok := by
  rw [typed] at h
  simp only [Try.underlying168, typedF, List.map_cons, List.map_nil] at h
  obtain ⟨_, _, rfl, h1, _, _, rfl, h2, rfl⟩ := h
  obtain ⟨a, rfl, ha⟩ := typed_166 h1
  obtain ⟨b, rfl, hb⟩ := typed_162 h2
  exact ⟨⟨a, b⟩, rfl, ha, hb⟩

end Go.Proofs.Ytppbonbghmdhhaa
