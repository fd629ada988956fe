/- Parts: size, copy, comparing, PartOk, and its law. -/
import Derived.Test.YtppbonbghmdhhaaPFCode2
import Derived.Test.YtppbonbghmdhhaaPFTell
namespace Go.Proofs.Ytppbonbghmdhhaa
open Go.VM
set_option maxRecDepth 100000
set_option linter.unusedSimpArgs false
set_option linter.unusedVariables false
attribute [local congr] vw_congr runV_congr runH_congr runW_congr runX_congr

structure PartV where
  code : List InsV
  at_ : Int
  seen : List TellV
  over : Bool
  deriving DecidableEq
def PartV.ok (x : PartV) : Prop := (x.code.length < 2 ^ 63 ∧ ∀ y ∈ x.code, y.ok) ∧ (x.seen.length < 2 ^ 63 ∧ ∀ y ∈ x.seen, y.ok)

def szPart (x : PartV) (left : Int) : Int := if szSIns x.code left < 0 then -1 else if szSTell x.seen (szSIns x.code left) < 0 then -1 else szSTell x.seen (szSIns x.code left)

theorem runs_134 (x : PartV) (left : Int) (hx : x.ok) (h0 : 0 ≤ left) (h1 : left < 2 ^ 63) :
    Runs Try.prog 134 [.agg [.v (.list false 6 (x.code.map insRow)), .v (.int .i64 x.at_), .v (.list false 2 (x.seen.map tellRow)), .v (.bool x.over)], .one (.v (.int .i64 left))] [.one (.v (.int .i64 (szPart x left)))] [] := by
  refine runs_tab (tab := [(0, .agg [.c (.list false 6 (x.code.map insRow)), .c (.int .i64 x.at_), .c (.list false 2 (x.seen.map tellRow)), .c (.bool x.over)]), (1, .c (.int .i64 left))]) (rts := []) (n := 18) (k := 5) Try.func134 rfl rfl (by simp) rfl (fun t => ?_) rfl ?_
  · rcases t with _ | _ | t <;> rfl
  have l1 := szSIns_le x.code left h0
  (refine vw_go rfl ?_; simp only [go_sem, setCells, setIn])
  (refine vw_go rfl ?_; simp only [go_sem, setCells, setIn])
  (refine ⟨_, _, call_rx [0, 0] Try.func170 (runs_170 x.code left hx.1.2 hx.1.1 h0 h1) rfl rfl rfl rfl rfl rfl rfl (by simp [lendAll, lendC, seek, fresh, nav, rcells, RT.cells, VV.cells, tabE_cons, tabS_cons, ev, take_map_len, insRow_r1, insRow_clean, tellRow_r1, tellRow_clean]) rfl (by simp [rcells, RT.cells, CT.clean, T.clean, insRow_r1, insRow_clean, tellRow_r1, tellRow_clean]) rfl rfl, ?_⟩)
  simp only [runH, runX, go_sem, setCells, setIn]
  refine vw_seq ?_
  (refine vw_go rfl ?_; simp only [go_sem, setCells, setIn])
  refine vw_cond (t := decide (szSIns x.code left < 0)) rfl (fun g0 => ?_) (fun g0 => ?_)
  · (refine vw_go rfl ?_; simp only [go_sem, setCells, setIn])
    simp only [decide_eq_true_eq] at g0
    rw [show szPart x left = -1 from by simp [szPart, g0]]
    exact vw_ret (r_then (e_ret (ret_of rfl rfl (by simp [RB]) rfl rfl)))
  refine vw_skip (n_then ?_)
  simp only [decide_eq_false_iff_not] at g0
  (refine vw_go rfl ?_; simp only [go_sem, setCells, setIn])
  (refine ⟨_, _, call_rx [0, 0] Try.func171 (runs_171 x.seen (szSIns x.code left) hx.2.2 hx.2.1 (by omega) (by omega)) rfl rfl rfl rfl rfl rfl rfl (by simp [lendAll, lendC, seek, fresh, nav, rcells, RT.cells, VV.cells, tabE_cons, tabS_cons, ev, take_map_len, insRow_r1, insRow_clean, tellRow_r1, tellRow_clean]) rfl (by simp [rcells, RT.cells, CT.clean, T.clean, insRow_r1, insRow_clean, tellRow_r1, tellRow_clean]) rfl rfl, ?_⟩)
  simp only [runH, runX, go_sem, setCells, setIn]
  refine vw_seq ?_
  (refine vw_go rfl ?_; simp only [go_sem, setCells, setIn])
  refine vw_cond (t := decide (szSTell x.seen (szSIns x.code left) < 0)) rfl (fun g1 => ?_) (fun g1 => ?_)
  · (refine vw_go rfl ?_; simp only [go_sem, setCells, setIn])
    simp only [decide_eq_true_eq] at g1
    rw [show szPart x left = -1 from by simp [szPart, g0, g1]]
    exact vw_ret (r_then (e_ret (ret_of rfl rfl (by simp [RB]) rfl rfl)))
  refine vw_skip (n_then ?_)
  simp only [decide_eq_false_iff_not] at g1
  (refine vw_go rfl ?_; simp only [go_sem, setCells, setIn])
  rw [show szPart x left = szSTell x.seen (szSIns x.code left) from by simp [szPart, g0, g1]]
  exact vw_ret (e_ret (ret_of rfl rfl (by simp [RB]) rfl rfl))

theorem szPart_len {x : PartV} {left : Int} (h0 : 0 ≤ left) (h : ¬ szPart x left < 0) : (x.code.length : Int) ≤ left ∧ (x.seen.length : Int) ≤ left := by
  unfold szPart at h
  have l1 := szSIns_le x.code left h0
  split at h
  · exact absurd (by decide) h
  · rename_i g0
    split at h
    · exact absurd (by decide) h
    · rename_i g1
      have a := szSIns_len g0
      have b := szSTell_len g1
      omega

theorem runs_136 (x : PartV) (ha : x.code.length ≤ 2 ^ 20) (ht : x.seen.length ≤ 2 ^ 20) :
    Runs Try.prog 136 [.agg [.v (.list false 6 (x.code.map insRow)), .v (.int .i64 x.at_), .v (.list false 2 (x.seen.map tellRow)), .v (.bool x.over)]] [.agg [.v (.list true 6 (x.code.map insRow)), .v (.int .i64 x.at_), .v (.list true 2 (x.seen.map tellRow)), .v (.bool x.over)]] [] := by
  refine runs_tab (tab := [(0, .agg [.c (.list false 6 (x.code.map insRow)), .c (.int .i64 x.at_), .c (.list false 2 (x.seen.map tellRow)), .c (.bool x.over)])]) (rts := []) (n := 19) (k := 4) Try.func136 rfl rfl (by simp) rfl (fun t => ?_) rfl ?_
  · cases t <;> rfl
  (refine vw_go rfl ?_; simp only [go_sem, setCells, setIn])
  (refine vw_go rfl ?_; simp only [go_sem, setCells, setIn])
  (refine vw_go rfl ?_; simp only [go_sem, setCells, setIn])
  (refine ⟨_, _, call_rx [0] Try.func173 (runs_173 x.code ha) rfl rfl rfl rfl rfl rfl rfl (by simp [lendAll, lendC, seek, fresh, nav, rcells, RT.cells, VV.cells, tabE_cons, tabS_cons, ev, take_map_len, insRow_r1, insRow_clean, tellRow_r1, tellRow_clean]) rfl (by simp [rcells, RT.cells, CT.clean, T.clean, insRow_r1, insRow_clean, tellRow_r1, tellRow_clean]) rfl rfl, ?_⟩)
  simp only [runH, runX, go_sem, setCells, setIn]
  (refine vw_go rfl ?_; simp only [go_sem, setCells, setIn])
  (refine vw_go rfl ?_; simp only [go_sem, setCells, setIn])
  (refine ⟨_, _, call_rx [0] Try.func174 (runs_174 x.seen ht) rfl rfl rfl rfl rfl rfl rfl (by simp [lendAll, lendC, seek, fresh, nav, rcells, RT.cells, VV.cells, tabE_cons, tabS_cons, ev, take_map_len, insRow_r1, insRow_clean, tellRow_r1, tellRow_clean]) rfl (by simp [rcells, RT.cells, CT.clean, T.clean, insRow_r1, insRow_clean, tellRow_r1, tellRow_clean]) rfl rfl, ?_⟩)
  simp only [runH, runX, go_sem, setCells, setIn]
  (refine vw_go rfl ?_; simp only [go_sem, setCells, setIn])
  (refine vw_go rfl ?_; simp only [go_sem, setCells, setIn])
  exact vw_ret (e_ret (ret_by rfl rfl (by simp [RB]) rfl (by simp only [takeCs, takeC, go_sem, setCells, setIn])))

theorem runs_138 (x y : PartV) (hx : x.ok) (hy : y.ok) :
    Runs Try.prog 138 [.agg [.v (.list false 6 (x.code.map insRow)), .v (.int .i64 x.at_), .v (.list false 2 (x.seen.map tellRow)), .v (.bool x.over)], .agg [.v (.list false 6 (y.code.map insRow)), .v (.int .i64 y.at_), .v (.list false 2 (y.seen.map tellRow)), .v (.bool y.over)]] [.one (.v (.bool (decide (x = y))))] [] := by
  refine runs_tab (tab := [(0, .agg [.c (.list false 6 (x.code.map insRow)), .c (.int .i64 x.at_), .c (.list false 2 (x.seen.map tellRow)), .c (.bool x.over)]), (1, .agg [.c (.list false 6 (y.code.map insRow)), .c (.int .i64 y.at_), .c (.list false 2 (y.seen.map tellRow)), .c (.bool y.over)])]) (rts := []) (n := 27) (k := 8) Try.func138 rfl rfl (by simp) rfl (fun t => ?_) rfl ?_
  · rcases t with _ | _ | t <;> rfl
  (refine vw_go rfl ?_; simp only [go_sem, setCells, setIn])
  refine vw_seq ?_
  (refine vw_go rfl ?_; simp only [go_sem, setCells, setIn])
  (refine ⟨_, _, call_rx [0, 0] Try.func176 (runs_176 x.code y.code hx.1.1 hy.1.1) rfl rfl rfl rfl rfl rfl rfl (by simp [lendAll, lendC, seek, fresh, nav, rcells, RT.cells, VV.cells, tabE_cons, tabS_cons, ev, take_map_len, insRow_r1, insRow_clean, tellRow_r1, tellRow_clean]) rfl (by simp [rcells, RT.cells, CT.clean, T.clean, insRow_r1, insRow_clean, tellRow_r1, tellRow_clean]) rfl rfl, ?_⟩)
  simp only [runH, runX, go_sem, setCells, setIn]
  refine vw_cond (t := !decide (x.code = y.code)) rfl (fun g0 => ?_) (fun g0 => ?_)
  · (refine vw_go rfl ?_; simp only [go_sem, setCells, setIn])
    rw [show decide (x = y) = false from decide_eq_false (fun e => by subst e; simp at g0)]
    exact vw_ret (r_then (e_ret (ret_of rfl rfl (by simp [RB]) rfl rfl)))
  refine vw_skip (n_then ?_)
  refine vw_seq ?_
  (refine vw_go rfl ?_; simp only [go_sem, setCells, setIn])
  refine vw_cond (t := !decide (x.at_ = y.at_)) rfl (fun g1 => ?_) (fun g1 => ?_)
  · (refine vw_go rfl ?_; simp only [go_sem, setCells, setIn])
    rw [show decide (x = y) = false from decide_eq_false (fun e => by subst e; simp at g1)]
    exact vw_ret (r_then (e_ret (ret_of rfl rfl (by simp [RB]) rfl rfl)))
  refine vw_skip (n_then ?_)
  refine vw_seq ?_
  (refine vw_go rfl ?_; simp only [go_sem, setCells, setIn])
  (refine ⟨_, _, call_rx [0, 0] Try.func28 (runs_28 x.seen y.seen hx.2.1 hy.2.1) rfl rfl rfl rfl rfl rfl rfl (by simp [lendAll, lendC, seek, fresh, nav, rcells, RT.cells, VV.cells, tabE_cons, tabS_cons, ev, take_map_len, insRow_r1, insRow_clean, tellRow_r1, tellRow_clean]) rfl (by simp [rcells, RT.cells, CT.clean, T.clean, insRow_r1, insRow_clean, tellRow_r1, tellRow_clean]) rfl rfl, ?_⟩)
  simp only [runH, runX, go_sem, setCells, setIn]
  refine vw_cond (t := !decide (x.seen = y.seen)) rfl (fun g2 => ?_) (fun g2 => ?_)
  · (refine vw_go rfl ?_; simp only [go_sem, setCells, setIn])
    rw [show decide (x = y) = false from decide_eq_false (fun e => by subst e; simp at g2)]
    exact vw_ret (r_then (e_ret (ret_of rfl rfl (by simp [RB]) rfl rfl)))
  refine vw_skip (n_then ?_)
  refine vw_seq ?_
  (refine vw_go rfl ?_; simp only [go_sem, setCells, setIn])
  refine vw_cond (t := !(x.over == y.over)) rfl (fun g3 => ?_) (fun g3 => ?_)
  · (refine vw_go rfl ?_; simp only [go_sem, setCells, setIn])
    rw [show decide (x = y) = false from decide_eq_false (fun e => by subst e; simp at g3)]
    exact vw_ret (r_then (e_ret (ret_of rfl rfl (by simp [RB]) rfl rfl)))
  refine vw_skip (n_then ?_)
  (refine vw_go rfl ?_; simp only [go_sem, setCells, setIn])
  rw [show decide (x = y) = true from decide_eq_true (by cases x; cases y; simp_all)]
  exact vw_ret (e_ret (ret_of rfl rfl (by simp [RB]) rfl rfl))

theorem typed_164 {k : Nat} {ts : List T} (h : typed Try.prog (k + 5) 164 ts) : ∃ x : PartV, ts = [.list false 6 (x.code.map insRow), .int .i64 x.at_, .list false 2 (x.seen.map tellRow), .bool x.over] ∧ x.ok := by
  rw [typed] at h
  simp only [Try.underlying164, typedF, List.map_cons, List.map_nil] at h
  obtain ⟨_, _, rfl, h1, _, _, rfl, h2, _, _, rfl, h3, _, _, rfl, h4, rfl⟩ := h
  obtain ⟨a, rfl, ha⟩ := typed_161 h1
  obtain ⟨b, rfl, hb⟩ := typed_162 h3
  rw [typed] at h2 h4
  simp only [Try.underlying3, Try.underlying4] at h2 h4
  obtain ⟨n, rfl, _⟩ := h2
  obtain ⟨o, rfl⟩ := h4
  exact ⟨⟨a, n, b, o⟩, rfl, ha, hb⟩

end Go.Proofs.Ytppbonbghmdhhaa
