/- The library's Repeat of one number, 26 times; Mul64 of 1 and 26. -/
import Derived.Test.YtppbonbghmdhhaaGreatPFSlices
namespace Go.Proofs.YtppbonbghmdhhaaGreat
open Go.VM Go
set_option maxRecDepth 100000
set_option linter.unusedSimpArgs false
set_option linter.unusedVariables false
attribute [local congr] vw_congr runV_congr runH_congr runW_congr runX_congr
theorem b0 : binV Tryz.prog .and 246 (.c (.int .u64 1)) (.c (.int .u64 4294967295)) = some (.c (.int .u64 1)) := by kernel_rfl
theorem b1 : binV Tryz.prog .and 246 (.c (.int .u64 26)) (.c (.int .u64 4294967295)) = some (.c (.int .u64 26)) := by kernel_rfl
theorem b2 : binV Tryz.prog .and 246 (.c (.int .u64 0)) (.c (.int .u64 4294967295)) = some (.c (.int .u64 0)) := by kernel_rfl
theorem b3 : binV Tryz.prog .shr 246 (.c (.int .u64 1)) (.c (.int .u64 32)) = some (.c (.int .u64 0)) := by kernel_rfl
theorem b4 : binV Tryz.prog .shr 246 (.c (.int .u64 26)) (.c (.int .u64 32)) = some (.c (.int .u64 0)) := by kernel_rfl
theorem b5 : binV Tryz.prog .shr 246 (.c (.int .u64 0)) (.c (.int .u64 32)) = some (.c (.int .u64 0)) := by kernel_rfl
theorem b6 : binV Tryz.prog .mul 246 (.c (.int .u64 1)) (.c (.int .u64 26)) = some (.c (.int .u64 26)) := by kernel_rfl
theorem b7 : binV Tryz.prog .mul 246 (.c (.int .u64 0)) (.c (.int .u64 26)) = some (.c (.int .u64 0)) := by kernel_rfl
theorem b8 : binV Tryz.prog .mul 246 (.c (.int .u64 1)) (.c (.int .u64 0)) = some (.c (.int .u64 0)) := by kernel_rfl
theorem b9 : binV Tryz.prog .mul 246 (.c (.int .u64 0)) (.c (.int .u64 0)) = some (.c (.int .u64 0)) := by kernel_rfl
theorem b10 : binV Tryz.prog .add 246 (.c (.int .u64 0)) (.c (.int .u64 0)) = some (.c (.int .u64 0)) := by kernel_rfl
theorem runs_231 : Runs Tryz.prog 231 [.one (.v (.int .u64 1)), .one (.v (.int .u64 26))] [.one (.v (.int .u64 0)), .one (.v (.int .u64 26))] [] := by
  refine runs_tab (tab := [(0, .c (.int .u64 1)), (1, .c (.int .u64 26))]) (rts := []) (n := 51) (k := 2) Tryz.func231 rfl rfl (by simp) rfl (fun t => ?_) rfl ?_
  · rcases t with _ | _ | t <;> rfl
  have cb0 := b0
  (try simp only [go_sem, Option.some.injEq, VV.c.injEq, T.int.injEq, true_and] at cb0)
  have cb1 := b1
  (try simp only [go_sem, Option.some.injEq, VV.c.injEq, T.int.injEq, true_and] at cb1)
  have cb2 := b2
  (try simp only [go_sem, Option.some.injEq, VV.c.injEq, T.int.injEq, true_and] at cb2)
  have cb3 := b3
  (try simp only [go_sem, Option.some.injEq, VV.c.injEq, T.int.injEq, true_and] at cb3)
  have cb4 := b4
  (try simp only [go_sem, Option.some.injEq, VV.c.injEq, T.int.injEq, true_and] at cb4)
  have cb5 := b5
  (try simp only [go_sem, Option.some.injEq, VV.c.injEq, T.int.injEq, true_and] at cb5)
  have cb6 := b6
  (try simp only [go_sem, Option.some.injEq, VV.c.injEq, T.int.injEq, true_and] at cb6)
  have cb7 := b7
  (try simp only [go_sem, Option.some.injEq, VV.c.injEq, T.int.injEq, true_and] at cb7)
  have cb8 := b8
  (try simp only [go_sem, Option.some.injEq, VV.c.injEq, T.int.injEq, true_and] at cb8)
  have cb9 := b9
  (try simp only [go_sem, Option.some.injEq, VV.c.injEq, T.int.injEq, true_and] at cb9)
  have cb10 := b10
  (try simp only [go_sem, Option.some.injEq, VV.c.injEq, T.int.injEq, true_and] at cb10)
  (refine vw_go rfl ?_; simp only [go_sem, setCells, setIn])
  (refine vw_go rfl ?_; simp only [cb0, cb1, cb2, cb3, cb4, cb5, cb6, cb7, cb8, cb9, cb10, go_sem, setCells, setIn])
  (refine vw_go rfl ?_; simp only [cb0, cb1, cb2, cb3, cb4, cb5, cb6, cb7, cb8, cb9, cb10, go_sem, setCells, setIn])
  (refine vw_go rfl ?_; simp only [cb0, cb1, cb2, cb3, cb4, cb5, cb6, cb7, cb8, cb9, cb10, go_sem, setCells, setIn])
  (refine vw_go rfl ?_; simp only [cb0, cb1, cb2, cb3, cb4, cb5, cb6, cb7, cb8, cb9, cb10, go_sem, setCells, setIn])
  (refine vw_go rfl ?_; simp only [cb0, cb1, cb2, cb3, cb4, cb5, cb6, cb7, cb8, cb9, cb10, go_sem, setCells, setIn])
  (refine vw_go rfl ?_; simp only [cb0, cb1, cb2, cb3, cb4, cb5, cb6, cb7, cb8, cb9, cb10, go_sem, setCells, setIn])
  (refine vw_go rfl ?_; simp only [cb0, cb1, cb2, cb3, cb4, cb5, cb6, cb7, cb8, cb9, cb10, go_sem, setCells, setIn])
  (refine vw_go rfl ?_; simp only [cb0, cb1, cb2, cb3, cb4, cb5, cb6, cb7, cb8, cb9, cb10, go_sem, setCells, setIn])
  (refine vw_go rfl ?_; simp only [cb0, cb1, cb2, cb3, cb4, cb5, cb6, cb7, cb8, cb9, cb10, go_sem, setCells, setIn])
  (refine vw_go rfl ?_; simp only [cb0, cb1, cb2, cb3, cb4, cb5, cb6, cb7, cb8, cb9, cb10, go_sem, setCells, setIn])
  (refine vw_go rfl ?_; simp only [cb0, cb1, cb2, cb3, cb4, cb5, cb6, cb7, cb8, cb9, cb10, go_sem, setCells, setIn])
  exact vw_ret (e_ret (ret_of rfl rfl (by simp [RB]) rfl rfl))
theorem runs_202 : Runs Tryz.prog 202 [.one (.v (.int .u64 1)), .one (.v (.int .u64 26))] [.one (.v (.int .u64 0)), .one (.v (.int .u64 26))] [] := by
  refine runs_tab (tab := [(0, .c (.int .u64 1)), (1, .c (.int .u64 26))]) (rts := []) (n := 30) (k := 2) Tryz.func202 rfl rfl (by simp) rfl (fun t => ?_) rfl ?_
  · rcases t with _ | _ | t <;> rfl
  (refine vw_go rfl ?_; simp only [go_sem, setCells, setIn])
  refine vw_seq ?_
  (refine vw_cond (t := false) rfl (fun h => nomatch h) (fun _ => ?_))
  refine vw_skip (n_then ?_)
  (refine vw_go rfl ?_; simp only [go_sem, setCells, setIn])
  (refine ⟨_, _, call_rd [0, 0] Tryz.func231 (runs_231) rfl rfl rfl rfl rfl rfl rfl rfl rfl rfl rfl rfl rfl, ?_⟩)
  simp only [runH, runX, go_sem, setCells, setIn]
  (refine vw_go rfl ?_; simp only [go_sem, setCells, setIn])
  exact vw_ret (e_ret (ret_of rfl rfl (by simp [RB]) rfl rfl))
def repR (k : Nat) : List Int := List.replicate k (-1) ++ List.replicate (26 - k) 0
theorem runs_167 : Runs Tryz.prog 167 [.one (.v (.list false 1 [[.int .i64 (-1)]])), .one (.v (.int .i64 26))] [.one (.v (.list true 1 ((List.replicate 26 (-1)).map nRow)))] [] := by
  refine runs_tab (tab := [(0, .c (.list false 1 [[.int .i64 (-1)]])), (1, .c (.int .i64 26))]) (rts := []) (n := 48) (k := 2) Tryz.func167 rfl rfl (by simp) rfl (fun t => ?_) rfl ?_
  · rcases t with _ | _ | t <;> rfl
  have u1 : IntKind.wrap .u64 1 = 1 := rfl
  have u26 : IntKind.wrap .u64 26 = 26 := rfl
  have i26 : IntKind.wrap .i64 26 = 26 := rfl
  (refine vw_go rfl ?_; simp only [go_sem, setCells, setIn])
  refine vw_seq ?_
  (refine vw_go rfl ?_; simp only [go_sem, setCells, setIn])
  (refine vw_cond (t := false) rfl (fun h => nomatch h) (fun _ => ?_))
  refine vw_skip (n_then ?_)
  (refine vw_go rfl ?_; simp only [u1, u26, go_sem, setCells, setIn])
  (refine ⟨_, _, call_rd [0, 0] Tryz.func202 (runs_202) rfl rfl rfl rfl rfl rfl rfl rfl rfl rfl rfl rfl rfl, ?_⟩)
  simp only [runH, runX, go_sem, setCells, setIn]
  refine vw_seq ?_
  (refine vw_go rfl ?_; simp only [go_sem, setCells, setIn])
  (refine vw_cond (t := false) rfl (fun h => nomatch h) (fun _ => ?_))
  refine vw_skip (n_then ?_)
  have B : (26 : Int) * ((8:Nat) + 1) ≤ (bigRow : Nat) := by simp only [bigRow]; omega
  (refine vw_go rfl ?_; simp only [i26, B, go_sem, setCells, setIn])
  have p1 : putRows 0 [[T.int .i64 (-1)]] (List.replicate 26 [T.int .i64 0]) = (repR 1).map nRow := by rfl
  have m1 : min 1 26 = 1 := rfl
  (refine vw_go rfl ?_; simp only [p1, m1, List.length_replicate, go_sem, setCells, setIn])
  refine vw_seq ?_
  refine vw_block ?_
  refine vw_loop_tab (α := Nat) (fun x => 26 - x) (fun x => ⟨tabE [(7, .al 2 [] 0 1 0 26), (8, .c (.int .i64 x))], tabS [(2, some ⟨false, 1, (repR x).map nRow, []⟩)], 3⟩)
    (fun x => x = 1 ∨ x = 2 ∨ x = 4 ∨ x = 8 ∨ x = 16 ∨ x = 26) (x := 1) ?round ?h0 ?hn
  case h0 => exact .inl rfl
  case hn => (refine norm_to [(264194, 2)] rfl ?_ ?_ <;> simp only [go_sem])
  rintro k hk
  refine vw_seq ?_
  by_cases hc : (k : Int) < ((26 : Nat) : Int)
  · (refine vw_go rfl ?_; simp only [hc, go_sem, setCells, setIn])
    (refine vw_cond (t := true) rfl (fun _ => ?_) (fun h => nomatch h))
    refine vw_skip (n_then ?_)
    refine vw_block ?_
    have c1 : (0:Int) ≤ (k : Int) := by omega
    have c2 : k ≤ 26 ∧ 26 ≤ 26 := by omega
    have c3 : 0 ≤ k ∧ k ≤ 26 := by omega
    have c4 : k ≤ 26 := by omega
    have l1 : (repR k).length = 26 := by rw [repR, List.length_append, List.length_replicate, List.length_replicate]; omega
    have hk' : k = 1 ∨ k = 2 ∨ k = 4 ∨ k = 8 ∨ k = 16 := by omega
    have f1 : k + (26 - k) ≤ 26 := by omega
    have f2 : ((List.take k (List.map nRow (repR k))).all fun r => r.all plainT) = true := by
      rw [← List.map_take]; exact nRow_noOwn _
    have f3 : (List.take k (List.map nRow (repR k))).length = k := by rw [List.length_take, List.length_map, l1]; omega
    have f4 : putRows k (List.take (min k (26 - k)) (List.take k (List.map nRow (repR k)))) (List.map nRow (repR k)) = List.map nRow (repR (k + min k (26 - k))) := by
      rcases hk' with rfl | rfl | rfl | rfl | rfl <;> rfl
    have f5 : IntKind.wrap .i64 ((k : Int) + ((min k (26 - k) : Nat) : Int)) = ((k + min k (26 - k) : Nat) : Int) := by rw [wrap_i64 (by omega) (by omega)]; omega
    have f6 : k + min k (26 - k) = 1 ∨ k + min k (26 - k) = 2 ∨ k + min k (26 - k) = 4 ∨ k + min k (26 - k) = 8 ∨ k + min k (26 - k) = 16 ∨ k + min k (26 - k) = 26 := by omega
    have f7 : k < k + min k (26 - k) := by omega
    refine vw_draw_last mixed rfl rfl ?_
    simp only [c1, c2, c3, c4, l1, f1, f2, f3, f4, f5, Int.toNat_natCast, List.length_map, Nat.sub_zero, go_sem, setCells, setIn]
    refine ⟨by unfold allOk; kernel_rfl, ?_⟩
    refine (n_block (n_then ?_))
    refine ⟨k + min k (26 - k), by omega, f6, ?_⟩
    (refine norm_to [(2, 2)] rfl ?_ ?_ <;> simp only [go_sem])
  · obtain rfl : k = 26 := by omega
    (refine vw_go rfl ?_; simp only [Int.lt_irrefl, go_sem, setCells, setIn])
    (refine vw_cond (t := false) rfl (fun h => nomatch h) (fun _ => ?_))
    refine vw_exit (x_then (x_then (x_block (n_then ?_))))
    (refine vw_go rfl ?_; simp only [go_sem, setCells, setIn])
    have l2 : (repR 26) = List.replicate 26 (-1) := rfl
    rw [l2]
    have qt : ((List.replicate 26 (-1)).map nRow).take 26 = (List.replicate 26 (-1)).map nRow := by rw [List.take_of_length_le (by simp)]
    exact vw_ret (e_ret (ret_by rfl rfl (by simp [RB]) rfl (by simp only [takeCs, takeC, go_sem, qt, List.length_replicate, setCells, setIn])))
end Go.Proofs.YtppbonbghmdhhaaGreat
