/- Slices of parts: size, copy, comparing. Printed by a program (sfun.py). -/
import Derived.Test.YtppbonbghmdhhaaPFPart
namespace Go.Proofs.Ytppbonbghmdhhaa
open Go.VM
set_option maxRecDepth 100000
set_option linter.unusedSimpArgs false
set_option linter.unusedVariables false
attribute [local congr] vw_congr runV_congr runH_congr runW_congr runX_congr

def partRow (x : PartV) : List T := [.list false 6 (x.code.map insRow), .int .i64 x.at_, .list false 2 (x.seen.map tellRow), .bool x.over]
def partRowO (x : PartV) : List T := [.list true 6 (x.code.map insRow), .int .i64 x.at_, .list true 2 (x.seen.map tellRow), .bool x.over]
def zPart : List T := [.list true 6 [], .int .i64 0, .list true 2 [], .bool false]
theorem szPart_le (x : PartV) (left : Int) (h : 0 ≤ left) : szPart x left ≤ left := by
  unfold szPart
  have l1 := szSIns_le x.code left h
  split
  · omega
  · rename_i g0
    have l2 := szSTell_le x.seen (szSIns x.code left) (by omega)
    split <;> omega

def szLPart : List PartV → Int → Int
  | [], left => left
  | x :: l, left => if szPart x left < 0 then -1 else szLPart l (szPart x left)
def szSPart (l : List PartV) (left : Int) : Int := if left - l.length < 0 then -1 else szLPart l (left - l.length)
theorem szLPart_le : ∀ (l : List PartV) (left : Int), 0 ≤ left → szLPart l left ≤ left
  | [], left, h => Int.le_refl _
  | x :: l, left, h => by
    have h1 := szPart_le x left h
    simp only [szLPart]
    split
    · omega
    · have := szLPart_le l (szPart x left) (by omega)
      omega
theorem szSPart_le (l : List PartV) (left : Int) (h : 0 ≤ left) : szSPart l left ≤ left := by
  unfold szSPart
  split
  · omega
  · have := szLPart_le l (left - l.length) (by omega)
    omega
theorem szSPart_len {l : List PartV} {left : Int} (h : ¬ szSPart l left < 0) : (l.length : Int) ≤ left := by
  unfold szSPart at h
  split at h
  · exact absurd (by decide) h
  · omega
theorem runs_87 (l : List PartV) (left : Int) (hb : ∀ x ∈ l, x.ok) (hl : l.length < 2 ^ 63) (h0 : 0 ≤ left) (h1 : left < 2 ^ 63) :
    Runs Try.prog 87 [.one (.v (.list false 4 (l.map partRow))), .one (.v (.int .i64 left))] [.one (.v (.int .i64 (szSPart l left)))] [] := by
  refine runs_tab (tab := [(0, .c (.list false 4 (l.map partRow))), (1, .c (.int .i64 left))]) (rts := []) (n := 27) (k := 2) Try.func87 rfl rfl (by simp) rfl (fun t => ?_) rfl ?_
  · rcases t with _ | _ | t <;> rfl
  have w1 : IntKind.wrap .i64 (left - l.length) = left - l.length := wrap_i64 (by omega) (by omega)
  (refine vw_go rfl ?_; simp only [go_sem, setCells, setIn])
  (refine vw_go rfl ?_; simp only [w1, go_sem, setCells, setIn])
  refine vw_seq ?_
  (refine vw_go rfl ?_; simp only [go_sem, setCells, setIn])
  refine vw_cond (t := decide (left - l.length < 0)) rfl (fun h => ?_) (fun h => ?_)
  · (refine vw_go rfl ?_; simp only [go_sem, setCells, setIn])
    simp only [decide_eq_true_eq] at h
    rw [show szSPart l left = -1 from by simp [szSPart, h]]
    exact vw_ret (r_then (e_ret (ret_of rfl rfl (by simp [RB]) rfl rfl)))
  · refine vw_skip (n_then ?_)
    simp only [decide_eq_false_iff_not] at h
    have hA := h
    refine vw_seq ?_
    (refine vw_go rfl ?_; simp only [go_sem, setCells, setIn])
    refine vw_block ?_
    refine vw_loop_tab (α := Nat × Int) (fun x => l.length - x.1) (fun x => ⟨tabE [(0, .c (.list false 4 (l.map partRow))), (1, .c (.int .i64 x.2)), (5, .c (.int .i64 x.1))], tabS [], 2⟩)
      (fun x => x.1 ≤ l.length ∧ 0 ≤ x.2 ∧ x.2 < 2 ^ 63 ∧ szLPart (l.drop x.1) x.2 = szLPart l (left - l.length)) (x := (0, left - l.length)) ?round ?h0 ?hn
    case h0 => exact ⟨Nat.zero_le _, by simp only; omega, by simp only; omega, rfl⟩
    case hn => (refine norm_to [] rfl ?_ ?_ <;> simp only [go_sem])
    rintro ⟨i, m⟩ ⟨hi, hm0, hm1, hm⟩
    simp only at hi hm0 hm1 hm
    refine vw_seq ?_
    (refine vw_go rfl ?_; simp only [go_sem, setCells, setIn])
    refine vw_cond (t := decide ((i : Int) < l.length)) rfl (fun h => ?_) (fun h => ?_)
    · refine vw_skip (n_then ?_)
      rcases get_or l i with ⟨x, hx, hlt⟩ | ⟨_, hge⟩
      case inr => simp only [decide_eq_true_eq] at h; omega
      have hxb := hb x (List.mem_of_getElem? hx)
      refine vw_seq ?_
      refine vw_block ?_
      have c1 : (0:Int) ≤ (i:Int) := by omega
      have c2 : (i:Int) < (l.length : Int) := by omega
      (refine vw_go rfl ?_; simp only [c1, c2, Int.toNat_natCast, getD_map_of hx, partRow, go_sem, setCells, setIn])
      (refine ⟨_, _, call_rx [0, 0] Try.func134 (runs_134 x m hxb hm0 hm1) rfl rfl rfl rfl rfl rfl rfl (by simp [lendAll, lendC, seek, fresh, nav, rcells, RT.cells, VV.cells, tabE_cons, tabS_cons, ev, take_map_len, insRow_r1, insRow_clean, tellRow_r1, tellRow_clean]) rfl (by simp [rcells, RT.cells, CT.clean, T.clean, insRow_r1, insRow_clean, tellRow_r1, tellRow_clean]) rfl rfl, ?_⟩)
      simp only [runH, runX, go_sem, setCells, setIn]
      (refine vw_go rfl ?_; simp only [go_sem, setCells, setIn])
      refine vw_cond (t := decide (szPart x m < 0)) rfl (fun h => ?_) (fun h => ?_)
      · (refine vw_go rfl ?_; simp only [go_sem, setCells, setIn])
        rw [drop_of hx] at hm
        simp only [decide_eq_true_eq] at h
        simp only [szLPart, h, if_true] at hm
        rw [show szSPart l left = -1 from by simp [szSPart, hA, ← hm]]
        exact vw_ret (r_block (r_then (r_then (r_block (r_then (e_ret (ret_of rfl rfl (by simp [RB]) rfl rfl)))))))
      · refine vw_skip (n_block (n_then ?_))
        have w2 : IntKind.wrap .i64 ((i:Int) + 1) = ((i + 1 : Nat) : Int) := by rw [wrap_i64 (by omega) (by omega)]; rfl
        (refine vw_last rfl ?_; simp only [w2, go_sem, setCells, setIn])
        refine (n_then ?_)
        simp only [decide_eq_false_iff_not] at h
        rw [drop_of hx] at hm
        simp only [szLPart, h, if_false] at hm
        have := szPart_le x m hm0
        refine ⟨(i + 1, szPart x m), by simp only; omega, ⟨by simp only; omega, by simp only; omega, by simp only; omega, hm⟩, ?_⟩
        (refine norm_to [] rfl ?_ ?_ <;> simp only [go_sem])
    · refine vw_exit (x_then (x_then (x_block (n_then ?_))))
      (refine vw_go rfl ?_; simp only [go_sem, setCells, setIn])
      simp only [decide_eq_false_iff_not] at h
      have : i = l.length := by omega
      subst this
      simp only [List.drop_length, szLPart] at hm
      rw [show szSPart l left = m from by simp [szSPart, hA, ← hm]]
      exact vw_ret (e_ret (ret_of rfl rfl (by simp [RB]) rfl rfl))

theorem runs_90 (l : List PartV) (hl : l.length ≤ 2 ^ 20) (hx2 : ∀ x ∈ l, x.code.length ≤ 2 ^ 20 ∧ x.seen.length ≤ 2 ^ 20) :
    Runs Try.prog 90 [.one (.v (.list false 4 (l.map partRow)))] [.one (.v (.list true 4 (l.map partRowO)))] [] := by
  refine runs_tab (tab := [(0, .c (.list false 4 (l.map partRow)))]) (rts := []) (n := 23) (k := 1) Try.func90 rfl rfl (by simp) rfl (fun t => ?_) rfl ?_
  · rcases t with _ | t <;> rfl
  have b1 : (0:Int) ≤ (l.length : Int) := by omega
  have b2 : (l.length : Int) * (((64:Nat):Int) + 1) ≤ ((bigRow : Nat) : Int) := by simp only [bigRow]; omega
  have b3 : (l.length : Int) ≤ (l.length : Int) := by omega
  (refine vw_go rfl ?_; simp only [go_sem, setCells, setIn])
  (refine vw_go rfl ?_; simp only [b1, b2, b3, Int.toNat_natCast, go_sem, setCells, setIn])
  refine vw_seq ?_
  (refine vw_go rfl ?_; simp only [go_sem, setCells, setIn])
  refine vw_block ?_
  refine vw_loop_tab (α := Nat × List Path) (fun x => l.length - x.1) (fun x => ⟨tabE [(0, .c (.list false 4 (l.map partRow))), (3, .al 1 [] 0 4 0 l.length), (4, .c (.int .i64 x.1))], tabS [(1, some ⟨false, 4, fillW partRowO zPart l x.1, x.2⟩)], 2⟩)
    (fun x => x.1 ≤ l.length) (x := (0, [])) ?round ?h0 ?hn
  case h0 => exact Nat.zero_le _
  case hn =>
    (refine norm_to [(67585, 1)] rfl ?_ ?_ <;> simp only [go_sem])
    · simp [fillW_zero, zPart]
  rintro ⟨i, lg⟩ hi
  simp only at hi
  refine vw_seq ?_
  (refine vw_go rfl ?_; simp only [go_sem, setCells, setIn])
  refine vw_cond (t := decide ((i : Int) < l.length)) rfl (fun h => ?_) (fun h => ?_)
  · refine vw_skip (n_then ?_)
    rcases get_or l i with ⟨x, hx, hlt⟩ | ⟨_, hge⟩
    case inr => simp only [decide_eq_true_eq] at h; omega
    have c1 : (0:Int) ≤ (i:Int) := by omega
    have c2 : (i:Int) < (l.length : Int) := by omega
    have e1 : (fillW partRowO zPart l i).length = l.length := fillW_len hi
    have e2 : (fillW partRowO zPart l i).getD i [] = zPart := fillW_get hlt
    have e3 : setCells i 0 [.list true 6 (x.code.map insRow), .int .i64 x.at_, .list true 2 (x.seen.map tellRow), .bool x.over] (fillW partRowO zPart l i) = fillW partRowO zPart l (i + 1) := fillW_set hx rfl rfl
    have e4 : zPart.length = 4 := rfl
    have q0 : (x.code.map insRow).take x.code.length = x.code.map insRow := List.take_of_length_le (by simp)
    have q1 : (x.seen.map tellRow).take x.seen.length = x.seen.map tellRow := List.take_of_length_le (by simp)
    refine vw_seq ?_
    refine vw_block ?_
    (refine vw_last rfl ?_; simp only [c1, c2, Int.toNat_natCast, getD_map_of hx, partRow, go_sem])
    (refine ⟨_, _, call_rx [0] Try.func136 (runs_136 x (hx2 x (List.mem_of_getElem? hx)).1 (hx2 x (List.mem_of_getElem? hx)).2) rfl rfl rfl rfl rfl rfl rfl (by simp [lendAll, lendC, seek, fresh, nav, rcells, RT.cells, VV.cells, tabE_cons, tabS_cons, ev, take_map_len, insRow_r1, insRow_clean, tellRow_r1, tellRow_clean]) rfl (by simp [rcells, RT.cells, CT.clean, T.clean, insRow_r1, insRow_clean, tellRow_r1, tellRow_clean]) rfl rfl, ?_⟩)
    simp only [runH, runX, c1, c2, e1, e2, e3, e4, hlt, Int.toNat_natCast, q0, q1, List.drop_length, go_sem]
    refine (n_block (n_then ?_))
    have w2 : IntKind.wrap .i64 ((i:Int) + 1) = ((i + 1 : Nat) : Int) := by rw [wrap_i64 (by omega) (by omega)]; rfl
    (refine vw_last rfl ?_; simp only [w2, go_sem, setCells, setIn])
    refine (n_then ?_)
    refine ⟨(i + 1, lg ++ [[(i, 0)], [(i, 2)]]), by simp only; omega, hlt, ?_⟩
    (refine norm_to [(1, 1)] rfl ?_ ?_ <;> simp only [go_sem])
  · refine vw_exit (x_then (x_then (x_block (n_then ?_))))
    (refine vw_go rfl ?_; simp only [go_sem, setCells, setIn])
    simp only [decide_eq_false_iff_not] at h
    have : i = l.length := by omega
    subst this
    rw [← fillW_end partRowO zPart l]
    exact vw_ret (e_ret (ret_of rfl rfl (by simp [RB]) rfl (take_whole (R := ⟨false, 4, fillW partRowO zPart l l.length, lg⟩) rfl rfl rfl (fillW_len (Nat.le_refl _)))))

theorem runs_95 (a b : List PartV) (ha : a.length < 2 ^ 63) (hb : b.length < 2 ^ 63) (ha2 : ∀ x ∈ a, x.ok) (hb2 : ∀ x ∈ b, x.ok) :
    Runs Try.prog 95 [.one (.v (.list false 4 (a.map partRow))), .one (.v (.list false 4 (b.map partRow)))] [.one (.v (.bool (decide (a = b))))] [] := by
  refine runs_tab (tab := [(0, .c (.list false 4 (a.map partRow))), (1, .c (.list false 4 (b.map partRow)))]) (rts := []) (n := 27) (k := 2) Try.func95 rfl rfl (by simp) rfl (fun t => ?_) rfl ?_
  · rcases t with _ | _ | t <;> rfl
  (refine vw_go rfl ?_; simp only [go_sem, setCells, setIn])
  refine vw_seq ?_
  (refine vw_go rfl ?_; simp only [go_sem, setCells, setIn])
  refine vw_cond (t := !decide ((a.length : Int) = b.length)) rfl (fun h => ?_) (fun h => ?_)
  · (refine vw_go rfl ?_; simp only [go_sem, setCells, setIn])
    have h' : ¬ a = b := by
      intro e; subst e; simp at h
    rw [decide_eq_false h']
    exact vw_ret (r_then (e_ret (ret_of rfl rfl (by simp [RB]) rfl rfl)))
  · have hab : a.length = b.length := by
      have : (a.length : Int) = b.length := by simpa using h
      omega
    refine vw_skip (n_then ?_)
    refine vw_seq ?_
    (refine vw_go rfl ?_; simp only [go_sem, setCells, setIn])
    refine vw_block ?_
    refine vw_loop_tab (α := Nat) (fun x => a.length - x) (fun x => ⟨tabE [(0, .c (.list false 4 (a.map partRow))), (1, .c (.list false 4 (b.map partRow))), (5, .c (.int .i64 x))], tabS [], 2⟩)
      (fun x => x ≤ a.length ∧ a.take x = b.take x) (x := 0) ?round ?h0 ?hn
    case h0 => exact ⟨Nat.zero_le _, by simp⟩
    case hn => (refine norm_to [] rfl ?_ ?_ <;> simp only [go_sem])
    rintro i ⟨hi, htk⟩
    refine vw_seq ?_
    (refine vw_go rfl ?_; simp only [go_sem, setCells, setIn])
    refine vw_cond (t := decide ((i : Int) < a.length)) rfl (fun h => ?_) (fun h => ?_)
    · refine vw_skip (n_then ?_)
      rcases get_or a i with ⟨x, hx, hlt⟩ | ⟨_, hge⟩
      case inr => simp only [decide_eq_true_eq] at h; omega
      rcases get_or b i with ⟨y, hy, hlt'⟩ | ⟨_, hge⟩
      case inr => omega
      have c1 : (0:Int) ≤ (i:Int) := by omega
      have c2 : (i:Int) < (a.length : Int) := by omega
      have c3 : (i:Int) < (b.length : Int) := by omega
      refine vw_seq ?_
      refine vw_block ?_
      (refine vw_draw mixed rfl rfl ?_; simp only [c1, c2, c3, Int.toNat_natCast, getD_map_of hx, getD_map_of hy, partRow, go_sem, setCells, setIn])
      (refine ⟨_, _, _, call_rx_at [0, 0] [] Try.func138 (runs_138 x y (ha2 x (List.mem_of_getElem? hx)) (hb2 y (List.mem_of_getElem? hy))) rfl rfl rfl rfl rfl rfl rfl (fun st1 hst1 => by (try simp only [List.mem_cons, List.not_mem_nil, or_false, false_or, forall_eq_or_imp, forall_eq] at hst1); simp [lendAll, lendC, seek, fresh, nav, rcells, RT.cells, VV.cells, tabE_cons, tabS_cons, ev, take_map_len, hst1, insRow_r1, insRow_clean, tellRow_r1, tellRow_clean]) rfl (by simp [rcells, RT.cells, CT.clean, T.clean, insRow_r1, insRow_clean, tellRow_r1, tellRow_clean]) rfl rfl, ?_⟩)
      simp only [runH, runX, go_sem, setCells, setIn]
      refine ⟨by unfold allOk; kernel_rfl, ?_⟩
      refine vw_cond (t := !decide (x = y)) rfl (fun h => ?_) (fun h => ?_)
      · (refine vw_go rfl ?_; simp only [go_sem, setCells, setIn])
        have h' : ¬ a = b := by
          intro e; subst e
          rw [hx] at hy
          simp only [Option.some.injEq] at hy
          subst hy
          simp at h
        rw [decide_eq_false h']
        exact vw_ret (r_block (r_then (r_then (r_block (r_then (e_ret (ret_of rfl rfl (by simp [RB]) rfl rfl)))))))
      · refine vw_skip (n_block (n_then ?_))
        have w2 : IntKind.wrap .i64 ((i:Int) + 1) = ((i + 1 : Nat) : Int) := by rw [wrap_i64 (by omega) (by omega)]; rfl
        (refine vw_last rfl ?_; simp only [w2, go_sem, setCells, setIn])
        refine (n_then ?_)
        have hxy : x = y := by simpa using h
        refine ⟨i + 1, by omega, ⟨hlt, ?_⟩, ?_⟩
        · rw [List.take_add_one, List.take_add_one, hx, hy, htk, hxy]
        · (refine norm_to [] rfl ?_ ?_ <;> simp only [go_sem])
    · refine vw_exit (x_then (x_then (x_block (n_then ?_))))
      (refine vw_go rfl ?_; simp only [go_sem, setCells, setIn])
      simp only [decide_eq_false_iff_not] at h
      have h' : a = b := by
        have e1 : i = a.length := by omega
        rw [e1, List.take_length, hab, List.take_length] at htk
        exact htk
      rw [decide_eq_true h']
      exact vw_ret (e_ret (ret_of rfl rfl (by simp [RB]) rfl rfl))

end Go.Proofs.Ytppbonbghmdhhaa
