/- Names: NameOk of both. -/
import Derived.Test.YtppbonbghmdhhaaGreatPFIn
namespace Go.Proofs.YtppbonbghmdhhaaGreat
open Go.VM
set_option maxRecDepth 100000
set_option linter.unusedSimpArgs false
set_option linter.unusedVariables false
attribute [local congr] vw_congr runV_congr runH_congr runW_congr runX_congr

theorem bs_len (s : ByteArray) : s.data.toList.length = s.size := Array.length_toList
def lowB (b : UInt8) : Bool := decide (97 ≤ (b.toNat : Int)) && decide ((b.toNat : Int) ≤ 122)
def nameOk (s : ByteArray) : Bool := s.data.toList.all lowB && inB s.size 1 6
theorem getD_of {α : Type} {l : List α} {i : Nat} {x d : α} (h : l[i]? = some x) : l.getD i d = x := by
  rw [List.getD_eq_getElem?_getD, h]; rfl
theorem all_bad {s : ByteArray} {i : Nat} {b : UInt8} (h : s.data.toList[i]? = some b) (hb : lowB b = false) : nameOk s = false := by
  have : s.data.toList.all lowB = false := by
    rw [List.all_eq_false]
    exact ⟨b, List.mem_of_getElem? h, by simp [hb]⟩
  simp [nameOk, this]

theorem runs_247 (s : ByteArray) (hs : s.size < 2 ^ 62) : Runs Tryz.prog 247 [.one (.v (.str s))] [.one (.v (.bool (nameOk s)))] [] := by
  refine runs_tab (tab := [(0, .c (.str s))]) (rts := []) (n := 23) (k := 1) Tryz.func247 rfl rfl (by simp) rfl (fun t => ?_) rfl ?_
  · rcases t with _ | t <;> rfl
  (refine vw_go rfl ?_; simp only [go_sem, setCells, setIn])
  refine vw_seq ?_
  (refine vw_go rfl ?_; simp only [go_sem, setCells, setIn])
  refine vw_block ?_
  refine vw_loop_tab (α := Nat) (fun x => s.size - x) (fun x => ⟨tabE [(0, .c (.str s)), (3, .c (.int .i64 x))], tabS [], 1⟩)
    (fun x => x ≤ s.size ∧ (s.data.toList.drop x).all lowB = s.data.toList.all lowB) (x := 0) ?round ?h0 ?hn
  case h0 => exact ⟨Nat.zero_le _, rfl⟩
  case hn => (refine norm_to [] rfl ?_ ?_ <;> simp only [go_sem])
  rintro i ⟨hi, hm⟩
  refine vw_seq ?_
  (refine vw_go rfl ?_; simp only [go_sem, setCells, setIn])
  refine vw_cond (t := decide ((i : Int) < s.size)) rfl (fun h => ?_) (fun h => ?_)
  · refine vw_skip (n_then ?_)
    rcases get_or s.data.toList i with ⟨b, hx, hlt⟩ | ⟨_, hge⟩
    case inr => simp only [decide_eq_true_eq] at h; rw [bs_len] at hge; omega
    rw [bs_len] at hlt
    have c1 : (0:Int) ≤ (i:Int) := by omega
    have c2 : (i:Int) < (s.size : Int) := by omega
    have g := getD_of (d := 0) hx
    rw [drop_of hx, List.all_cons] at hm
    refine vw_seq ?_
    refine vw_block ?_
    by_cases a1 : ((b.toNat : Int) < 97)
    · (refine vw_go rfl ?_; simp only [c1, c2, Int.toNat_natCast, g, a1, go_sem, setCells, setIn])
      refine vw_cond (t := true) rfl (fun h => ?_) (fun h => ?_)
      case refine_2 => cases h
      (refine vw_go rfl ?_; simp only [go_sem, setCells, setIn])
      rw [all_bad hx (by simp [lowB]; omega)]
      exact vw_ret (r_block (r_then (r_then (r_block (r_then (e_ret (ret_of rfl rfl (by simp [RB]) rfl rfl)))))))
    · (refine vw_go rfl ?_; simp only [c1, c2, Int.toNat_natCast, g, a1, go_sem, setCells, setIn])
      refine vw_cond (t := decide (122 < (b.toNat : Int))) rfl (fun h => ?_) (fun h => ?_)
      · (refine vw_go rfl ?_; simp only [go_sem, setCells, setIn])
        simp only [decide_eq_true_eq] at h
        rw [all_bad hx (by simp [lowB]; omega)]
        exact vw_ret (r_block (r_then (r_then (r_block (r_then (e_ret (ret_of rfl rfl (by simp [RB]) rfl rfl)))))))
      · refine vw_skip (n_block (n_then ?_))
        have w2 : IntKind.wrap .i64 ((i:Int) + 1) = ((i + 1 : Nat) : Int) := by rw [wrap_i64 (by omega) (by omega)]; rfl
        (refine vw_last rfl ?_; simp only [w2, go_sem, setCells, setIn])
        refine (n_then ?_)
        simp only [decide_eq_false_iff_not] at h
        rw [show lowB b = true from by simp [lowB]; omega, Bool.true_and] at hm
        refine ⟨i + 1, by omega, ⟨by omega, hm⟩, ?_⟩
        (refine norm_to [] rfl ?_ ?_ <;> simp only [go_sem])
  · refine vw_exit (x_then (x_then (x_block (n_then ?_))))
    simp only [decide_eq_false_iff_not] at h
    have : i = s.size := by omega
    subst this
    rw [← bs_len, List.drop_length, List.all_nil] at hm
    (refine vw_go rfl ?_; simp only [go_sem, setCells, setIn])
    (refine ⟨_, _, call_rd [0, 0, 0] Tryz.func38 (runs_38 (s.size : Int) 1 6) rfl rfl rfl rfl rfl rfl rfl rfl rfl rfl rfl rfl rfl, ?_⟩)
    simp only [runH, runX, go_sem, setCells, setIn]
    rw [show nameOk s = inB s.size 1 6 from by simp [nameOk, ← hm]]
    exact vw_ret (e_ret (ret_of rfl rfl (by simp [RB]) rfl rfl))

theorem runs_232 (s : ByteArray) (hs : s.size < 2 ^ 62) : Runs Tryz.prog 232 [.one (.v (.str s))] [.one (.v (.bool (nameOk s)))] [] := by
  refine runs_tab (tab := [(0, .c (.str s))]) (rts := []) (n := 23) (k := 1) Tryz.func232 rfl rfl (by simp) rfl (fun t => ?_) rfl ?_
  · rcases t with _ | t <;> rfl
  (refine vw_go rfl ?_; simp only [go_sem, setCells, setIn])
  refine vw_seq ?_
  (refine vw_go rfl ?_; simp only [go_sem, setCells, setIn])
  refine vw_block ?_
  refine vw_loop_tab (α := Nat) (fun x => s.size - x) (fun x => ⟨tabE [(0, .c (.str s)), (5, .c (.int .i64 s.size)), (6, .c (.int .i64 x))], tabS [], 1⟩)
    (fun x => x ≤ s.size ∧ (s.data.toList.drop x).all lowB = s.data.toList.all lowB) (x := 0) ?round ?h0 ?hn
  case h0 => exact ⟨Nat.zero_le _, rfl⟩
  case hn => (refine norm_to [] rfl ?_ ?_ <;> simp only [go_sem])
  rintro i ⟨hi, hm⟩
  (refine vw_go rfl ?_; simp only [go_sem, setCells, setIn])
  refine vw_seq ?_
  refine vw_cond (t := decide ((i : Int) < s.size)) rfl (fun h => ?_) (fun h => ?_)
  · refine vw_skip (n_then ?_)
    rcases get_or s.data.toList i with ⟨b, hx, hlt⟩ | ⟨_, hge⟩
    case inr => simp only [decide_eq_true_eq] at h; rw [bs_len] at hge; omega
    rw [bs_len] at hlt
    have c1 : (0:Int) ≤ (i:Int) := by omega
    have c2 : (i:Int) < (s.size : Int) := by omega
    have g := getD_of (d := 0) hx
    rw [drop_of hx, List.all_cons] at hm
    refine vw_seq ?_
    refine vw_block ?_
    (refine vw_go rfl ?_; simp only [go_sem, setCells, setIn])
    by_cases a1 : ((b.toNat : Int) < 97)
    · (refine vw_go rfl ?_; simp only [c1, c2, Int.toNat_natCast, g, a1, go_sem, setCells, setIn])
      refine vw_cond (t := true) rfl (fun h => ?_) (fun h => ?_)
      case refine_2 => cases h
      (refine vw_go rfl ?_; simp only [go_sem, setCells, setIn])
      rw [all_bad hx (by simp [lowB]; omega)]
      exact vw_ret (r_block (r_then (r_then (r_block (r_then (e_ret (ret_of rfl rfl (by simp [RB]) rfl rfl)))))))
    · (refine vw_go rfl ?_; simp only [c1, c2, Int.toNat_natCast, g, a1, go_sem, setCells, setIn])
      refine vw_cond (t := decide (122 < (b.toNat : Int))) rfl (fun h => ?_) (fun h => ?_)
      · (refine vw_go rfl ?_; simp only [go_sem, setCells, setIn])
        simp only [decide_eq_true_eq] at h
        rw [all_bad hx (by simp [lowB]; omega)]
        exact vw_ret (r_block (r_then (r_then (r_block (r_then (e_ret (ret_of rfl rfl (by simp [RB]) rfl rfl)))))))
      · refine vw_skip (n_block (n_then ?_))
        have w2 : IntKind.wrap .i64 ((i:Int) + 1) = ((i + 1 : Nat) : Int) := by rw [wrap_i64 (by omega) (by omega)]; rfl
        (refine vw_last rfl ?_; simp only [w2, go_sem, setCells, setIn])
        refine (n_then ?_)
        simp only [decide_eq_false_iff_not] at h
        rw [show lowB b = true from by simp [lowB]; omega, Bool.true_and] at hm
        refine ⟨i + 1, by omega, ⟨by omega, hm⟩, ?_⟩
        (refine norm_to [] rfl ?_ ?_ <;> simp only [go_sem])
  · refine vw_exit (x_then (x_then (x_block (n_then ?_))))
    simp only [decide_eq_false_iff_not] at h
    have : i = s.size := by omega
    subst this
    rw [← bs_len, List.drop_length, List.all_nil] at hm
    (refine vw_go rfl ?_; simp only [go_sem, setCells, setIn])
    (refine ⟨_, _, call_rd [0, 0, 0] Tryz.func45 (runs_45 (s.size : Int) 1 6) rfl rfl rfl rfl rfl rfl rfl rfl rfl rfl rfl rfl rfl, ?_⟩)
    simp only [runH, runX, go_sem, setCells, setIn]
    rw [show nameOk s = inB s.size 1 6 from by simp [nameOk, ← hm]]
    exact vw_ret (e_ret (ret_of rfl rfl (by simp [RB]) rfl rfl))
end Go.Proofs.YtppbonbghmdhhaaGreat
