/- The specification's CodeOk, and the law of CodeOk. -/
import Derived.Test.YtppbonbghmdhhaaGreatPFCode
namespace Go.Proofs.YtppbonbghmdhhaaGreat
open Go.VM
set_option maxRecDepth 100000
set_option linter.unusedSimpArgs false
set_option linter.unusedVariables false
attribute [local congr] vw_congr runV_congr runH_congr runW_congr runX_congr

theorem runs_94 (l : List InsV) (hl : l.length < 2 ^ 63) :
    Runs Tryz.prog 94 [.one (.v (.list false 6 (l.map insRow)))] [.one (.v (.bool (inB l.length 1 20 && !l.any (fun x => badS x l.length))))] [] := by
  refine runs_tab (tab := [(0, .c (.list false 6 (l.map insRow)))]) (rts := []) (n := 62) (k := 1) Tryz.func94 rfl rfl (by simp) rfl (fun t => ?_) rfl ?_
  · rcases t with _ | t <;> rfl
  (refine vw_go rfl ?_; simp only [go_sem, setCells, setIn])
  refine vw_seq ?_
  (refine vw_go rfl ?_; simp only [go_sem, setCells, setIn])
  refine vw_block ?_
  refine vw_loop_tab (α := Nat) (fun x => l.length - x) (fun x => ⟨tabE [(0, .c (.list false 6 (l.map insRow))), (3, .c (.int .i64 x))], tabS [], 1⟩)
    (fun x => x ≤ l.length ∧ (l.take x).any (fun x => badS x l.length) = false) (x := 0) ?round ?h0 ?hn
  case h0 => exact ⟨Nat.zero_le _, rfl⟩
  case hn => (refine norm_to [] rfl ?_ ?_ <;> simp only [go_sem])
  rintro i ⟨hi, hm⟩
  refine vw_seq ?_
  (refine vw_go rfl ?_; simp only [go_sem, setCells, setIn])
  refine vw_cond (t := decide ((i : Int) < l.length)) rfl (fun h => ?_) (fun h => ?_)
  · refine vw_skip (n_then ?_)
    rcases get_or l i with ⟨x, hx, hlt⟩ | ⟨_, hge⟩
    case inr => simp only [decide_eq_true_eq] at h; omega
    have c1 : (0:Int) ≤ (i:Int) := by omega
    have c2 : (i:Int) < (l.length : Int) := by omega
    have w2 : IntKind.wrap .i64 ((i:Int) + 1) = ((i + 1 : Nat) : Int) := by rw [wrap_i64 (by omega) (by omega)]; rfl
    have w3 : IntKind.wrap .i64 ((l.length:Int) - 1) = (l.length:Int) - 1 := wrap_i64 (by omega) (by omega)
    have bad : badS x l.length = true → (inB l.length 1 20 && !l.any (fun x => badS x l.length)) = false := by
      intro hb
      have : l.any (fun x => badS x l.length) = true := List.any_eq_true.2 ⟨x, List.mem_of_getElem? hx, hb⟩
      rw [this]; simp
    have good : badS x l.length = false → (l.take (i + 1)).any (fun x => badS x l.length) = false := by
      intro hb
      rw [List.take_add_one, hx, List.any_append, hm]
      simp [hb]
    refine vw_seq ?_
    refine vw_block ?_
    (refine vw_go rfl ?_; simp only [c1, c2, Int.toNat_natCast, getD_map_of hx, insRow, go_sem, setCells, setIn])
    obtain ⟨z, hz⟩ : ∃ z, opZ x.op = z := ⟨_, rfl⟩
    have hz' := hz
    simp only [opZ] at hz'
    have fin : ∀ {b : Bool} {env : Nat → VV} {st : St}, badS x l.length = b → True := fun _ => trivial
    cases k3 : decide (x.kind = 3) <;> cases k4 : decide (x.kind = 4)
    · (refine vw_go rfl ?_; simp only [k3, k4, go_sem, setCells, setIn])
      cases k1 : decide (x.kind = 1) <;> cases z
      all_goals
        (refine vw_go rfl ?_; simp only [k1, hz', go_sem, setCells, setIn])
        (refine vw_go rfl ?_; simp only [go_sem, setCells, setIn])
        (refine ⟨_, _, call_rd [0, 0, 0] Tryz.func38 (runs_38 x.kind 1 5) rfl rfl rfl rfl rfl rfl rfl rfl rfl rfl rfl rfl rfl, ?_⟩)
        cases hk : inB x.kind 1 5
      all_goals
        simp only [runH, runX, hk, hz', go_sem, setCells, setIn]
        refine vw_cond (t := _) rfl (fun h => ?_) (fun h => ?_)
        · first
          | exact absurd h (by decide)
          | (rw [bad (by simp only [badS, k1, k3, k4, hk, hz, Bool.or_true, Bool.true_or, Bool.false_or, Bool.or_false, Bool.and_true, Bool.true_and, Bool.and_false, Bool.false_and, Bool.not_true, Bool.not_false] <;> exact h)]
             (refine vw_go rfl ?_; simp only [go_sem, setCells, setIn])
             exact vw_ret (r_block (r_then (r_then (r_block (r_then (e_ret (ret_of rfl rfl (by simp [RB]) rfl rfl))))))))
        · first
          | exact absurd h (by decide)
          | (refine vw_skip (n_block (n_then ?_))
             (refine vw_last rfl ?_; simp only [w2, go_sem, setCells, setIn])
             refine (n_then ?_)
             refine ⟨i + 1, by omega, ⟨hlt, good (by simp only [badS, k1, k3, k4, hk, hz, Bool.or_true, Bool.true_or, Bool.false_or, Bool.or_false, Bool.and_true, Bool.true_and, Bool.and_false, Bool.false_and, Bool.not_true, Bool.not_false] <;> exact h)⟩, ?_⟩
             (refine norm_to [] rfl ?_ ?_ <;> simp only [go_sem]))
    all_goals
      (refine vw_go rfl ?_; simp only [k3, k4, w3, go_sem, setCells, setIn])
      (refine ⟨_, _, call_rd [0, 0, 0] Tryz.func38 (runs_38 x.n 0 ((l.length:Int) - 1)) rfl rfl rfl rfl rfl rfl rfl rfl rfl rfl rfl rfl rfl, ?_⟩)
      simp only [runH, runX, go_sem, setCells, setIn]
      cases k1 : decide (x.kind = 1) <;> cases z
    all_goals
      (refine vw_go rfl ?_; simp only [k1, hz', go_sem, setCells, setIn])
      (refine vw_go rfl ?_; simp only [go_sem, setCells, setIn])
      (refine ⟨_, _, call_rd [0, 0, 0] Tryz.func38 (runs_38 x.kind 1 5) rfl rfl rfl rfl rfl rfl rfl rfl rfl rfl rfl rfl rfl, ?_⟩)
      cases hk : inB x.kind 1 5 <;> cases hp : inB x.n 0 ((l.length:Int) - 1)
    all_goals
      simp only [runH, runX, hk, hz', hp, go_sem, setCells, setIn]
      refine vw_cond (t := _) rfl (fun h => ?_) (fun h => ?_)
      · first
        | exact absurd h (by decide)
        | (rw [bad (by simp only [badS, k1, k3, k4, hk, hz, hp, Bool.or_true, Bool.true_or, Bool.false_or, Bool.or_false, Bool.and_true, Bool.true_and, Bool.and_false, Bool.false_and, Bool.not_true, Bool.not_false] <;> exact h)]
           (refine vw_go rfl ?_; simp only [go_sem, setCells, setIn])
           exact vw_ret (r_block (r_then (r_then (r_block (r_then (e_ret (ret_of rfl rfl (by simp [RB]) rfl rfl))))))))
      · first
        | exact absurd h (by decide)
        | (refine vw_skip (n_block (n_then ?_))
           (refine vw_last rfl ?_; simp only [w2, go_sem, setCells, setIn])
           refine (n_then ?_)
           refine ⟨i + 1, by omega, ⟨hlt, good (by simp only [badS, k1, k3, k4, hk, hz, hp, Bool.or_true, Bool.true_or, Bool.false_or, Bool.or_false, Bool.and_true, Bool.true_and, Bool.and_false, Bool.false_and, Bool.not_true, Bool.not_false] <;> exact h)⟩, ?_⟩
           (refine norm_to [] rfl ?_ ?_ <;> simp only [go_sem]))
  · refine vw_exit (x_then (x_then (x_block (n_then ?_))))
    simp only [decide_eq_false_iff_not] at h
    have : i = l.length := by omega
    subst this
    rw [List.take_length] at hm
    rw [hm, Bool.not_false, Bool.and_true]
    (refine vw_go rfl ?_; simp only [go_sem, setCells, setIn])
    (refine ⟨_, _, call_rd [0, 0, 0] Tryz.func38 (runs_38 l.length 1 20) rfl rfl rfl rfl rfl rfl rfl rfl rfl rfl rfl rfl rfl, ?_⟩)
    simp only [runH, runX, go_sem, setCells, setIn]
    exact vw_ret (e_ret (ret_of rfl rfl (by simp [RB]) rfl rfl))

theorem codeOk_eq (l : List InsV) : (inB l.length 1 20 && !l.any (fun x => badS x l.length)) = (inB l.length 1 20 && !l.any (fun x => !insOk x l.length)) := by
  cases l with
  | nil => rfl
  | cons y l =>
    have : ∀ x, badS x ((y :: l).length : Nat) = !insOk x ((y :: l).length : Nat) := fun x => badS_iff x _ (by simp; omega)
    simp only [this]

theorem runs_94' (l : List InsV) (hl : l.length < 2 ^ 63) :
    Runs Tryz.prog 94 [.one (.v (.list false 6 (l.map insRow)))] [.one (.v (.bool (inB l.length 1 20 && !l.any (fun x => !insOk x l.length))))] [] := by
  rw [← codeOk_eq]; exact runs_94 l hl

end Go.Proofs.YtppbonbghmdhhaaGreat
