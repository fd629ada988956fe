/- The law FnExactPartStep returns true whatever its arguments, and they read as before. Conditions: none beyond the row's own. -/
import Derived.Test.YtimfbpnnjdpcbaaRows
import Derived.Test.YtimfbpnnjdpcbaaLStep
namespace Go.Proofs.Ytimfbpnnjdpcbaa.fnExactPartStep
open Go.ChangeShapes Go.WideShapes Go.ChangeAt Go.RowKit Go.VM
set_option linter.unusedVariables false
set_option linter.unusedSimpArgs false
theorem own : ownKnob Try.prog.godebug = none := by kernel_rfl
set_option maxRecDepth 100000 in
theorem lifted (os : Os) (started : os.Started) (H : Type) (enc : TypeId × Value → H) :
    ReturnsInHanded {} Try.checked os 3 .any (Rows.fnExactPartStepSpec.pre6 enc Try.prog Try.f3 Rows.fnExactPartStepRow.domain false) (Rows.fnExactPartStepSpec.post enc Try.prog Try.f3 false true false false) := by
  refine returnsInHanded_of_change_sized (C := Try.checked) own started (by kernel_rfl) Try.func3
    (ChangeSpec.witness6 (enc := enc) (C := Try.checked) false ⟨#[], #[.agg #[.slice none 0 0, .int .i64 0, .slice none 0 0, .bool false], .agg #[.slice none 0 0, .slice none 0 0]], []⟩ 8 (by kernel_rfl) (by kernel_rfl) (by kernel_rfl) (by kernel_rfl)) ?_
  intro W base args ds gs before hval0 hW hcnd hsz0 _
  have hval : ∀ (j : Nat) t v, Try.f3.params[j]? = some t → args[j]? = some v → Value.okWide Try.prog W .any base t v := hval0
  have hW' := hW
  obtain ⟨p, q, hA0, hV, rfl, hfz, hnd⟩ := hW
  have hA : DataW.TrodAll enc Try.prog W 0 (fun _ => true) true Try.f3.params.toList args.toList ds p := hA0
  rw [Try.params3] at hA hval
  have hA1 := hA
  obtain ⟨v0, vs0, d0, ds0, p0, q0, hargs, rfl, rfl, h0, r0⟩ := trodAll_cons hA
  obtain ⟨v1, vs1, d1, ds1, p1, q1, rfl, rfl, rfl, h1, r1⟩ := trodAll_cons r0
  obtain ⟨rfl, rfl, rfl⟩ := trodAll_nil r1
  obtain rfl : args = #[v0, v1] := by cases args; simp_all
  obtain ⟨rfl, rfl⟩ := trodVars_none hV
  obtain ⟨us0, rfl, hus0⟩ := okWide_struct Try.underlying25 (hval 0 25 v0 rfl rfl)
  obtain ⟨ts0, ty0, o0⟩ := open_one (n := 6) (by kernel_rfl) h0
  obtain ⟨us1, rfl, hus1⟩ := okWide_struct Try.underlying28 (hval 1 28 v1 rfl rfl)
  obtain ⟨ts1, ty1, o1⟩ := open_one (n := 6) (by kernel_rfl) h1
  obtain ⟨x, rfl, hx⟩ := typed_25 ty0
  obtain ⟨q, rfl, hq⟩ := typed_28 ty1
  refine (calls_of_ok (vals := [.agg us0, .agg us1]) (runs_3 x q hx hq) ⟨⟨_, rfl, rfl, o0⟩, ⟨⟨_, rfl, rfl, o1⟩, trivial⟩⟩).mono fun e W' ⟨he, bel⟩ => ?_
  subst he
  exact ⟨_, rfl, _, _, _, [], _, [], hW', trodAll_mk1 (shut_bool Try.underlying4 _), below_all (by kernel_rfl) bel (by kernel_rfl) hA1, rfl, bel.frame _, fun h => by cases h⟩
theorem over : Rows.fnExactPartStepRow.holds Try.pinned (OpenSpec.ofChange Rows.fnExactPartStepSpec) :=
  OpenClaim.holds_of_wide 3 Try.f3 rfl rfl rfl rfl rfl rfl rfl ⟨rfl, rfl, rfl, rfl, rfl⟩ rfl rfl rfl rfl rfl (by kernel_rfl) Try.func3 (by kernel_rfl)
    (of_decide_eq_true (by kernel_rfl)) (by unfold Func.isWrapper; first | (rw [if_pos (by decide +kernel)]; kernel_rfl) | (rw [if_neg (by decide +kernel)]; exact ⟨rfl, rfl⟩))
    (fun os started H enc _ => lifted os started H enc)
end Go.Proofs.Ytimfbpnnjdpcbaa.fnExactPartStep
namespace Go.Proofs.Ytimfbpnnjdpcbaa
/-- The row, under a short name, for the claim. -/
theorem fnExactPartStep_holds : Rows.FnExactPartStepSaid := fnExactPartStep.over
#print axioms fnExactPartStep_holds
end Go.Proofs.Ytimfbpnnjdpcbaa
