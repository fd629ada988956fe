/- Operations that look past a slice's end, where the row has more: reslicing, append in place, clear; slices with three indexes whose value is not used. -/
import Derived.Test.YtkijdbljnefeaaaGreatPVMD
set_option linter.unusedSimpArgs false
set_option linter.unusedVariables false
namespace Go.VM
open Go
theorem opOk_of {P : Program} {fid : Nat} {o : Oper} {env : Nat → VV} {st : St} {e : Eff}
    (h : ∀ w ow bs fr a, Rel w ow bs st fr → RelE w ow bs st fr env a → Room fr fid → Does w ow bs st fr (fun y => fr y ∧ ¬ Mine fid y) ((execOp a.eval o).run P w) e.v (st.ups e.ups)) : OpOk P fid o env st e := by
  intro w ow bs fr a hr he hroom next Q hk
  obtain ⟨val, w', ow', bs', h1, h2, h3, h4, h5⟩ := h w ow bs fr a hr he hroom
  have hn := hk val w' ow' bs' h4 h2 h3 h5
  unfold Oper.wp
  rcases h1 with h1 | ⟨h1, rfl⟩
  · rw [h1, Oper.upon_value]; exact hn
  · rw [h1, Oper.upon_skip]; exact hn
/-! ### a slice again, past its length -/
/-! ### a slice with three indexes, of whose value nothing is known -/
/-! ### rows put into a root from a place on -/
theorem put_none {st : St} {r p m sz R rows} (hs : seek st r p m = some (R, sz, rows)) (i : Nat) : st.ups [(r, some { R with rows := modAt (putRows i []) R.rows p })] = st := by
  obtain ⟨hr, _, hn⟩ := seek_some hs
  have e : modAt (putRows i []) R.rows p = R.rows := modAt_same i hn
  funext y
  simp only [St.ups_cons, St.ups_nil, e]
  by_cases ey : y = r
  · subst ey; rw [St.put_eq, hr]
  · rw [St.put_ne _ _ ey]
/-! ### append in place -/
/-! ### clear -/
/-! ### what is put, as a list -/
end Go.VM
