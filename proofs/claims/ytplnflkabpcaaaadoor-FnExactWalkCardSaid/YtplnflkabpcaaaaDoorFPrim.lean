/- Calls of the two functions of the library that have no body: the count of a byte, the place of a byte. -/
import Derived.Test.YtplnflkabpcaaaaDoorFBase
import Derived.Laws.Externs
import Derived.Lib.Bytealg
namespace Go.VM
open Go
theorem call_prim2 {P : Program} {fid : Nat} {o : Oper} {env : Nat → VV} {st : St} {c : Call} {g : Operand} {f : FuncId} {fn : Func} {e : Array Value → Sem Value} {x y : Operand} {s : ByteArray} {b n : Int}
    (t1 t2 : TypeId) (hf : P.funcs[f]? = some fn) (hb : fn.body.isNone = true) (hname : (fn.name == "runtime.NumGoroutine") = false) (hn : Extern.findNext fn = none) (he : Extern.find fn = some e)
    (hrun : ∀ w : World, (e #[.string s, .int .u8 b]).run P w = .ok (.int .i64 n) w) (hop : o.op = .call c) (hcal : c.callee = .value g) (hg : ev P env 0 g = .fn f []) (hargs : c.args = #[x, y])
    (hx : ev P env t1 x = .c (.str s)) (hy : ev P env t2 y = .c (.int .u8 b)) :
    OpOk P fid o env st ⟨.c (.int .i64 n), []⟩ := by
  intro w ow bs fr a hr hE hroom next Q hk
  have hgv := ev_rel (P := P) hE 0 g
  rw [hg] at hgv
  obtain ⟨vs, hgeq, hvl⟩ : ∃ vs : Array Value, a.eval g = .func (.func f) #[] vs ∧ 0 = vs.size := by
    generalize a.eval g = z at hgv
    cases hgv with | fn hl hh => exact ⟨_, rfl, hl⟩
  obtain rfl : vs = #[] := Array.eq_empty_of_size_eq_zero hvl.symm
  have h1 := ev_rel (P := P) hE t1 x
  have h2 := ev_rel (P := P) hE t2 y
  rw [hx] at h1
  rw [hy] at h2
  have e1 : a.eval x = .string s := by
    generalize a.eval x = z at h1
    cases h1 with | c h => cases h with | str => rfl
  have e2 : a.eval y = .int .u8 b := by
    generalize a.eval y = z at h2
    cases h2 with | c h => cases h with | int => rfl
  have hcf := run_callFunc_extern hf hname hb hn he #[.string s, .int .u8 b] w
  rw [hrun w] at hcf
  have hrun' : (execOp a.eval o).run P w = .ok (.value (.int .i64 n)) w := by
    have : (execOp a.eval o).run P w = (callFunc f #[.string s, .int .u8 b]).run P w := by
      simp [execOp, hop, resolve, hcal, hgeq, Deferred.ofValue, invoke, hargs, e1, e2]
    rw [this, hcf]
    rfl
  have hd : Does w ow bs st fr (minus fr fid) ((execOp a.eval o).run P w) (.c (.int .i64 n)) st := Does.pure hr (fun r h => h.1) hrun' (.c .int)
  obtain ⟨val, w', ow', bs', k1, k2, k3, k4, k5⟩ := hd
  have hn' := hk val w' ow' bs' k4 k2 k3 k5
  unfold Oper.wp
  rcases k1 with k1 | ⟨k1, rfl⟩
  · rw [k1, Oper.upon_value]; exact hn'
  · rw [k1, Oper.upon_skip]; exact hn'
end Go.VM
