/- What all walks of this seat lean on. -/
import Derived.Test.YtppbonbghmdhhaaPFacts
namespace Go.Proofs.Ytppbonbghmdhhaa
open Go.VM
set_option linter.unusedSimpArgs false
set_option linter.unusedVariables false
attribute [go_sem] copyV List.zip_cons_cons List.zip_nil_left List.zip_nil_right or_false false_or or_self or_true true_or and_false false_and fillV VV.solid partV appendV rowsOf noOwn plainT atEnd strRows rowEq scalEq fitD decide_true decide_false List.getElem?_toArray  Bool.true_beq Bool.false_beq takenUp take_map_len List.getLast?_nil List.getLast?_singleton List.dropLast_singleton List.isPrefixOf_nil_left List.isPrefixOf_cons₂
theorem mixed : Try.prog.follows .mixedOrders = true := by kernel_rfl
def inB (x lo hi : Int) : Bool := decide (lo ≤ x) && decide (x ≤ hi)
end Go.Proofs.Ytppbonbghmdhhaa
namespace Go.VM
theorem ret_by {P : Program} {fn : Func} {outs : List RT} {K : Nat} {s : FS} {rs : List ResultVar} {vs : List VV} (hrs : fn.results.toList = rs) (h1 : resV P s rs = some vs) (h2 : s.nx ≤ RB) (h3 : shapes vs outs = true) (h4 : (takeCs s.st (vs.flatMap VV.cells)).map (·.1) = some (rcells outs)) :
    retV P fn outs [] K s := by
  obtain ⟨p, hp, e⟩ := Option.map_eq_some_iff.1 h4
  obtain ⟨a, u⟩ := p
  simp only at e
  subst e
  exact ret_of hrs h1 h2 h3 hp
theorem call_rx_at {P : Program} {fid : Nat} {o : Oper} {env : Nat → VV} {st : St} {c : Call} {g : Operand} {f : FuncId} {fn : Func} {caps : List (List T)} (ts : List TypeId) (rd : List Nat) {xs : List VV}
    {args outs : List RT} (hf : P.funcs[f]? = some fn) (hruns : Runs P f args outs []) (hop : o.op = .call c) (hcal : c.callee = .value g) (hg : ev P env 0 g = .fn f caps) (hbody : fn.body.isNone = false) (hname : (fn.name == "runtime.NumGoroutine") = false)
    (hts : ts.length = c.args.size) (hxs : (c.args.toList.zip ts).map (fun p => ev P env p.2 p.1) ++ caps.map VV.rop = xs) (hl : ∀ st' : St, (∀ r ∈ rd, st' r = st r) → lendAll st' (xs.flatMap VV.cells) = some (rcells args))
    (hshape : shapes xs args = true) (hc1 : (rcells outs).all CT.clean = true) (hm : Nat.ble (rcells outs).length 1024 = true) (hn : Nat.ble (rcells args).length 1024 = true) :
    OpAt P fid o rd env st ⟨outL (rvv fid outs), cups fid (rcells outs)⟩ :=
  call_ro_at hop hcal hg hf hbody hname hts hxs hl rfl hshape hruns hc1 (Nat.le_of_ble_eq_true hm) (Nat.le_of_ble_eq_true hn)
end Go.VM
