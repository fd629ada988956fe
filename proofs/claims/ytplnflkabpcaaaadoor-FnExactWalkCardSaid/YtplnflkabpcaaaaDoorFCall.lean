/- More ways to call: results that hold, and a pointer's call in a region of open order. -/
import Derived.Test.YtplnflkabpcaaaaDoorFMark
namespace Go.VM
theorem call_fine {P : Program} {fid : Nat} {o : Oper} {env : Nat → VV} {st : St} {c : Call} {g : Operand} {f : FuncId} {fn : Func} {caps : List (List T)} (ts : List TypeId) {xs : List VV}
    {args outs : List RT} (hf : P.funcs[f]? = some fn) (hruns : Runs P f args outs []) (hop : o.op = .call c) (hcal : c.callee = .value g) (hg : ev P env 0 g = .fn f caps) (hbody : fn.body.isNone = false) (hname : (fn.name == "runtime.NumGoroutine") = false)
    (hts : ts.length = c.args.size) (hxs : (c.args.toList.zip ts).map (fun p => ev P env p.2 p.1) ++ caps.map VV.rop = xs) (hl : lendAll st (xs.flatMap VV.cells) = some (rcells args))
    (hshape : shapes xs args = true) (hc1 : ∀ c ∈ rcells outs, c.fine (Known st (xs.flatMap VV.cells))) (hm : Nat.ble (rcells outs).length 1024 = true) (hn : Nat.ble (rcells args).length 1024 = true) :
    OpOk P fid o env st ⟨outL (rvv fid outs), cups fid (rcells outs)⟩ := by
  have h := call_okH (P := P) (fid := fid) (o := o) (env := env) (st := st) (ms := xs.map fun _ => Md.ro) (ys := (xs.flatMap VV.cells).map fun _ => none) (u := []) (bk := (xs.flatMap VV.cells).map fun _ => none) (cs := rcells args)
    (B := []) (bu := []) (ts := ts) (xs := xs)
    hop hcal hg hf hbody hname hxs.symm hts (by simp)
    (by rw [modes_ro]; exact handCs_ro st _)
    (by simp only [mergeCs_ro', St.ups_nil, hl])
    hshape rfl (fun b hb => nomatch hb) (by simp) (by simp) (by simp only [backU]) hruns
    hc1 (fun b hb => nomatch hb) (Nat.le_of_ble_eq_true hm) (Nat.le_of_ble_eq_true hn)
  simpa using h
theorem call_pt_at {P : Program} {fid : Nat} {o : Oper} {env : Nat → VV} {st : St} {c : Call} {g : Operand} {f : FuncId} {fn : Func} {caps : List (List T)} (ts : List TypeId) (r : Nat) (rd : List Nat) {m n : Nat} {row row' : List T} {lg : List Path} {sz0 : Nat} {xs : List VV} {cs : List CT}
    {args outs : List RT} (hf : P.funcs[f]? = some fn) (hruns : Runs P f args outs [(0, ⟨true, n, [row'], []⟩)]) (hop : o.op = .call c) (hcal : c.callee = .value g) (hg : ev P env 0 g = .fn f caps) (hbody : fn.body.isNone = false) (hname : (fn.name == "runtime.NumGoroutine") = false)
    (hts : ts.length = c.args.size) (hxs : (c.args.toList.zip ts).map (fun p => ev P env p.2 p.1) ++ caps.map VV.rop = .ptr r [] m 0 0 :: xs) (hst : st r = some ⟨true, sz0, [row], lg⟩)
    (hl : ∀ st' : St, (∀ x ∈ r :: rd, st' x = st x) → lendAll (st'.put r none) (xs.flatMap VV.cells) = some cs) (hcs : rcells args = .box row :: cs)
    (hshape : shapes (.ptr r [] m 0 0 :: xs) args = true) (hc1 : ∀ st' : St, (∀ x ∈ r :: rd, st' x = st x) → ∀ c ∈ rcells outs, c.fine (Known st' (.ptr r [] m 0 0 :: xs.flatMap VV.cells)))
    (hc2 : ∀ st' : St, (∀ x ∈ r :: rd, st' x = st x) → fineR (Known st' (.ptr r [] m 0 0 :: xs.flatMap VV.cells)) row') (hm : Nat.ble (rcells outs).length 1024 = true) (hn : Nat.ble (rcells args).length 1024 = true) :
    OpAt P fid o (r :: rd) env st ⟨outL (rvv fid outs), [(r, none), (r, some ⟨true, n, [row'], lg ++ [[]]⟩)] ++ cups fid (rcells outs)⟩ := by
  intro env' st' he hs
  have hmem : ∀ t, (.tmp t : Operand) ∈ c.operands → t ∈ tmpsOf o := by
    intro t ht
    simp only [tmpsOf, hop, Op.operands, List.mem_filterMap]
    exact ⟨.tmp t, by simpa using ht, rfl⟩
  have hg' : ev P env' 0 g = ev P env 0 g := ev_congr (fun i e => he i (hmem i (by subst e; simp [Call.operands, hcal])))
  refine call_pt ts r hf hruns hop hcal (hg'.trans hg) hbody hname hts ?_ ((hs r (by simp)).trans hst) (hl st' hs) hcs hshape (hc1 st' hs) (hc2 st' hs) hm hn
  rw [← hxs]
  congr 1
  refine List.map_congr_left (fun p hp => ev_congr (fun i e => he i (hmem i ?_)))
  have := (List.of_mem_zip hp).1
  rw [e] at this
  simp [Call.operands, hcal]
  exact .inr (by simpa using this)
end Go.VM
