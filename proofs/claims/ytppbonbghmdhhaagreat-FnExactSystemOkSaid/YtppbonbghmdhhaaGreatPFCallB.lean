/- A call that turns one list behind one thing that is only read. -/
import Derived.Test.YtppbonbghmdhhaaGreatPFMark
namespace Go.VM
/-- One list handed over and given back, behind one thing that is only read. -/
theorem call_b1 {P : Program} {fid : Nat} {o : Oper} {env : Nat → VV} {st : St} {c : Call} {g : Operand} {f : FuncId} {fn : Func} {caps : List (List T)} (ts : List TypeId) (r : Nat) {m sz len : Nat} {rows rows' : List (List T)} {lg : List Path} {a : VV} {xs : List VV} {ca : CT} {cs : List CT}
    {args outs : List RT} (hf : P.funcs[f]? = some fn) (hruns : Runs P f args outs [(1, ⟨false, sz, rows', []⟩)]) (hop : o.op = .call c) (hcal : c.callee = .value g) (hg : ev P env 0 g = .fn f caps) (hbody : fn.body.isNone = false) (hname : (fn.name == "runtime.NumGoroutine") = false)
    (hts : ts.length = c.args.size) (hxs : (c.args.toList.zip ts).map (fun p => ev P env p.2 p.1) ++ caps.map VV.rop = a :: .al r [] m sz 0 len :: xs) (ha : a.cells = [a]) (hst : st r = some ⟨false, sz, rows, lg⟩) (hlen : rows.length = len)
    (hl : lendAll (st.put r none) (a :: xs.flatMap VV.cells) = some (ca :: cs)) (hcs : rcells args = ca :: .v (.list true sz rows) :: cs)
    (hshape : shapes (a :: .al r [] m sz 0 len :: xs) args = true) (hc1 : ∀ c ∈ rcells outs, c.fine (Known st (a :: .al r [] m sz 0 len :: xs.flatMap VV.cells))) (hc2 : fineRs (Known st (a :: .al r [] m sz 0 len :: xs.flatMap VV.cells)) rows') (hm : Nat.ble (rcells outs).length 1024 = true) (hn : Nat.ble (rcells args).length 1024 = true) :
    OpOk P fid o env st ⟨outL (rvv fid outs), [(r, none), (r, some ⟨false, sz, rows', lg ++ [[]]⟩)] ++ cups fid (rcells outs)⟩ := by
  subst hlen
  have hcells : (a :: VV.al r [] m sz 0 rows.length :: xs).flatMap VV.cells = a :: .al r [] m sz 0 rows.length :: xs.flatMap VV.cells := by
    rw [List.flatMap_cons, ha, List.flatMap_cons]; rfl
  have hl' : ∃ c0, lendC (st.put r none) a = some c0 ∧ c0 = ca ∧ lendAll (st.put r none) (xs.flatMap VV.cells) = some cs := by
    simp only [lendAll] at hl
    cases h1 : lendC (st.put r none) a with
    | none => rw [h1] at hl; cases hl
    | some c0 =>
      rw [h1] at hl
      cases h2 : lendAll (st.put r none) (xs.flatMap VV.cells) with
      | none => rw [h2] at hl; cases hl
      | some c1 =>
        rw [h2] at hl
        simp only [Option.map_some, Option.some.injEq, List.cons.injEq] at hl
        exact ⟨c0, rfl, hl.1, by rw [hl.2]⟩
  obtain ⟨_, h1, rfl, h2⟩ := hl'
  have h := call_okH (P := P) (fid := fid) (o := o) (env := env) (st := st) (ms := .ro :: .back :: xs.map fun _ => Md.ro) (ys := none :: some (.v (.list true sz rows)) :: (xs.flatMap VV.cells).map fun _ => none) (u := [(r, none)]) (bk := none :: some r :: (xs.flatMap VV.cells).map fun _ => none) (cs := _ :: .v (.list true sz rows) :: cs)
    (B := [(r, 1, ⟨false, sz, rows', []⟩)]) (bu := [(r, some ⟨false, sz, rows', lg ++ [[]]⟩)]) (ts := ts) (xs := a :: .al r [] m sz 0 rows.length :: xs)
    hop hcal hg hf hbody hname hxs.symm hts (by simp)
    (by
      rw [List.zip_cons_cons, List.zip_cons_cons, List.flatMap_cons, List.flatMap_cons, modes_ro, ha]
      simp only [show (VV.al r [] m sz 0 rows.length).cells = [VV.al r [] m sz 0 rows.length] from rfl, List.map_cons, List.map_nil, List.singleton_append, handCs, handC, handBack, St.ups_nil, hst, and_self, if_true, handCs_ro, List.append_nil, List.nil_append])
    (by
      rw [hcells]
      simp only [mergeCs, mergeCs_ro', St.ups_cons, St.ups_nil, h1, h2, Option.map_some])
    hshape hcs (fun b hb => by simp only [List.mem_singleton] at hb; subst hb; rfl) (by simp) (by simp) (by simp only [backU, hst, Option.map_some]) hruns
    (by rw [hcells]; exact hc1) (fun b hb => by simp only [List.mem_singleton] at hb; subst hb; rw [hcells]; exact hc2) (Nat.le_of_ble_eq_true hm) (by rw [hcs] at hn; exact Nat.le_of_ble_eq_true hn)
  simpa using h
end Go.VM
