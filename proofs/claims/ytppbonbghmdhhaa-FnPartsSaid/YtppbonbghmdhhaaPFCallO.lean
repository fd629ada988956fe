/- A call that turns a pointer's box and takes the lists that it is handed. -/
import Derived.Test.YtppbonbghmdhhaaPFMark
namespace Go.VM
theorem takeCs_len : ∀ {l : List VV} {st : St} {cs u}, takeCs st l = some (cs, u) → cs.length = l.length := by
  intro l
  induction l with
  | nil => intro st cs u h; simp only [takeCs, Option.some.injEq, Prod.mk.injEq] at h; rw [← h.1]; rfl
  | cons x l ih =>
    intro st cs u h
    simp only [takeCs] at h
    split at h
    · split at h
      · rename_i ys us h2
        simp only [Option.some.injEq, Prod.mk.injEq] at h
        rw [← h.1]; simp [ih h2]
      · cases h
    · cases h
theorem mergeCs_own {st : St} : ∀ {cs : List CT} {l : List VV}, cs.length = l.length → mergeCs st (cs.map some) l = some cs
  | [], [], _ => rfl
  | c :: cs, x :: l, h => by simp only [List.map_cons, mergeCs]; rw [mergeCs_own (by simpa using h)]; rfl
theorem modes_own (xs : List VV) : (((xs.map fun _ => Md.own).zip xs).flatMap fun p => p.2.cells.map fun y => (p.1, y)) = (xs.flatMap VV.cells).map fun y => (Md.own, y) := by
  induction xs with
  | nil => rfl
  | cons x xs ih => simp only [List.map_cons, List.zip_cons_cons, List.flatMap_cons, List.map_append, ih]
theorem call_po {P : Program} {fid : Nat} {o : Oper} {env : Nat → VV} {st : St} {c : Call} {g : Operand} {f : FuncId} {fn : Func} {caps : List (List T)} (ts : List TypeId) (r : Nat) (u : Ups) {m n : Nat} {row row' : List T} {lg : List Path} {sz0 : Nat} {xs : List VV} {cs : List CT}
    {args outs : List RT} (hf : P.funcs[f]? = some fn) (hruns : Runs P f args outs [(0, ⟨true, n, [row'], []⟩)]) (hop : o.op = .call c) (hcal : c.callee = .value g) (hg : ev P env 0 g = .fn f caps) (hbody : fn.body.isNone = false) (hname : (fn.name == "runtime.NumGoroutine") = false)
    (hts : ts.length = c.args.size) (hxs : (c.args.toList.zip ts).map (fun p => ev P env p.2 p.1) ++ caps.map VV.rop = .ptr r [] m 0 0 :: xs) (hst : st r = some ⟨true, sz0, [row], lg⟩)
    (hl : takeCs (st.put r none) (xs.flatMap VV.cells) = some (cs, u)) (hcs : rcells args = .box row :: cs)
    (hshape : shapes (.ptr r [] m 0 0 :: xs) args = true) (hc1 : ∀ c ∈ rcells outs, c.fine (Known st (.ptr r [] m 0 0 :: xs.flatMap VV.cells))) (hc2 : fineR (Known st (.ptr r [] m 0 0 :: xs.flatMap VV.cells)) row') (hm : Nat.ble (rcells outs).length 1024 = true) (hn : Nat.ble (rcells args).length 1024 = true) :
    OpOk P fid o env st ⟨outL (rvv fid outs), ((r, none) :: u) ++ [(r, some ⟨true, n, [row'], lg ++ [[]]⟩)] ++ cups fid (rcells outs)⟩ := by
  have hcells : (VV.ptr r [] m 0 0 :: xs).flatMap VV.cells = .ptr r [] m 0 0 :: xs.flatMap VV.cells := rfl
  have h := call_okH (P := P) (fid := fid) (o := o) (env := env) (st := st) (ms := .back :: xs.map fun _ => Md.own) (ys := some (.box row) :: cs.map some) (u := (r, none) :: u) (bk := some r :: (xs.flatMap VV.cells).map fun _ => none) (cs := .box row :: cs)
    (B := [(r, 0, ⟨true, n, [row'], []⟩)]) (bu := [(r, some ⟨true, n, [row'], lg ++ [[]]⟩)]) (ts := ts) (xs := .ptr r [] m 0 0 :: xs)
    hop hcal hg hf hbody hname hxs.symm hts (by simp)
    (by
      rw [List.zip_cons_cons, List.flatMap_cons, modes_own]
      have e : handCs (st.ups [(r, none)]) ((xs.flatMap VV.cells).map fun y => (Md.own, y)) = some (cs.map some, u, (xs.flatMap VV.cells).map fun _ => none) := handCs_own (by simpa only [St.ups_cons, St.ups_nil] using hl)
      simp only [show (VV.ptr r [] m 0 0).cells = [VV.ptr r [] m 0 0] from rfl, List.map_cons, List.map_nil, List.singleton_append, handCs, handC, handBack, hst, if_true, e])
    (by
      rw [hcells]
      simp only [mergeCs, mergeCs_own (takeCs_len hl), Option.map_some])
    hshape hcs (fun b hb => by simp only [List.mem_singleton] at hb; subst hb; rfl) (by simp) (by simp) (by simp only [backU, hst, Option.map_some]) hruns
    (by rw [hcells]; exact hc1) (fun b hb => by simp only [List.mem_singleton] at hb; subst hb; rw [hcells]; exact ⟨hc2, trivial⟩) (Nat.le_of_ble_eq_true hm) (by rw [hcs] at hn; exact Nat.le_of_ble_eq_true hn)
  simpa using h
end Go.VM
