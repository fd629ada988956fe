/- Regions by reckoning: what a region's operations come to, one behind the other, stopping at calls. -/
import Derived.Test.YtcdgdiheoejjgaaVNorm
namespace Go.VM
set_option linter.unusedSimpArgs false
set_option linter.unusedVariables false

def isCall (o : Oper) : Bool :=
  match o.op with
  | .call c => (match c.callee with | .value _ => true | _ => false)
  | .makeFunc _ _ _ => true
  | _ => false

def runV (P : Program) (ops : Array Oper) (nx : Nat) : Nat → List Oper → (Nat → VV) → St → ((Nat → VV) → St → Prop) → Prop
  | _, [], env, st, K => K env st
  | i, o :: l, env, st, K =>
    match wantedV ops o env with
    | some true =>
      match isCall o with
      | true => ∃ v u, OpOk P (nx + 1024 * i) o env st ⟨v, u⟩ ∧ runV P ops nx (i + 1) l (dstE env o.dst v) (st.ups u) K
      | false =>
        match vop P (nx + 1024 * i) o env st with
        | some ⟨v, u⟩ => runV P ops nx (i + 1) l (dstE env o.dst v) (st.ups u) K
        | none => False
    | some false => runV P ops nx (i + 1) l (dstE env o.dst (.tup [])) st K
    | none => False

theorem runV_runL {P : Program} {ops : Array Oper} {nx : Nat} : ∀ {l : List Oper} {i : Nat} {env : Nat → VV} {st : St} {K : (Nat → VV) → St → Prop}, runV P ops nx i l env st K → runL P ops nx i l env st K
  | [], i, env, st, K, h => h
  | o :: l, i, env, st, K, h => by
    simp only [runV] at h
    cases hw : wantedV ops o env with
    | none => rw [hw] at h; exact h.elim
    | some t =>
      rw [hw] at h
      cases t with
      | false => exact runL_no hw (runV_runL h)
      | true =>
        cases hc : isCall o with
        | true =>
          simp only [hc] at h
          obtain ⟨v, u, h1, h2⟩ := h
          exact runL_ok hw h1 (runV_runL h2)
        | false =>
          simp only [hc] at h
          split at h
          · rename_i v u hv
            exact runL_op hw hv (runV_runL h)
          · exact h.elim

theorem runV_mono {P : Program} {ops : Array Oper} {nx : Nat} : ∀ {l : List Oper} {i : Nat} {env : Nat → VV} {st : St} {K K' : (Nat → VV) → St → Prop}, (∀ env st, K env st → K' env st) → runV P ops nx i l env st K → runV P ops nx i l env st K'
  | [], i, env, st, K, K', hk, h => hk _ _ h
  | o :: l, i, env, st, K, K', hk, h => by
    simp only [runV] at h ⊢
    split at h
    · split at h
      · obtain ⟨v, u, h1, h2⟩ := h
        exact ⟨v, u, h1, runV_mono hk h2⟩
      · split at h
        · exact runV_mono hk h
        · exact h.elim
    · exact runV_mono hk h
    · exact h.elim

/-- The same, held back. -/
def runH (P : Program) (ops : Array Oper) (nx : Nat) (i : Nat) (l : List Oper) (env : Nat → VV) (st : St) (K : (Nat → VV) → St → Prop) : Prop := runV P ops nx i l env st K

theorem runV_nil (P : Program) (ops : Array Oper) (nx i : Nat) (env : Nat → VV) (st : St) (K : (Nat → VV) → St → Prop) : runV P ops nx i [] env st K = K env st := rfl

theorem runV_op {P : Program} {ops : Array Oper} {nx i : Nat} {o : Oper} {l : List Oper} {env : Nat → VV} {st : St} {K : (Nat → VV) → St → Prop} {d : Nat} {v : VV} {u : Ups} (hg : o.guard = none) (hc : isCall o = false) (hd : o.dst = some d) (hv : vop P (nx + 1024 * i) o env st = some ⟨v, u⟩) :
    runV P ops nx i (o :: l) env st K = runV P ops nx (i + 1) l (dstE env (some d) v) (st.ups u) K := by
  simp only [runV, wantedV, hg, hc, hv, hd]

/-- A step, as a rule to turn terms by: the guard first, then calls held back, then reckoning. -/
theorem runV_cons (P : Program) (ops : Array Oper) (nx i : Nat) (o : Oper) (l : List Oper) (env : Nat → VV) (st : St) (K : (Nat → VV) → St → Prop) :
    runV P ops nx i (o :: l) env st K =
      match wantedV ops o env with
      | some true =>
        (match isCall o with
        | true => ∃ v u, OpOk P (nx + 1024 * i) o env st ⟨v, u⟩ ∧ runH P ops nx (i + 1) l (dstE env o.dst v) (st.ups u) K
        | false => match vop P (nx + 1024 * i) o env st with
          | some e => runV P ops nx (i + 1) l (dstE env o.dst e.v) (st.ups e.ups) K
          | none => False)
      | some false => runV P ops nx (i + 1) l (dstE env o.dst (.tup [])) st K
      | none => False := by
  rw [runV]
  cases wantedV ops o env with
  | none => rfl
  | some t => cases t with
    | false => rfl
    | true =>
      cases isCall o with
      | true => rfl
      | false =>
        simp only
        cases vop P (nx + 1024 * i) o env st with
        | none => rfl
        | some e => cases e; rfl

theorem vw_reg {P : Program} {n K id : Nat} {ops : Array Oper} {l : List Oper} {Q : Exit → FS → Prop} {env : Nat → VV} {st : St} {nx N : Nat} (hl : ops.toList = l) (hd : dstOk n l = true) (hN : nx + 1024 * l.length = N)
    (h : runV P ops nx 0 l env st (fun env st => Q .normal ⟨env, st, N⟩)) : VW P n K (.region id ops false) Q ⟨env, st, nx⟩ := by
  subst hl
  refine vw_region hd ?_
  have hs : ops.size = ops.toList.length := by simp
  simp only [hs]
  rw [hN]
  exact runV_runL h

/-- A region, and what comes next. -/
theorem vw_then {P : Program} {n K id : Nat} {ops : Array Oper} {l : List Oper} {y : Code} {Q : Exit → FS → Prop} {env : Nat → VV} {st : St} {nx N : Nat} (hl : ops.toList = l) (hd : dstOk n l = true) (hN : nx + 1024 * l.length = N)
    (h : runV P ops nx 0 l env st (fun env st => VW P n K y Q ⟨env, st, N⟩)) : VW P n K (.seq (.region id ops false) y) Q ⟨env, st, nx⟩ :=
  vw_seq (vw_reg hl hd hN h)

theorem thenV_normal (K : FS → Prop) (Q : Exit → FS → Prop) (s : FS) : thenV K Q .normal s = K s := rfl
theorem thenV_ret (K : FS → Prop) (Q : Exit → FS → Prop) (s : FS) : thenV K Q .ret s = Q .ret s := rfl
theorem thenV_exit (K : FS → Prop) (Q : Exit → FS → Prop) (i : Nat) (s : FS) : thenV K Q (.exit i) s = Q (.exit i) s := rfl
theorem blockV_normal (id : Nat) (Q : Exit → FS → Prop) (s : FS) : blockV id Q .normal s = Q .normal s := rfl
theorem blockV_ret (id : Nat) (Q : Exit → FS → Prop) (s : FS) : blockV id Q .ret s = Q .ret s := rfl
theorem blockV_exit (id i : Nat) (Q : Exit → FS → Prop) (s : FS) : blockV id Q (.exit i) s = if i = id then Q .normal s else Q (.exit i) s := rfl
theorem endV_normal (P : Program) (fn : Func) (outs : List RT) (back : List (Nat × Root)) (K : Nat) (s : FS) : endV P fn outs back K .normal s = retV P fn outs back K s := rfl
theorem endV_ret (P : Program) (fn : Func) (outs : List RT) (back : List (Nat × Root)) (K : Nat) (s : FS) : endV P fn outs back K .ret s = retV P fn outs back K s := rfl

/-- A function's results, and nothing given back. -/
theorem ret_of {P : Program} {fn : Func} {outs : List RT} {K : Nat} {s : FS} {rs : List ResultVar} {vs : List VV} {u : Ups} (hrs : fn.results.toList = rs) (h1 : resV P s rs = some vs) (h2 : s.nx ≤ RB) (h3 : shapes vs outs = true) (h4 : takeCs s.st (vs.flatMap VV.cells) = some (rcells outs, u)) :
    retV P fn outs [] K s := ⟨vs, by rw [hrs]; exact h1, h2, h3, u, h4, fun p hp => by cases hp⟩

/-- Begin: the parameters by a table. -/
theorem runs_tab {P : Program} {f : FuncId} {fn : Func} {c : Code} {args outs : List RT} {n k : Nat} {tab : List (Nat × VV)} {rts : List (Nat × Option Root)} (hf : P.funcs[f]? = some fn) (hb : fn.body = some c) (hnt : fn.ntmps = n) (hn : args.length ≤ n)
    (hk : (rcells args).length = k) (hE : ∀ t, envOf (rvv 0 args) t = tabE tab t) (hS : st0.ups (cups 0 (rcells args)) = tabS rts)
    (h : VW P n k c (endV P fn outs [] k) ⟨tabE tab, tabS rts, k⟩) : Runs P f args outs [] := by
  subst hnt
  subst hk
  refine runs_of_vw hf hb hn ?_
  rw [hS, show envOf (rvv 0 args) = tabE tab from funext hE]
  exact h

/-! ### calls that only read -/

theorem handCs_ro (st : St) : ∀ (l : List VV), handCs st (l.map fun y => (Md.ro, y)) = some (l.map fun _ => none, [], l.map fun _ => none)
  | [] => rfl
  | x :: xs => by simp [handCs, handC, handCs_ro st xs, St.ups]

def lendAll (st : St) : List VV → Option (List CT)
  | [] => some []
  | x :: xs => match lendC st x with | some c => (lendAll st xs).map (c :: ·) | none => none

theorem merge_ro (st : St) : ∀ (l : List VV), mergeCs st (l.map fun _ => (none : Option CT)) l = lendAll st l
  | [] => rfl
  | x :: xs => by simp [mergeCs, lendAll, merge_ro st xs]; rfl

/-- A call that only reads what it is handed. -/
theorem call_ro {P : Program} {fid : Nat} {o : Oper} {env : Nat → VV} {st : St} {c : Call} {g : Operand} {f : FuncId} {fn : Func} {caps : List (List T)} {ts : List TypeId} {xs : List VV} {cs : List CT}
    {args outs : List RT} (hop : o.op = .call c) (hcal : c.callee = .value g) (hg : ev P env 0 g = .fn f caps) (hf : P.funcs[f]? = some fn) (hbody : fn.body.isNone = false) (hname : (fn.name == "runtime.NumGoroutine") = false)
    (hts : ts.length = c.args.size) (hxs : (c.args.toList.zip ts).map (fun p => ev P env p.2 p.1) ++ caps.map VV.rop = xs) (hl : lendAll st (xs.flatMap VV.cells) = some cs)
    (hcs : cs = rcells args) (hshape : shapes xs args = true) (hruns : Runs P f args outs []) (hc1 : (rcells outs).all CT.clean = true) (hm : (rcells outs).length ≤ 1024) (hn : (rcells args).length ≤ 1024) :
    OpOk P fid o env st ⟨outL (rvv fid outs), cups fid (rcells outs)⟩ := by
  subst hcs
  have hflat : (((xs.map fun _ => Md.ro).zip xs).flatMap fun p => p.2.cells.map fun y => (p.1, y)) = (xs.flatMap VV.cells).map fun y => (Md.ro, y) := by
    clear hl hshape hxs
    induction xs with
    | nil => rfl
    | cons x xs ih => simp only [List.map_cons, List.zip_cons_cons, List.flatMap_cons, List.map_append, ih]
  have h := call_ok (P := P) (fid := fid) (o := o) (env := env) (st := st) (ms := xs.map fun _ => Md.ro) (ys := (xs.flatMap VV.cells).map fun _ => none) (u := []) (bk := (xs.flatMap VV.cells).map fun _ => none) (cs := rcells args) (B := []) (bu := []) (ts := ts) (xs := xs)
    hop hcal hg hf hbody hname hxs.symm hts (by simp) (by rw [hflat]; exact handCs_ro st _) (by simp only [St.ups]; rw [merge_ro]; exact hl) hshape rfl (fun b hb => by cases hb) (by simp) (by simp) rfl hruns hc1 rfl hm hn
  simpa using h

end Go.VM
namespace Go.VM
theorem vw_congr {P : Program} {n K : Nat} {c : Code} {Q : Exit → FS → Prop} {s s' : FS} (h : s = s') : VW P n K c Q s = VW P n K c Q s' := by rw [h]
theorem runV_congr {P : Program} {ops : Array Oper} {nx nx' i i' : Nat} {l : List Oper} {env env' : Nat → VV} {st st' : St} {K : (Nat → VV) → St → Prop} (h0 : nx = nx') (h1 : i = i') (h2 : env = env') (h3 : st = st') : runV P ops nx i l env st K = runV P ops nx' i' l env' st' K := by rw [h0, h1, h2, h3]
theorem runH_congr {P : Program} {ops : Array Oper} {nx nx' i i' : Nat} {l : List Oper} {env env' : Nat → VV} {st st' : St} {K : (Nat → VV) → St → Prop} (h0 : nx = nx') (h1 : i = i') (h2 : env = env') (h3 : st = st') : runH P ops nx i l env st K = runH P ops nx' i' l env' st' K := by rw [h0, h1, h2, h3]
theorem vw_then' {P : Program} {n K id : Nat} {l : List Oper} {y : Code} {Q : Exit → FS → Prop} {env : Nat → VV} {st : St} {nx N : Nat} (hd : dstOk n l = true) (hN : nx + 1024 * l.length = N)
    (h : runV P l.toArray nx 0 l env st (fun env st => VW P n K y Q ⟨env, st, N⟩)) : VW P n K (.seq (.region id l.toArray false) y) Q ⟨env, st, nx⟩ :=
  vw_then (by simp) hd hN h
theorem vw_reg' {P : Program} {n K id : Nat} {l : List Oper} {Q : Exit → FS → Prop} {env : Nat → VV} {st : St} {nx N : Nat} (hd : dstOk n l = true) (hN : nx + 1024 * l.length = N)
    (h : runV P l.toArray nx 0 l env st (fun env st => Q .normal ⟨env, st, N⟩)) : VW P n K (.region id l.toArray false) Q ⟨env, st, nx⟩ :=
  vw_reg (by simp) hd hN h
end Go.VM
namespace Go.VM
theorem dstE_none (env : Nat → VV) (v : VV) : dstE env none v = env := rfl
theorem ups_nil (st : St) : st.ups [] = st := rfl
end Go.VM
namespace Go.VM
theorem tabE_cons (k : Nat) (v : VV) (l : List (Nat × VV)) (t : Nat) : tabE ((k, v) :: l) t = if t = k then v else tabE l t := rfl
theorem tabE_nil (t : Nat) : tabE [] t = .undef := rfl
theorem tabS_cons (k : Nat) (R : Option Root) (l : List (Nat × Option Root)) (t : Nat) : tabS ((k, R) :: l) t = if t = k then R else tabS l t := rfl
theorem tabS_nil (t : Nat) : tabS [] t = none := rfl
end Go.VM
namespace Go.VM
def regOk (n : Nat) (l : List Oper) : Bool := dstOk n l && decide (l.length ≤ 64)
theorem At.more {n K : Nat} {s : FS} {N : Nat} {w ow bs a} (h : At n K s w ow bs a) (hN : s.nx ≤ N) : At n K { s with nx := N } w ow bs a :=
  ⟨h.rel.shrink (fun x hx => Nat.le_trans hN hx), h.env.mono (Kept.refl _ _) (Quiet.shrink (fun x hx => Nat.le_trans hN hx)), h.size, h.defers, Nat.le_trans h.old hN⟩
theorem norm_more {n K : Nat} {s : FS} {N : Nat} (hN : s.nx ≤ N) : Norm n K s { s with nx := N } := fun w ow bs a ha => ⟨ow, bs, Since.refl _ _ _ _, ha.more hN⟩
/-- A region, and what comes next; numbers are spent in great steps. -/
theorem vw_go {P : Program} {n K id : Nat} {l : List Oper} {y : Code} {Q : Exit → FS → Prop} {env : Nat → VV} {st : St} {nx : Nat} (hd : regOk n l = true)
    (h : runV P l.toArray nx 0 l env st (fun env st => VW P n K y Q ⟨env, st, nx + 65536⟩)) : VW P n K (.seq (.region id l.toArray false) y) Q ⟨env, st, nx⟩ := by
  simp only [regOk, Bool.and_eq_true, decide_eq_true_eq] at hd
  refine vw_seq (vw_reg (by simp) hd.1 rfl ?_)
  refine runV_mono (fun env st hk => ?_) h
  exact vw_norm (norm_more (s := ⟨env, st, nx + 1024 * l.length⟩) (N := nx + 65536) (by simp only; omega)) hk
end Go.VM
namespace Go.VM
theorem call_ro_at {P : Program} {fid : Nat} {o : Oper} {env : Nat → VV} {st : St} {rd : List Nat} {c : Call} {g : Operand} {f : FuncId} {fn : Func} {caps : List (List T)} {ts : List TypeId} {xs : List VV} {cs : List CT}
    {args outs : List RT} (hop : o.op = .call c) (hcal : c.callee = .value g) (hg : ev P env 0 g = .fn f caps) (hf : P.funcs[f]? = some fn) (hbody : fn.body.isNone = false) (hname : (fn.name == "runtime.NumGoroutine") = false)
    (hts : ts.length = c.args.size) (hxs : (c.args.toList.zip ts).map (fun p => ev P env p.2 p.1) ++ caps.map VV.rop = xs) (hl : ∀ st' : St, (∀ r ∈ rd, st' r = st r) → lendAll st' (xs.flatMap VV.cells) = some cs)
    (hcs : cs = rcells args) (hshape : shapes xs args = true) (hruns : Runs P f args outs []) (hc1 : (rcells outs).all CT.clean = true) (hm : (rcells outs).length ≤ 1024) (hn : (rcells args).length ≤ 1024) :
    OpAt P fid o rd env st ⟨outL (rvv fid outs), cups fid (rcells outs)⟩ := by
  intro env' st' he hs
  have hmem : ∀ t, (.tmp t : Operand) ∈ c.operands → t ∈ tmpsOf o := by
    intro t ht
    simp only [tmpsOf, hop, Op.operands, List.mem_filterMap]
    exact ⟨.tmp t, by simpa using ht, rfl⟩
  have hg' : ev P env' 0 g = ev P env 0 g := ev_congr (fun i e => he i (hmem i (by subst e; simp [Call.operands, hcal])))
  refine call_ro hop hcal (hg'.trans hg) hf hbody hname hts ?_ (hl st' hs) hcs hshape hruns hc1 hm hn
  rw [← hxs]
  congr 1
  refine List.map_congr_left (fun p hp => ev_congr (fun i e => he i (hmem i ?_)))
  have := (List.of_mem_zip hp).1
  rw [e] at this
  simp [Call.operands, hcal]
  exact .inr (by simpa using this)
end Go.VM

namespace Go.VM
/-! ### regions of open order, by reckoning -/

def runW (P : Program) (ops : Array Oper) (nx : Nat) : Nat → List Oper → (Nat → VV) → St → List It → (List It → (Nat → VV) → St → Prop) → Prop
  | _, [], env, st, acc, K => K acc env st
  | i, o :: l, env, st, acc, K =>
    match wantedV ops o env with
    | some true =>
      match isCall o with
      | true => ∃ v u rd, OpAt P (nx + 1024 * i) o rd env st ⟨v, u⟩ ∧ runW P ops nx (i + 1) l (dstE env o.dst v) (st.ups u) (acc ++ [⟨o.dst, v, u, o.looksAt ops, rd⟩]) K
      | false =>
        match vop P (nx + 1024 * i) o env st with
        | some e => runW P ops nx (i + 1) l (dstE env o.dst e.v) (st.ups e.ups) (acc ++ [⟨o.dst, e.v, e.ups, o.looksAt ops, readsOf env o⟩]) K
        | none => False
    | some false => runW P ops nx (i + 1) l (dstE env o.dst (.tup [])) st (acc ++ [⟨o.dst, .tup [], [], o.looksAt ops, []⟩]) K
    | none => False

theorem runW_runD {P : Program} {ops : Array Oper} {nx : Nat} : ∀ {l : List Oper} {i : Nat} {env : Nat → VV} {st : St} {acc : List It} {K : List It → (Nat → VV) → St → Prop}, runW P ops nx i l env st acc K → runD P ops nx i l env st acc K
  | [], i, env, st, acc, K, h => h
  | o :: l, i, env, st, acc, K, h => by
    simp only [runW] at h
    simp only [runD]
    cases hw : wantedV ops o env with
    | none => rw [hw] at h; exact h.elim
    | some t =>
      rw [hw] at h
      cases t with
      | false => exact runW_runD h
      | true =>
        cases hc : isCall o with
        | true =>
          simp only [hc] at h
          obtain ⟨v, u, rd, h1, h2⟩ := h
          exact ⟨⟨v, u⟩, rd, h1, runW_runD h2⟩
        | false =>
          simp only [hc] at h
          split at h
          · rename_i e hv
            exact ⟨e, _, vop_at hv, runW_runD h⟩
          · exact h.elim

def runX (P : Program) (ops : Array Oper) (nx : Nat) (i : Nat) (l : List Oper) (env : Nat → VV) (st : St) (acc : List It) (K : List It → (Nat → VV) → St → Prop) : Prop := runW P ops nx i l env st acc K
theorem runW_nil (P : Program) (ops : Array Oper) (nx i : Nat) (env : Nat → VV) (st : St) (acc : List It) (K : List It → (Nat → VV) → St → Prop) : runW P ops nx i [] env st acc K = K acc env st := rfl
theorem runW_cons (P : Program) (ops : Array Oper) (nx i : Nat) (o : Oper) (l : List Oper) (env : Nat → VV) (st : St) (acc : List It) (K : List It → (Nat → VV) → St → Prop) :
    runW P ops nx i (o :: l) env st acc K =
      match wantedV ops o env with
      | some true =>
        (match isCall o with
        | true => ∃ v u rd, OpAt P (nx + 1024 * i) o rd env st ⟨v, u⟩ ∧ runX P ops nx (i + 1) l (dstE env o.dst v) (st.ups u) (acc ++ [⟨o.dst, v, u, o.looksAt ops, rd⟩]) K
        | false => match vop P (nx + 1024 * i) o env st with
          | some e => runW P ops nx (i + 1) l (dstE env o.dst e.v) (st.ups e.ups) (acc ++ [⟨o.dst, e.v, e.ups, o.looksAt ops, readsOf env o⟩]) K
          | none => False)
      | some false => runW P ops nx (i + 1) l (dstE env o.dst (.tup [])) st (acc ++ [⟨o.dst, .tup [], [], o.looksAt ops, []⟩]) K
      | none => False := rfl
theorem runW_congr {P : Program} {ops : Array Oper} {nx nx' i i' : Nat} {l : List Oper} {env env' : Nat → VV} {st st' : St} {acc : List It} {K : List It → (Nat → VV) → St → Prop} (h0 : nx = nx') (h1 : i = i') (h2 : env = env') (h3 : st = st') :
    runW P ops nx i l env st acc K = runW P ops nx' i' l env' st' acc K := by rw [h0, h1, h2, h3]
theorem runX_congr {P : Program} {ops : Array Oper} {nx nx' i i' : Nat} {l : List Oper} {env env' : Nat → VV} {st st' : St} {acc : List It} {K : List It → (Nat → VV) → St → Prop} (h0 : nx = nx') (h1 : i = i') (h2 : env = env') (h3 : st = st') :
    runX P ops nx i l env st acc K = runX P ops nx' i' l env' st' acc K := by rw [h0, h1, h2, h3]
theorem runW_mono {P : Program} {ops : Array Oper} {nx : Nat} : ∀ {l : List Oper} {i : Nat} {env : Nat → VV} {st : St} {acc : List It} {K K' : List It → (Nat → VV) → St → Prop}, (∀ acc env st, K acc env st → K' acc env st) → runW P ops nx i l env st acc K → runW P ops nx i l env st acc K'
  | [], i, env, st, acc, K, K', hk, h => hk _ _ _ h
  | o :: l, i, env, st, acc, K, K', hk, h => by
    simp only [runW] at h ⊢
    split at h
    · split at h
      · obtain ⟨v, u, rd, h1, h2⟩ := h
        exact ⟨v, u, rd, h1, runW_mono hk h2⟩
      · split at h
        · exact runW_mono hk h
        · exact h.elim
    · exact runW_mono hk h
    · exact h.elim

/-- All pairs of items: ordered, or apart. -/
def allOk (l : List Oper) (its : List It) : Prop := pairsOk (precs l []) its = true

theorem vw_draw {P : Program} {n K id : Nat} {l : List Oper} {y : Code} {Q : Exit → FS → Prop} {env : Nat → VV} {st : St} {nx : Nat} (hm : P.follows .mixedOrders = true) (hd : regOk n l = true) (he : edgesOk l.toArray = true)
    (h : runW P l.toArray nx 0 l env st [] (fun its env st => allOk l its ∧ VW P n K y Q ⟨env, st, nx + 65536⟩)) : VW P n K (.seq (.region id l.toArray true) y) Q ⟨env, st, nx⟩ := by
  simp only [regOk, Bool.and_eq_true, decide_eq_true_eq] at hd
  refine vw_seq (vw_region_draw hm (by simpa using hd.1) he (runW_runD ?_))
  have e : l.toArray.toList = l := by simp
  rw [e]
  refine runW_mono (fun its env st hk => ?_) h
  refine ⟨hk.1, ?_⟩
  exact vw_norm (norm_more (s := ⟨env, st, nx + 1024 * l.toArray.size⟩) (N := nx + 65536) (by simp; omega)) hk.2

end Go.VM
