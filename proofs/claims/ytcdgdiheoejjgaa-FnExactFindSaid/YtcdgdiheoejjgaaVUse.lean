/- What walks of functions lean on: numbers that do not wrap, lists by index. -/
import Derived.Test.YtcdgdiheoejjgaaVSym
namespace Go.VM
set_option linter.unusedSimpArgs false
set_option linter.unusedVariables false

theorem wrap_i64 {n : Int} (h1 : -9223372036854775808 ≤ n) (h2 : n < 9223372036854775808) : IntKind.wrap .i64 n = n := by
  have hb : IntKind.bits .i64 = 64 := rfl
  have hs : IntKind.signed .i64 = true := rfl
  simp only [IntKind.wrap, hb, hs, Bool.true_and, decide_eq_true_eq, show (2:Int) ^ 64 = 18446744073709551616 from by decide, show (2:Int) ^ (64 - 1) = 9223372036854775808 from by decide]
  split <;> omega

theorem getD_map_of {α : Type} {f : α → List T} {l : List α} {i : Nat} {x : α} (h : l[i]? = some x) : (l.map f).getD i [] = f x := by
  rw [List.getD_eq_getElem?_getD, List.getElem?_map, h]; rfl

theorem drop_of {α : Type} {l : List α} {i : Nat} {x : α} (h : l[i]? = some x) : l.drop i = x :: l.drop (i + 1) := by
  have hi := lt_of_getl h
  rw [List.drop_eq_getElem_cons hi]
  rw [List.getElem?_eq_getElem hi] at h
  simp only [Option.some.injEq] at h
  rw [h]

theorem get_or {α : Type} (l : List α) (i : Nat) : (∃ x, l[i]? = some x ∧ i < l.length) ∨ (l[i]? = none ∧ l.length ≤ i) := by
  by_cases h : i < l.length
  · exact .inl ⟨_, List.getElem?_eq_getElem h, h⟩
  · exact .inr ⟨List.getElem?_eq_none (by omega), by omega⟩

end Go.VM
namespace Go.VM
variable {P : Program} {n K0 : Nat} {K : FS → Prop} {Q : Exit → FS → Prop} {s : FS} {i : Nat}
theorem n_then (h : K s) : thenV K Q .normal s := h
theorem x_then (h : Q (.exit i) s) : thenV K Q (.exit i) s := h
theorem r_then (h : Q .ret s) : thenV K Q .ret s := h
theorem n_block (h : Q .normal s) : blockV i Q .normal s := h
theorem r_block (h : Q .ret s) : blockV i Q .ret s := h
theorem x_block (h : Q .normal s) : blockV i Q (.exit i) s := by simp only [blockV, if_true]; exact h
theorem x_block_ne {j : Nat} (hne : (j == i) = false) (h : Q (.exit j) s) : blockV i Q (.exit j) s := by
  have : ¬ j = i := by simpa using hne
  simp only [blockV, this, if_false]; exact h
theorem e_ret {fn : Func} {outs : List RT} {back : List (Nat × Root)} {k : Nat} (h : retV P fn outs back k s) : endV P fn outs back k .ret s := h
theorem e_normal {fn : Func} {outs : List RT} {back : List (Nat × Root)} {k : Nat} (h : retV P fn outs back k s) : endV P fn outs back k .normal s := h
/-- A region at an end. -/
theorem vw_last {id : Nat} {l : List Oper} {env : Nat → VV} {st : St} {nx : Nat} (hd : regOk n l = true)
    (h : runV P l.toArray nx 0 l env st (fun env st => Q .normal ⟨env, st, nx + 1024 * l.length⟩)) : VW P n K0 (.region id l.toArray false) Q ⟨env, st, nx⟩ := by
  simp only [regOk, Bool.and_eq_true, decide_eq_true_eq] at hd
  exact vw_reg (by simp) hd.1 rfl h
end Go.VM
namespace Go.VM
def chkE (ρ : Ren) (env : Nat → VV) : List (Nat × VV) → Prop
  | [] => True
  | (k, v) :: l => renV ρ (env k) = v ∧ chkE ρ env l
def chkR (ρ : Ren) (st : St) : List (Nat × Option Root) → Prop
  | [] => True
  | (_, none) :: l => chkR ρ st l
  | (k, some R) :: l => (match ρ.from k with | some r => st r = some R | none => False) ∧ chkR ρ st l
theorem chkE_all {ρ : Ren} {env : Nat → VV} : ∀ {l : List (Nat × VV)}, chkE ρ env l → ∀ p ∈ l, renV ρ (env p.1) = p.2
  | [], _, p, hp => by cases hp
  | (k, v) :: l, h, p, hp => by
    rcases List.mem_cons.1 hp with e | e
    · subst e; exact h.1
    · exact chkE_all h.2 p e
theorem chkR_all {ρ : Ren} {st : St} : ∀ {l : List (Nat × Option Root)}, chkR ρ st l → ∀ p ∈ l, ∀ R, p.2 = some R → ∃ r, ρ.from p.1 = some r ∧ st r = some R
  | [], _, p, hp, R, hR => by cases hp
  | (k, none) :: l, h, p, hp, R, hR => by
    rcases List.mem_cons.1 hp with e | e
    · subst e; cases hR
    · exact chkR_all (l := l) h p e R hR
  | (k, some R0) :: l, h, p, hp, R, hR => by
    rcases List.mem_cons.1 hp with e | e
    · subst e
      simp only [Option.some.injEq] at hR
      subst hR
      have h1 := h.1
      split at h1
      · rename_i r hr; exact ⟨r, hr, h1⟩
      · exact h1.elim
    · exact chkR_all (l := l) h.2 p e R hR
theorem norm_to {n K : Nat} {s : FS} (ρ : Ren) {tab : List (Nat × VV)} {rts : List (Nat × Option Root)} {N : Nat} (hρ : (ρ.ok K N && decide (K ≤ N)) = true)
    (hE : chkE ρ s.env tab) (hR : chkR ρ s.st rts) : Norm n K s ⟨tabE tab, tabS rts, N⟩ := by
  simp only [Bool.and_eq_true, decide_eq_true_eq] at hρ
  exact norm_tab ρ tab rts N hρ.1 hρ.2 (chkE_all hE) (chkR_all hR)
end Go.VM
namespace Go.VM
theorem cast0 : ((0 : Nat) : Int) = 0 := rfl
theorem call_rd {P : Program} {fid : Nat} {o : Oper} {env : Nat → VV} {st : St} {c : Call} {g : Operand} {f : FuncId} {fn : Func} {caps : List (List T)} (ts : List TypeId) {xs : List VV} {cs : List CT}
    {args outs : List RT} (hf : P.funcs[f]? = some fn) (hruns : Runs P f args outs []) (hop : o.op = .call c) (hcal : c.callee = .value g) (hg : ev P env 0 g = .fn f caps) (hbody : fn.body.isNone = false) (hname : (fn.name == "runtime.NumGoroutine") = false)
    (hts : ts.length = c.args.size) (hxs : (c.args.toList.zip ts).map (fun p => ev P env p.2 p.1) ++ caps.map VV.rop = xs) (hl : lendAll st (xs.flatMap VV.cells) = some cs)
    (hcs : cs = rcells args) (hshape : shapes xs args = true) (hc1 : (rcells outs).all CT.clean = true) (hm : Nat.ble (rcells outs).length 1024 = true) (hn : Nat.ble (rcells args).length 1024 = true) :
    OpOk P fid o env st ⟨outL (rvv fid outs), cups fid (rcells outs)⟩ :=
  call_ro hop hcal hg hf hbody hname hts hxs hl hcs hshape hruns hc1 (Nat.le_of_ble_eq_true hm) (Nat.le_of_ble_eq_true hn)
theorem call_rd_at {P : Program} {fid : Nat} {o : Oper} {env : Nat → VV} {st : St} {c : Call} {g : Operand} {f : FuncId} {fn : Func} {caps : List (List T)} (ts : List TypeId) (rd : List Nat) {xs : List VV} {cs : List CT}
    {args outs : List RT} (hf : P.funcs[f]? = some fn) (hruns : Runs P f args outs []) (hl : ∀ st' : St, (∀ r ∈ rd, st' r = st r) → lendAll st' (xs.flatMap VV.cells) = some cs) (hop : o.op = .call c) (hcal : c.callee = .value g) (hg : ev P env 0 g = .fn f caps) (hbody : fn.body.isNone = false) (hname : (fn.name == "runtime.NumGoroutine") = false)
    (hts : ts.length = c.args.size) (hxs : (c.args.toList.zip ts).map (fun p => ev P env p.2 p.1) ++ caps.map VV.rop = xs)
    (hcs : cs = rcells args) (hshape : shapes xs args = true) (hc1 : (rcells outs).all CT.clean = true) (hm : Nat.ble (rcells outs).length 1024 = true) (hn : Nat.ble (rcells args).length 1024 = true) :
    OpAt P fid o rd env st ⟨outL (rvv fid outs), cups fid (rcells outs)⟩ :=
  call_ro_at hop hcal hg hf hbody hname hts hxs hl hcs hshape hruns hc1 (Nat.le_of_ble_eq_true hm) (Nat.le_of_ble_eq_true hn)
end Go.VM
namespace Go.VM
/-- Rows that are filled one behind the other. -/
def fillW {α : Type} (f : α → List T) (z : List T) (l : List α) (i : Nat) : List (List T) := (l.take i).map f ++ List.replicate (l.length - i) z
theorem fillW_zero {α : Type} (f : α → List T) (z : List T) (l : List α) : fillW f z l 0 = List.replicate l.length z := by simp [fillW]
theorem fillW_end {α : Type} (f : α → List T) (z : List T) (l : List α) : fillW f z l l.length = l.map f := by simp [fillW]
theorem fillW_len {α : Type} {f : α → List T} {z : List T} {l : List α} {i : Nat} (h : i ≤ l.length) : (fillW f z l i).length = l.length := by simp [fillW]; omega
theorem fillW_get {α : Type} {f : α → List T} {z : List T} {l : List α} {i : Nat} (h : i < l.length) : (fillW f z l i).getD i [] = z := by
  rw [List.getD_eq_getElem?_getD, fillW, List.getElem?_append_right (by simp; omega)]
  have : 0 < l.length - i := by omega
  simp [List.getElem?_replicate, show min i l.length = i from by omega, this]
theorem setCells_rowAt : ∀ {ys row : List T} {rows : List (List T)} {i : Nat} {pre : List T}, rows[i]? = some (pre ++ row) → row.length = ys.length → setCells i pre.length ys rows = rows.set i (pre ++ ys)
  | [], row, rows, i, pre, h, hl => by
    have : row = [] := by simpa using hl
    subst this
    simp only [setCells]
    refine List.ext_getElem? (fun k => ?_)
    rw [List.getElem?_set]
    split
    · rename_i e; subst e; rw [h]; simp [lt_of_getl h]
    · rfl
  | y :: ys, [], rows, i, pre, h, hl => by simp at hl
  | y :: ys, x :: row, rows, i, pre, h, hl => by
    have hi := lt_of_getl h
    have h1 : setIn i pre.length y rows = rows.set i (pre ++ y :: row) := by
      simp only [setIn, getD_of h]
      congr 1
      rw [List.set_append_right _ _ (Nat.le_refl _)]
      simp
    have h2 : (rows.set i (pre ++ y :: row))[i]? = some ((pre ++ [y]) ++ row) := by
      simp [List.getElem?_set, hi]
    have := setCells_rowAt (ys := ys) (row := row) (rows := rows.set i (pre ++ y :: row)) (i := i) (pre := pre ++ [y]) h2 (by simpa using hl)
    simp only [setCells, h1]
    simp only [List.length_append, List.length_cons, List.length_nil, Nat.zero_add] at this
    rw [this, List.set_set]
    simp
theorem fillW_set {α : Type} {f : α → List T} {z : List T} {l : List α} {i : Nat} {x : α} {ys : List T} (hx : l[i]? = some x) (hy : f x = ys) (hz : z.length = ys.length) : setCells i 0 ys (fillW f z l i) = fillW f z l (i + 1) := by
  have hi := lt_of_getl hx
  have h1 : (fillW f z l i)[i]? = some z := by
    rw [fillW, List.getElem?_append_right (by simp; omega)]
    have : 0 < l.length - i := by omega
    simp [List.getElem?_replicate, show min i l.length = i from by omega, this]
  have := setCells_rowAt (ys := ys) (row := z) (rows := fillW f z l i) (i := i) (pre := []) (by simpa using h1) hz
  simp only [List.length_nil, List.nil_append] at this
  rw [this]
  refine List.ext_getElem? (fun k => ?_)
  have e1 : l.take (i + 1) = l.take i ++ [x] := by rw [List.take_succ, hx]; rfl
  simp only [fillW, e1, List.map_append, List.map_cons, List.map_nil, List.append_assoc]
  rw [List.getElem?_set]
  have hlen : ((l.take i).map f).length = i := by simp; omega
  by_cases e : i = k
  · subst e
    simp only [if_true]
    rw [List.getElem?_append_right (by omega), hlen]
    simp [hy]
    omega
  · simp only [e, if_false]
    by_cases hk : k < i
    · rw [List.getElem?_append_left (by omega), List.getElem?_append_left (by omega)]
    · rw [List.getElem?_append_right (by omega), List.getElem?_append_right (by omega), hlen]
      have : k - i = (k - i - 1) + 1 := by omega
      rw [this]
      simp only [List.cons_append, List.nil_append, List.getElem?_cons_succ, List.getElem?_replicate]
      have h5 : (k - i - 1 + 1 < l.length - i) = (k - i - 1 < l.length - (i + 1)) := by
        apply propext; omega
      simp only [h5]
theorem ro_map {α : Type} {f : α → List T} (h : ∀ x, (f x).map T.toRO = f x) (l : List α) : (l.map f).map (List.map T.toRO) = l.map f := by
  rw [List.map_map]
  exact List.map_congr_left (fun x _ => h x)
/-- A list that is a root of its own, handed out whole. -/
theorem take_whole {st : St} {r m sz len : Nat} {R : Root} (hr : st r = some R) (hb : R.box = false) (hs : R.sz = sz) (hl : R.rows.length = len) : takeCs st [.al r [] m sz 0 len] = some ([.v (.list true sz R.rows)], [(r, none)]) := by
  subst hs; subst hl
  have : takeV st (.al r [] m R.sz 0 R.rows.length) = some (.list true R.sz R.rows, [(r, none)]) := by
    simp [takeV, seek, hr, fresh, nav, hb, takenUp]
  simp [takeCs, takeC, this]
end Go.VM
namespace Go.VM
theorem take_map_len {α β : Type} (f : α → β) (l : List α) : (l.map f).take l.length = l.map f := by
  rw [List.take_of_length_le (by simp)]
theorem call_rx {P : Program} {fid : Nat} {o : Oper} {env : Nat → VV} {st : St} {c : Call} {g : Operand} {f : FuncId} {fn : Func} {caps : List (List T)} (ts : List TypeId) {xs : List VV}
    {args outs : List RT} (hf : P.funcs[f]? = some fn) (hruns : Runs P f args outs []) (hop : o.op = .call c) (hcal : c.callee = .value g) (hg : ev P env 0 g = .fn f caps) (hbody : fn.body.isNone = false) (hname : (fn.name == "runtime.NumGoroutine") = false)
    (hts : ts.length = c.args.size) (hxs : (c.args.toList.zip ts).map (fun p => ev P env p.2 p.1) ++ caps.map VV.rop = xs) (hl : lendAll st (xs.flatMap VV.cells) = some (rcells args))
    (hshape : shapes xs args = true) (hc1 : (rcells outs).all CT.clean = true) (hm : Nat.ble (rcells outs).length 1024 = true) (hn : Nat.ble (rcells args).length 1024 = true) :
    OpOk P fid o env st ⟨outL (rvv fid outs), cups fid (rcells outs)⟩ :=
  call_ro hop hcal hg hf hbody hname hts hxs hl rfl hshape hruns hc1 (Nat.le_of_ble_eq_true hm) (Nat.le_of_ble_eq_true hn)
end Go.VM
namespace Go.VM
theorem clean_map {α : Type} {f : α → List T} (h : ∀ x, cleanR (f x) = true) : ∀ l : List α, cleanRs (l.map f) = true
  | [] => rfl
  | x :: l => by simp [cleanRs, h x, clean_map h l]
end Go.VM
