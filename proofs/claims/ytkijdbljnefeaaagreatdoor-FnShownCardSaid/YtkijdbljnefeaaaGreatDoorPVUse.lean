/- What walks of functions lean on: numbers that do not wrap, lists by index. -/
import Derived.Test.YtkijdbljnefeaaaGreatDoorPVMD
import Derived.Carry
import Derived.ProofKit
import Derived.OpenShut
import Derived.ShutString
import Derived.ChangeOld
import Derived.SizedLaws
set_option linter.unusedSimpArgs false
set_option linter.unusedVariables false
namespace Go.VM
theorem wrap_i64 {n : Int} (h1 : -9223372036854775808 ≤ n) (h2 : n < 9223372036854775808) : IntKind.wrap .i64 n = n := by
  have hb : IntKind.bits .i64 = 64 := rfl
  have hs : IntKind.signed .i64 = true := rfl
  simp only [IntKind.wrap,hb,hs,Bool.true_and,decide_eq_true_eq,show (2:Int) ^ 64 = 18446744073709551616 from by decide,show (2:Int) ^ (64 - 1) = 9223372036854775808 from by decide]
  split <;> omega
theorem getD_map_of {α : Type} {f : α → List T} {l : List α} {i : Nat} {x : α} (h : l[i]? = some x) : (l.map f).getD i [] = f x := by
  rw [List.getD_eq_getElem?_getD, List.getElem?_map, h]; rfl
theorem drop_of {α : Type} {l : List α} {i : Nat} {x : α} (h : l[i]? = some x) : l.drop i = x :: l.drop (i + 1) := by
  have hi := lt_of_getl h
  rw [List.drop_eq_getElem_cons hi]
  rw [List.getElem?_eq_getElem hi] at h
  simp only [Option.some.injEq] at h
  rw [h]
theorem get_or {α : Type} (l : List α) (i : Nat) : (∃ x, l[i]? = some x ∧ i < l.length) ∨ (l[i]? = none ∧ l.length ≤ i) := by
  by_cases h : i < l.length
  · exact .inl ⟨_, List.getElem?_eq_getElem h, h⟩
  · exact .inr ⟨List.getElem?_eq_none (by omega), by omega⟩
end Go.VM
namespace Go.VM
variable {P : Program} {n K0 : Nat} {K : FS → Prop} {Q : Exit → FS → Prop} {s : FS} {i : Nat}
theorem n_then (h : K s) : thenV K Q .normal s := h
theorem x_then (h : Q (.exit i) s) : thenV K Q (.exit i) s := h
theorem r_then (h : Q .ret s) : thenV K Q .ret s := h
theorem n_block (h : Q .normal s) : blockV i Q .normal s := h
theorem r_block (h : Q .ret s) : blockV i Q .ret s := h
theorem x_block (h : Q .normal s) : blockV i Q (.exit i) s := by simp only [blockV,if_true]; exact h
theorem e_ret {fn : Func} {outs : List RT} {back : List (Nat × Root)} {k : Nat} (h : retV P fn outs back k s) : endV P fn outs back k .ret s := h
theorem e_normal {fn : Func} {outs : List RT} {back : List (Nat × Root)} {k : Nat} (h : retV P fn outs back k s) : endV P fn outs back k .normal s := h
/-- A region at an end. -/
theorem vw_last {id : Nat} {l : List Oper} {env : Nat → VV} {st : St} {nx : Nat} (hd : regOk n l = true)
    (h : runV P l.toArray nx 0 l env st (fun env st => Q .normal ⟨env, st, nx + 1024 * l.length⟩)) : VW P n K0 (.region id l.toArray false) Q ⟨env, st, nx⟩ := by
  simp only [regOk,Bool.and_eq_true,decide_eq_true_eq] at hd
  exact vw_reg (by simp) hd.1 rfl h
end Go.VM
namespace Go.VM
def chkE (ρ : Ren) (env : Nat → VV) : List (Nat × VV) → Prop
  | [] => True
  | (k, v) :: l => renV ρ (env k) = v ∧ chkE ρ env l
def chkR (ρ : Ren) (st : St) : List (Nat × Option Root) → Prop
  | [] => True
  | (_, none) :: l => chkR ρ st l
  | (k, some R) :: l => (match ρ.from k with | some r => st r = some R | none => False) ∧ chkR ρ st l
theorem chkE_all {ρ : Ren} {env : Nat → VV} : ∀ {l : List (Nat × VV)}, chkE ρ env l → ∀ p ∈ l, renV ρ (env p.1) = p.2
  | [], _, p, hp => by cases hp
  | (k, v) :: l, h, p, hp => by
    rcases List.mem_cons.1 hp with e | e
    · subst e; exact h.1
    · exact chkE_all h.2 p e
theorem chkR_all {ρ : Ren} {st : St} : ∀ {l : List (Nat × Option Root)}, chkR ρ st l → ∀ p ∈ l, ∀ R, p.2 = some R → ∃ r, ρ.from p.1 = some r ∧ st r = some R
  | [], _, p, hp, R, hR => by cases hp
  | (k, none) :: l, h, p, hp, R, hR => by
    rcases List.mem_cons.1 hp with e | e
    · subst e; cases hR
    · exact chkR_all (l := l) h p e R hR
  | (k, some R0) :: l, h, p, hp, R, hR => by
    rcases List.mem_cons.1 hp with e | e
    · subst e
      simp only [Option.some.injEq] at hR
      subst hR
      have h1 := h.1
      split at h1
      · rename_i r hr; exact ⟨r, hr, h1⟩
      · exact h1.elim
    · exact chkR_all (l := l) h.2 p e R hR
theorem norm_to {n K : Nat} {s : FS} (ρ : Ren) {tab : List (Nat × VV)} {rts : List (Nat × Option Root)} {N : Nat} (hρ : (ρ.ok K N && decide (K ≤ N)) = true)
    (hE : chkE ρ s.env tab) (hR : chkR ρ s.st rts) : Norm n K s ⟨tabE tab, tabS rts, N⟩ := by
  simp only [Bool.and_eq_true,decide_eq_true_eq] at hρ
  exact norm_tab ρ tab rts N hρ.1 hρ.2 (chkE_all hE) (chkR_all hR)
end Go.VM
namespace Go.VM
theorem cast0 : ((0 : Nat) : Int) = 0 := rfl
theorem call_rd {P : Program} {fid : Nat} {o : Oper} {env : Nat → VV} {st : St} {c : Call} {g : Operand} {f : FuncId} {fn : Func} {caps : List (List T)} (ts : List TypeId) {xs : List VV} {cs : List CT}
    {args outs : List RT} (hf : P.funcs[f]? = some fn) (hruns : Runs P f args outs []) (hop : o.op = .call c) (hcal : c.callee = .value g) (hg : ev P env 0 g = .fn f caps) (hbody : fn.body.isNone = false) (hname : (fn.name == "runtime.NumGoroutine") = false)
    (hts : ts.length = c.args.size) (hxs : (c.args.toList.zip ts).map (fun p => ev P env p.2 p.1) ++ caps.map VV.rop = xs) (hl : lendAll st (xs.flatMap VV.cells) = some cs)
    (hcs : cs = rcells args) (hshape : shapes xs args = true) (hc1 : (rcells outs).all CT.clean = true) (hm : Nat.ble (rcells outs).length 1024 = true) (hn : Nat.ble (rcells args).length 1024 = true) :
    OpOk P fid o env st ⟨outL (rvv fid outs), cups fid (rcells outs)⟩ :=
  call_ro hop hcal hg hf hbody hname hts hxs hl hcs hshape hruns hc1 (Nat.le_of_ble_eq_true hm) (Nat.le_of_ble_eq_true hn)
theorem call_rd_at {P : Program} {fid : Nat} {o : Oper} {env : Nat → VV} {st : St} {c : Call} {g : Operand} {f : FuncId} {fn : Func} {caps : List (List T)} (ts : List TypeId) (rd : List Nat) {xs : List VV} {cs : List CT}
    {args outs : List RT} (hf : P.funcs[f]? = some fn) (hruns : Runs P f args outs []) (hl : ∀ st' : St, (∀ r ∈ rd, st' r = st r) → lendAll st' (xs.flatMap VV.cells) = some cs) (hop : o.op = .call c) (hcal : c.callee = .value g) (hg : ev P env 0 g = .fn f caps) (hbody : fn.body.isNone = false) (hname : (fn.name == "runtime.NumGoroutine") = false)
    (hts : ts.length = c.args.size) (hxs : (c.args.toList.zip ts).map (fun p => ev P env p.2 p.1) ++ caps.map VV.rop = xs)
    (hcs : cs = rcells args) (hshape : shapes xs args = true) (hc1 : (rcells outs).all CT.clean = true) (hm : Nat.ble (rcells outs).length 1024 = true) (hn : Nat.ble (rcells args).length 1024 = true) :
    OpAt P fid o rd env st ⟨outL (rvv fid outs), cups fid (rcells outs)⟩ :=
  call_ro_at hop hcal hg hf hbody hname hts hxs hl hcs hshape hruns hc1 (Nat.le_of_ble_eq_true hm) (Nat.le_of_ble_eq_true hn)
end Go.VM
namespace Go.VM
/-- Rows that are filled one behind the other. -/
def fillW {α : Type} (f : α → List T) (z : List T) (l : List α) (i : Nat) : List (List T) := (l.take i).map f ++ List.replicate (l.length - i) z
theorem fillW_zero {α : Type} (f : α → List T) (z : List T) (l : List α) : fillW f z l 0 = List.replicate l.length z := by simp [fillW]
theorem fillW_end {α : Type} (f : α → List T) (z : List T) (l : List α) : fillW f z l l.length = l.map f := by simp [fillW]
theorem fillW_len {α : Type} {f : α → List T} {z : List T} {l : List α} {i : Nat} (h : i ≤ l.length) : (fillW f z l i).length = l.length := by simp [fillW]; omega
theorem fillW_get {α : Type} {f : α → List T} {z : List T} {l : List α} {i : Nat} (h : i < l.length) : (fillW f z l i).getD i [] = z := by
  rw [List.getD_eq_getElem?_getD, fillW, List.getElem?_append_right (by simp; omega)]
  have : 0 < l.length - i := by omega
  simp [List.getElem?_replicate,show min i l.length = i from by omega,this]
theorem setCells_rowAt : ∀ {ys row : List T} {rows : List (List T)} {i : Nat} {pre : List T}, rows[i]? = some (pre ++ row) → row.length = ys.length → setCells i pre.length ys rows = rows.set i (pre ++ ys)
  | [], row, rows, i, pre, h, hl => by
    have : row = [] := by simpa using hl
    subst this
    simp only [setCells]
    refine List.ext_getElem? (fun k => ?_)
    rw [List.getElem?_set]
    split
    · rename_i e; subst e; rw [h]; simp [lt_of_getl h]
    · rfl
  | y :: ys, [], rows, i, pre, h, hl => by simp at hl
  | y :: ys, x :: row, rows, i, pre, h, hl => by
    have hi := lt_of_getl h
    have h1 : setIn i pre.length y rows = rows.set i (pre ++ y :: row) := by
      simp only [setIn,getD_of h]
      congr 1
      rw [List.set_append_right _ _ (Nat.le_refl _)]
      simp
    have h2 : (rows.set i (pre ++ y :: row))[i]? = some ((pre ++ [y]) ++ row) := by
      simp [List.getElem?_set,hi]
    have := setCells_rowAt (ys := ys) (row := row) (rows := rows.set i (pre ++ y :: row)) (i := i) (pre := pre ++ [y]) h2 (by simpa using hl)
    simp only [setCells,h1]
    simp only [List.length_append,List.length_cons,List.length_nil,Nat.zero_add] at this
    rw [this, List.set_set]
    simp
theorem fillW_set {α : Type} {f : α → List T} {z : List T} {l : List α} {i : Nat} {x : α} {ys : List T} (hx : l[i]? = some x) (hy : f x = ys) (hz : z.length = ys.length) : setCells i 0 ys (fillW f z l i) = fillW f z l (i + 1) := by
  have hi := lt_of_getl hx
  have h1 : (fillW f z l i)[i]? = some z := by
    rw [fillW, List.getElem?_append_right (by simp; omega)]
    have : 0 < l.length - i := by omega
    simp [List.getElem?_replicate,show min i l.length = i from by omega,this]
  have := setCells_rowAt (ys := ys) (row := z) (rows := fillW f z l i) (i := i) (pre := []) (by simpa using h1) hz
  simp only [List.length_nil,List.nil_append] at this
  rw [this]
  refine List.ext_getElem? (fun k => ?_)
  have e1 : l.take (i + 1) = l.take i ++ [x] := by rw [List.take_add_one, hx]; rfl
  simp only [fillW,e1,List.map_append,List.map_cons,List.map_nil,List.append_assoc]
  rw [List.getElem?_set]
  have hlen : ((l.take i).map f).length = i := by simp; omega
  by_cases e : i = k
  · subst e
    simp only [if_true]
    rw [List.getElem?_append_right (by omega), hlen]
    simp [hy]
    omega
  · simp only [e,if_false]
    by_cases hk : k < i
    · rw [List.getElem?_append_left (by omega), List.getElem?_append_left (by omega)]
    · rw [List.getElem?_append_right (by omega), List.getElem?_append_right (by omega), hlen]
      have : k - i = (k - i - 1) + 1 := by omega
      rw [this]
      simp only [List.cons_append,List.nil_append,List.getElem?_cons_succ,List.getElem?_replicate]
      have h5 : (k - i - 1 + 1 < l.length - i) = (k - i - 1 < l.length - (i + 1)) := by
        apply propext; omega
      simp only [h5]
theorem ro_map {α : Type} {f : α → List T} (h : ∀ x, (f x).map T.toRO = f x) (l : List α) : (l.map f).map (List.map T.toRO) = l.map f := by
  rw [List.map_map]
  exact List.map_congr_left (fun x _ => h x)
/-- A list that is a root of its own, handed out whole. -/
theorem take_whole {st : St} {r m sz len : Nat} {R : Root} (hr : st r = some R) (hb : R.box = false) (hs : R.sz = sz) (hl : R.rows.length = len) : takeCs st [.al r [] m sz 0 len] = some ([.v (.list true sz R.rows)], [(r, none)]) := by
  subst hs; subst hl
  have : takeV st (.al r [] m R.sz 0 R.rows.length) = some (.list true R.sz R.rows, [(r, none)]) := by
    simp [takeV,seek,hr,fresh,nav,hb,takenUp]
  simp [takeCs,takeC,this]
end Go.VM
namespace Go.VM
theorem take_map_len {α β : Type} (f : α → β) (l : List α) : (l.map f).take l.length = l.map f := by
  rw [List.take_of_length_le (by simp)]
theorem call_rx {P : Program} {fid : Nat} {o : Oper} {env : Nat → VV} {st : St} {c : Call} {g : Operand} {f : FuncId} {fn : Func} {caps : List (List T)} (ts : List TypeId) {xs : List VV}
    {args outs : List RT} (hf : P.funcs[f]? = some fn) (hruns : Runs P f args outs []) (hop : o.op = .call c) (hcal : c.callee = .value g) (hg : ev P env 0 g = .fn f caps) (hbody : fn.body.isNone = false) (hname : (fn.name == "runtime.NumGoroutine") = false)
    (hts : ts.length = c.args.size) (hxs : (c.args.toList.zip ts).map (fun p => ev P env p.2 p.1) ++ caps.map VV.rop = xs) (hl : lendAll st (xs.flatMap VV.cells) = some (rcells args))
    (hshape : shapes xs args = true) (hc1 : (rcells outs).all CT.clean = true) (hm : Nat.ble (rcells outs).length 1024 = true) (hn : Nat.ble (rcells args).length 1024 = true) :
    OpOk P fid o env st ⟨outL (rvv fid outs), cups fid (rcells outs)⟩ :=
  call_ro hop hcal hg hf hbody hname hts hxs hl rfl hshape hruns hc1 (Nat.le_of_ble_eq_true hm) (Nat.le_of_ble_eq_true hn)
end Go.VM
namespace Go.VM
theorem clean_map {α : Type} {f : α → List T} (h : ∀ x, cleanR (f x) = true) : ∀ l : List α, cleanRs (l.map f) = true
  | [] => rfl
  | x :: l => by simp [cleanRs,h x,clean_map h l]
end Go.VM
/- A closure is made: the variables that it holds are only read from then on. -/
namespace Go.VM
def dropU (F : List Nat) : Ups := F.map fun r => (r, none)
end Go.VM
/- From what a row says of the arguments to trees that are only read; from a walk to what a row asks. -/
namespace Go.VM
open Go.ChangeShapes Go.WideShapes Go.RowKit
def typedF (ty : TypeId → List T → Prop) : List TypeId → List T → Prop
  | [], ts => ts = []
  | f :: fs, ts => ∃ a b, ts = a ++ b ∧ ty f a ∧ typedF ty fs b
/-- Plain data of a type, as cells. -/
def typed (P : Program) : Nat → TypeId → List T → Prop
  | 0, _, _ => False
  | n + 1, t, ts =>
    match P.underlying t with
    | some .bool => ∃ b, ts = [.bool b]
    | some (.int k) => ∃ i, ts = [.int k i] ∧ (Lit.int k i).wf = true
    | some .string => ∃ s : ByteArray, ts = [.str s] ∧ s.size < 2 ^ 63
    | some (.slice e) => ∃ rows, ts = [.list false (P.cellsOf e) rows] ∧ rows.length < 2 ^ 63 ∧ ∀ r ∈ rows, typed P n e r
    | some (.struct fs) => typedF (typed P n) (fs.toList.map (·.type)) ts
    | _ => False
def contig (P : Program) : Nat → List Field → Option Nat
  | off, [] => some off
  | off, f :: fs => if f.offset = off then contig P (off + P.cellsOf f.type) fs else none
def plainTy (P : Program) : Nat → TypeId → Bool
  | 0, _ => false
  | n + 1, t =>
    match P.underlying t with
    | some .bool => true
    | some (.int _) => true
    | some .string => true
    | some (.slice e) => decide (0 < P.cellsOf e) && plainTy P n e
    | some (.struct fs) => decide (contig P 0 fs.toList = some (P.cellsOf t)) && fs.toList.all fun f => plainTy P n f.type
    | _ => false
theorem choose_list {α : Type} {Q : Nat → α → Prop} : ∀ (n : Nat), (∀ i, i < n → ∃ x, Q i x) → ∃ l : List α, l.length = n ∧ ∀ i x, l[i]? = some x → Q i x
  | 0, _ => ⟨[], rfl, fun i x h => by simp at h⟩
  | n + 1, h => by
    obtain ⟨l, h1, h2⟩ := choose_list n (fun i hi => h i (by omega))
    obtain ⟨x, hx⟩ := h n (by omega)
    refine ⟨l ++ [x], by simp [h1], fun i y hy => ?_⟩
    by_cases e : i < n
    · rw [List.getElem?_append_left (by omega)] at hy; exact h2 i y hy
    · rw [List.getElem?_append_right (by omega)] at hy
      have hi : i - l.length = 0 := by
        have := lt_of_getl hy
        simp at this
        omega
      rw [hi] at hy
      simp only [List.getElem?_cons_zero,Option.some.injEq] at hy
      subst hy
      have : i = n := by omega
      subst this
      exact hx
def Opens (W : World) (ts : List T) (cs : List Value) : Prop := ts.length = cs.length ∧ ∀ (j : Nat) (u : T) (v : Value), ts[j]? = some u → cs[j]? = some v → RepR W (fun _ => none) u v
theorem Opens.one {W : World} {u : T} {v : Value} (h : RepR W (fun _ => none) u v) : Opens W [u] [v] :=
  ⟨rfl, fun j a b ha hb => by
    cases j with
    | zero => simp at ha hb; subst ha; subst hb; exact h
    | succ j => simp at ha⟩
theorem Opens.append {W : World} {a b : List T} {c d : List Value} (h : Opens W a c) (k : Opens W b d) : Opens W (a ++ b) (c ++ d) :=
  ⟨by simp [h.1,k.1], fun j u v hu hv => by
    by_cases e : j < a.length
    · rw [List.getElem?_append_left e] at hu
      rw [List.getElem?_append_left (by rw [← h.1]; exact e)] at hv
      exact h.2 j u v hu hv
    · rw [List.getElem?_append_right (by omega)] at hu
      rw [List.getElem?_append_right (by rw [← h.1]; omega), ← h.1] at hv
      exact k.2 _ u v hu hv⟩
theorem open_cells {H : Type} {enc : TypeId × Value → H} {P : Program} {W : World} {sp : Nat → Bool} : ∀ (n : Nat) (t : TypeId) (cs : List Value) (fuel : Nat) (x : DataW H × List MemPlace), plainTy P n t = true →
    DataW.trod enc P W 0 sp true fuel t cs = some x → ∃ ts, typed P n t ts ∧ Opens W ts cs
  | 0, t, cs, fuel, x, hp, h => by simp [plainTy] at hp
  | n + 1, t, cs, fuel, x, hp, h => by
    simp only [plainTy] at hp
    simp only [typed]
    split at hp
    · rename_i hu
      obtain ⟨b, rfl, _⟩ := DataW.trod_bool hu h
      exact ⟨_, ⟨b, rfl⟩, Opens.one .bool⟩
    · rename_i k hu
      obtain ⟨i, rfl, _, hwf⟩ := DataW.trod_int hu h
      exact ⟨_, ⟨i, rfl, hwf⟩, Opens.one .int⟩
    · rename_i hu
      obtain ⟨s, rfl, _, hs⟩ := DataW.trod_string hu h
      exact ⟨_, ⟨s, rfl, by simp only [maxLen] at hs; omega⟩, Opens.one .str⟩
    · rename_i e hu
      simp only [Bool.and_eq_true,decide_eq_true_eq] at hp
      rcases DataW.trod_slice hu h with ⟨rfl, _⟩ | ⟨a, len, cap, elems, rest, m, _, rfl, _, _, hlc, hcm, hel, hget, _⟩
      · exact ⟨_, ⟨[], rfl, by simp, fun r hr => by cases hr⟩, Opens.one .nil⟩
      · have each : ∀ i, i < len → ∃ row, typed P n e row ∧ ∃ cs', W.cells? 0 (a.add (i * P.cellsOf e)) (P.cellsOf e) = some cs' ∧ Opens W row cs' := by
          intro i hi
          have h1 := hget i hi
          rw [List.getElem?_eq_getElem (by omega)] at h1
          simp only [Option.bind_eq_some_iff] at h1
          obtain ⟨cs', h2, h3⟩ := h1
          obtain ⟨row, h4, h5⟩ := open_cells n e cs' m _ hp.2 h3
          exact ⟨row, h4, cs', h2, h5⟩
        obtain ⟨rows, hrl, hrows⟩ := choose_list len each
        refine ⟨_, ⟨rows, rfl, by rw [hrl]; simp only [maxLen] at hcm; omega, fun r hr => ?_⟩, ?_⟩
        · obtain ⟨i, hi⟩ := List.getElem?_of_mem hr
          exact (hrows i r hi).1
        · refine Opens.one ?_
          rcases Nat.eq_zero_or_pos len with h0 | hpos
          · subst h0
            have : rows = [] := List.eq_nil_of_length_eq_zero hrl
            subst this
            exact .nil
          · have hsz := hp.1
            have hcell : ∀ i row, rows[i]? = some row → row.length = P.cellsOf e ∧ ∀ j u, row[j]? = some u → ∃ v, W.cell? ((a.add (i * P.cellsOf e)).add j) = some v ∧ RepR W (fun _ => none) u v := by
              intro i row hi
              obtain ⟨_, cs', h2, h3⟩ := hrows i row hi
              obtain ⟨_, hlen, hc⟩ := World.cells?_some h2
              refine ⟨h3.1.trans hlen, fun j u hu => ?_⟩
              have hj := lt_of_getl hu
              rw [h3.1] at hj
              have := hc j (by omega)
              rw [List.getElem?_eq_getElem hj] at this
              exact ⟨_, this, h3.2 j u _ hu (List.getElem?_eq_getElem hj)⟩
            obtain ⟨row0, hr0⟩ : ∃ r, rows[0]? = some r := ⟨_, List.getElem?_eq_getElem (by omega)⟩
            obtain ⟨hl0, hc0⟩ := hcell 0 row0 hr0
            obtain ⟨u0, hu0⟩ : ∃ u, row0[0]? = some u := ⟨_, List.getElem?_eq_getElem (by omega)⟩
            obtain ⟨v0, hv0, _⟩ := hc0 0 u0 hu0
            obtain ⟨b, off, spot⟩ := a
            have hspot : spot = none := by
              have := World.cell?_spot hv0
              cases spot with
              | none => rfl
              | some s => simp [Addr.add] at this
            subst hspot
            simp only [add_plain] at hcell hv0
            obtain ⟨c, e', z, hblk⟩ : ∃ c e' z, W.heap[b]? = some (.cells c e' z) := by
              unfold World.cell? at hv0
              split at hv0
              · rename_i c e' z hb; exact ⟨c, e', z, hb⟩
              · cases hv0
            have hread : ∀ o, W.cell? ⟨b, o, none⟩ = c[o]? := by
              intro o
              simp [World.cell?,hblk]
            refine .list (a := ⟨b, off, none⟩) rfl rfl hblk hrl.symm (by omega) ?_ (fun i row hi => (hcell i row hi).1) (fun i row j u hi hu => ?_)
            · obtain ⟨rowz, hrz⟩ : ∃ r, rows[len - 1]? = some r := ⟨_, List.getElem?_eq_getElem (by omega)⟩
              obtain ⟨hlz, hcz⟩ := hcell (len - 1) rowz hrz
              obtain ⟨uz, huz⟩ : ∃ u, rowz[P.cellsOf e - 1]? = some u := ⟨_, List.getElem?_eq_getElem (by omega)⟩
              obtain ⟨vz, hvz, _⟩ := hcz _ uz huz
              rw [hread] at hvz
              have := lt_of_get hvz
              have e1 : len * P.cellsOf e = (len - 1) * P.cellsOf e + P.cellsOf e := by
                have : len = (len - 1) + 1 := by omega
                rw [this, Nat.add_mul, Nat.one_mul]
                simp
              show off + len * P.cellsOf e ≤ c.size
              omega
            · obtain ⟨v, hv, hr⟩ := (hcell i row hi).2 j u hu
              rw [hread] at hv
              show RepR W (fun _ => none) u (c.getD (off + i * P.cellsOf e + j) undef)
              rw [Array.getD_eq_getD_getElem?, hv]
              exact hr
    · rename_i fs hu
      simp only [Bool.and_eq_true,decide_eq_true_eq,List.all_eq_true] at hp
      obtain ⟨xs, m, _, _, hlen, hxl, hf⟩ := DataW.trod_struct hu h
      have key : ∀ (l : List Field) (k off : Nat), fs.toList.drop k = l → contig P off l = some (P.cellsOf t) → (∀ f ∈ l, plainTy P n f.type = true) → ∃ ts, typedF (typed P n) (l.map (·.type)) ts ∧ Opens W ts (cs.drop off) := by
        intro l
        induction l with
        | nil =>
          intro k off _ hc _
          simp only [contig,Option.some.injEq] at hc
          refine ⟨[], rfl, ?_⟩
          rw [List.drop_eq_nil_of_le (by omega)]
          exact ⟨rfl, fun j u v hu => by simp at hu⟩
        | cons f l ih =>
          intro k off hd hc hpl
          simp only [contig] at hc
          split at hc
          · rename_i ho
            have hfk : fs[k]? = some f := by
              have : (fs.toList.drop k)[0]? = some f := by rw [hd]; rfl
              simpa using this
            have hk : k < xs.length := by rw [hxl]; exact (Array.getElem?_eq_some_iff.1 hfk).1
            have h1 := hf k f hfk
            rw [List.getElem?_eq_getElem hk] at h1
            obtain ⟨a, ha1, ha2⟩ := open_cells n f.type _ m _ (hpl f (by simp)) h1
            obtain ⟨b, hb1, hb2⟩ := ih (k + 1) (off + P.cellsOf f.type) (by
              have : (fs.toList.drop k).drop 1 = l := by rw [hd]; rfl
              simpa [List.drop_drop] using this) hc (fun g hg => hpl g (List.mem_cons_of_mem _ hg))
            refine ⟨a ++ b, ⟨a, b, rfl, ha1, hb1⟩, ?_⟩
            rw [ho] at ha2
            have := ha2.append hb2
            rwa [← List.drop_drop, List.take_append_drop] at this
          · cases hc
      have := key fs.toList 0 0 rfl hp.1 hp.2
      simpa using this
    · cases hp
/-- One argument, by its type. -/
theorem open_one {H : Type} {enc : TypeId × Value → H} {P : Program} {W : World} {sp : Nat → Bool} {n : Nat} {t : TypeId} {v : Value} {d : DataW H} {ps : List MemPlace} (hp : plainTy P n t = true) (h : DataW.Trod enc P W 0 sp true t v d ps) :
    ∃ ts, typed P n t ts ∧ Opens W ts v.cells.toList := by
  obtain ⟨fuel, h⟩ := h
  exact open_cells n t _ fuel _ hp h
theorem Opens.val {W : World} {u : T} {v : Value} (h : Opens W [u] [v]) : RepR W (fun _ => none) u v := h.2 0 u v rfl rfl
theorem map_of {α : Type} {f : α → List T} {Q : α → Prop} : ∀ {rows : List (List T)}, (∀ r ∈ rows, ∃ x, r = f x ∧ Q x) → ∃ l : List α, rows = l.map f ∧ ∀ x ∈ l, Q x
  | [], _ => ⟨[], rfl, fun x h => by cases h⟩
  | r :: rows, h => by
    obtain ⟨x, rfl, hx⟩ := h r (by simp)
    obtain ⟨l, rfl, hl⟩ := map_of (rows := rows) (fun r hr => h r (List.mem_cons_of_mem _ hr))
    exact ⟨x :: l, rfl, fun y hy => by
      rcases List.mem_cons.1 hy with e | e
      · subst e; exact hx
      · exact hl y e⟩
/-- What a law's walk says of the machine. -/
theorem calls_of_runs {P : Program} {f : FuncId} {args : List RT} {W : World} {vals : Array Value} (hruns : Runs P f args [.one (.v (.bool true))] []) (hro : cups 0 (rcells args) = [])
    (hrel : Each (RelV W (fun _ => none) (fun _ => (0, undef)) st0 (fun x => (rcells args).length ≤ x)) (rvv 0 args) vals) :
    Calls P f vals W fun e W' => e = .returned (.bool true) ∧ Below W.heap.size W W' := by
  have hst : st0.ups (cups 0 (rcells args)) = st0 := by rw [hro]; rfl
  refine (hruns W (fun _ => none) (fun _ => (0, undef)) vals ?_ ?_).mono fun e W' h => ?_
  · rw [hst]
    exact ⟨fun r R h => by simp [st0] at h, fun r R h => by simp [st0] at h, fun b ℓ h => by simp at h, fun r _ => rfl⟩
  · rw [hst]; exact hrel
  · obtain ⟨v, ow', bs', rfl, hs, _, hv, _⟩ := h
    have : v = .bool true := by
      have hv' : RelV W' ow' bs' (stOut [.one (.v (.bool true))] []) (fun _ => False) (.c (.bool true)) v := hv
      exact rel_bool hv'
    subst this
    exact ⟨rfl, hs.os, hs.tape, hs.output, hs.size, fun k hk => (hs.kept k rfl hk).1⟩
def okArgs (W : World) : List RT → List Value → Prop
  | [], [] => True
  | .one (.v x) :: as, v :: vs => isOwn x = false ∧ RepR W (fun _ => none) x v ∧ okArgs W as vs
  | .agg cs :: as, .agg us :: vs => (∃ ts : List T, cs = ts.map CT.v ∧ ts.all (fun x => !isOwn x) = true ∧ Opens W ts us.toList) ∧ okArgs W as vs
  | _, _ => False
theorem vv_plain {x : T} (h : isOwn x = false) (b : Nat) : (CT.v x).vv b = .c x ∧ (CT.v x).ups b = [] := by
  cases x with
  | list o sz es => cases o with
    | true => simp [isOwn] at h
    | false => exact ⟨rfl, rfl⟩
  | _ => exact ⟨rfl, rfl⟩
theorem cups_append : ∀ (a b : List CT) (n : Nat), cups n (a ++ b) = cups n a ++ cups (n + a.length) b
  | [], b, n => by simp [cups]
  | c :: a, b, n => by
    simp only [List.cons_append,cups,cups_append a b (n + 1),List.append_assoc,List.length_cons]
    rw [show n + 1 + a.length = n + (a.length + 1) from by omega]
theorem cups_plain : ∀ (ts : List T) (n : Nat), ts.all (fun x => !isOwn x) = true → cups n (ts.map CT.v) = []
  | [], n, _ => rfl
  | x :: ts, n, h => by
    simp only [List.all_cons,Bool.and_eq_true,Bool.not_eq_true'] at h
    simp only [List.map_cons,cups,(vv_plain h.1 n).2,cups_plain ts (n + 1) h.2,List.nil_append]
theorem cvv_plain : ∀ (ts : List T) (n : Nat), ts.all (fun x => !isOwn x) = true → cvv n (ts.map CT.v) = ts.map VV.c
  | [], n, _ => rfl
  | x :: ts, n, h => by
    simp only [List.all_cons,Bool.and_eq_true,Bool.not_eq_true'] at h
    simp only [List.map_cons,cvv,(vv_plain h.1 n).1,cvv_plain ts (n + 1) h.2]
theorem okArgs_rel {W : World} {fr : Nat → Prop} : ∀ {args : List RT} {vals : List Value} {b : Nat}, okArgs W args vals → (rvv b args).length = vals.length ∧ cups b (rcells args) = [] ∧
    ∀ (k : Nat) (x : VV), (rvv b args)[k]? = some x → RelV W (fun _ => none) (fun _ => (0, undef)) st0 fr x (vals.getD k undef)
  | [], [], b, h => ⟨rfl, rfl, fun k x hx => by simp [rvv] at hx⟩
  | [], v :: vs, b, h => by simp [okArgs] at h
  | .one (.v x) :: as, [], b, h => by simp [okArgs] at h
  | .one (.v x) :: as, v :: vs, b, h => by
    obtain ⟨h1, h2, h3⟩ := h
    obtain ⟨i1, i2, i3⟩ := okArgs_rel (b := b + 1) h3
    refine ⟨by simp [rvv,RT.cells,i1], ?_, fun k y hy => ?_⟩
    · have : rcells (.one (.v x) :: as) = [CT.v x] ++ rcells as := rfl
      rw [this, cups_append]
      simp only [cups,(vv_plain h1 b).2,List.nil_append,List.length_cons,List.length_nil,Nat.zero_add]
      exact i2
    · cases k with
      | zero =>
        simp only [rvv,RT.vv,(vv_plain h1 b).1,List.getElem?_cons_zero,Option.some.injEq] at hy
        subst hy
        exact .c h2
      | succ k => exact i3 k y (by simpa [rvv, RT.cells] using hy)
  | .one (.box _) :: as, vs, b, h => by cases vs <;> simp [okArgs] at h
  | .one (.ref _) :: as, vs, b, h => by cases vs <;> simp [okArgs] at h
  | .one (.fn _ _) :: as, vs, b, h => by cases vs <;> simp [okArgs] at h
  | .agg cs :: as, [], b, h => by simp [okArgs] at h
  | .agg cs :: as, v :: vs, b, h => by
    cases v with
    | agg us =>
      obtain ⟨⟨ts, rfl, h1, h2⟩, h3⟩ := h
      obtain ⟨i1, i2, i3⟩ := okArgs_rel (b := b + ts.length) h3
      refine ⟨by simp [rvv,RT.cells,i1], ?_, fun k y hy => ?_⟩
      · have : rcells (.agg (ts.map CT.v) :: as) = ts.map CT.v ++ rcells as := rfl
        rw [this, cups_append, cups_plain ts b h1]
        simpa using i2
      · cases k with
        | zero =>
          simp only [rvv,RT.vv,cvv_plain ts b h1,List.getElem?_cons_zero,Option.some.injEq] at hy
          subst hy
          refine .agg (by simpa using h2.1) (fun j z hz => ?_)
          rw [List.getElem?_map] at hz
          obtain ⟨u, hu, rfl⟩ := Option.map_eq_some_iff.1 hz
          have hj := lt_of_getl hu
          have hj' : j < us.size := by have := h2.1; simp at this; omega
          have := h2.2 j u us[j] hu (by simp [hj'])
          rw [Array.getD_eq_getD_getElem?, Array.getElem?_eq_getElem hj']
          exact .c this
        | succ k => exact i3 k y (by simpa [rvv, RT.cells] using hy)
    | _ => simp [okArgs] at h
theorem calls_of_ok {P : Program} {f : FuncId} {args : List RT} {W : World} {vals : List Value} (hruns : Runs P f args [.one (.v (.bool true))] []) (h : okArgs W args vals) :
    Calls P f vals.toArray W fun e W' => e = .returned (.bool true) ∧ Below W.heap.size W W' := by
  obtain ⟨h1, h2, h3⟩ := okArgs_rel (b := 0) (fr := fun x => (rcells args).length ≤ x) h
  refine calls_of_runs hruns h2 ⟨by simpa using h1, fun k x hx => ?_⟩
  have := h3 k x hx
  rwa [Array.getD_eq_getD_getElem?, List.getElem?_toArray, ← List.getD_eq_getElem?_getD]
theorem below_all {H : Type} {enc : TypeId × Value → H} {P : Program} {W W' : World} (hl : laidOutB P = true) (hb : Below W.heap.size W W') : ∀ {ts : List TypeId} {vs : List Value} {ds : List (DataW H)} {ps : List MemPlace},
    (ts.all fun t => P.readableRec t && decide (t < P.types.size)) = true → DataW.TrodAll enc P W 0 (fun _ => true) true ts vs ds ps → DataW.TrodAll enc P W' 0 (fun b => decide (b < W.heap.size)) true ts vs ds ps
  | [], vs, ds, ps, ht, h => by
    obtain ⟨rfl, rfl, rfl⟩ := trodAll_nil h
    exact rfl
  | t :: ts, vs, ds, ps, ht, h => by
    have hlt := h.lt
    obtain ⟨v, vs', d, ds', p, q, rfl, rfl, rfl, h1, h2⟩ := trodAll_cons h
    simp only [List.all_cons,Bool.and_eq_true,decide_eq_true_eq] at ht
    exact ⟨p, q, Below.trod hl ht.1.1 ht.1.2 h1 hb (fun x hx => hlt x (List.mem_append_left _ hx)), below_all hl hb (by simpa using ht.2) h2, rfl⟩
end Go.VM
/-! ### turned by -/
namespace Go.VM
attribute [go_sem] runV_cons runV_nil wantedV isCall vop ev lit tabE_cons tabE_nil dstE_tab dstE_none tabS_cons tabS_nil ups_tab ups_nil takeVs takeV VV.cells zeroV cellV rowV roV seek storeV filled isOwn nav modAt fresh loadV indexAddrV unheld sliceV boundV cutV lenV lenOk builtinV binV unV i64 dropU outL rvv RT.vv CT.vv cvv cups CT.ups rcells RT.cells List.flatMap_cons List.flatMap_nil cast0 Option.isSome_some Option.isSome_none Option.getD_some Option.getD_none Bool.not_true Bool.not_false Bool.false_eq_true Bool.and_self Bool.and_false Bool.false_and List.length_map if_true if_false ite_true ite_false true_and and_true and_self Nat.le_refl Nat.zero_le List.length_cons List.length_nil List.nil_append List.cons_append List.append_nil List.map_cons List.map_nil Option.map_some Option.bind_some List.getD_cons_zero List.getD_cons_succ List.set_cons_zero List.set_cons_succ List.drop_zero List.drop_succ_cons List.take_succ_cons List.take_zero List.getElem?_cons_zero List.getElem?_cons_succ List.all_cons List.all_nil List.isEmpty_nil List.isEmpty_cons Bool.true_and Bool.and_true Bool.true_or Bool.or_true Bool.false_or Bool.or_false Nat.zero_add Nat.add_zero false_implies true_implies implies_true not_true_eq_false not_false_eq_true ne_eq Nat.mul_zero chkE chkR renV renVs Ren.go Ren.from List.find?_cons List.find?_nil BEq.rfl beq_self_eq_true Option.map_none runW_cons runW_nil
end Go.VM
namespace Go.VM
attribute [go_sem_proc] Int.reduceToNat Int.reduceEq Int.reduceLT Int.reduceLE Int.reduceNeg Int.reduceSub Int.reduceAdd Nat.reduceEqDiff Nat.reduceAdd Nat.reduceMul Nat.reduceLT Nat.reduceLeDiff Nat.reduceBEq reduceCtorEq
attribute [go_sem_proc ↓] reduceIte
attribute [go_sem] ge_iff_le gt_iff_lt
end Go.VM
