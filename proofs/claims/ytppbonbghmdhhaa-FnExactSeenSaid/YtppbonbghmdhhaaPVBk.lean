/- Calls that turn lists which they are lent, and give them back; what is compared with nil. -/
import Derived.Test.YtppbonbghmdhhaaPVUse
import Derived.Laws.Cover3
namespace Go.VM
set_option linter.unusedSimpArgs false
set_option linter.unusedVariables false

theorem handCs_bs : ∀ {bs : List (Nat × Nat × Root)} {st : St} {rest : List VV}, (∀ b ∈ bs, st b.1 = some b.2.2 ∧ b.2.2.box = false) → (bs.map (·.1)).Nodup →
    handCs st (bs.map (fun b => (Md.back, VV.al b.1 [] b.2.1 b.2.2.sz 0 b.2.2.rows.length)) ++ rest.map fun y => (Md.ro, y)) =
      some (bs.map (fun b => some (CT.v (.list true b.2.2.sz b.2.2.rows))) ++ rest.map (fun _ => none), bs.map (fun b => (b.1, none)), bs.map (fun b => some b.1) ++ rest.map fun _ => none)
  | [], st, rest, _, _ => by simpa using handCs_ro st rest
  | b :: bs, st, rest, h, hn => by
    simp only [List.map_cons, List.nodup_cons] at hn
    have hb := h b (by simp)
    have ih := handCs_bs (bs := bs) (st := st.put b.1 none) (rest := rest) (fun c hc => by
      have hne : c.1 ≠ b.1 := fun e => hn.1 (List.mem_map.2 ⟨c, hc, e⟩)
      rw [St.put_ne _ _ hne]; exact h c (List.mem_cons_of_mem _ hc)) hn.2
    have h1 : handC st Md.back (VV.al b.1 [] b.2.1 b.2.2.sz 0 b.2.2.rows.length) = some (some (CT.v (.list true b.2.2.sz b.2.2.rows)), [(b.1, none)], some b.1) := by
      simp [handC, handBack, hb.1, hb.2]
    simp only [List.map_cons, List.cons_append, handCs, h1, St.ups_cons, St.ups_nil, ih]
    rfl

theorem mergeCs_bs (st : St) : ∀ (a : List CT) (x : List VV) (rest : List VV) (cs : List CT), a.length = x.length → lendAll st rest = some cs → mergeCs st (a.map some ++ rest.map fun _ => (none : Option CT)) (x ++ rest) = some (a ++ cs)
  | [], [], rest, cs, _, h => by simpa using (merge_ro st rest).trans h
  | c :: a, y :: x, rest, cs, hl, h => by
    have := mergeCs_bs st a x rest cs (by simpa using hl) h
    simp only [List.map_cons, List.cons_append, mergeCs, this, Option.map_some]
  | [], y :: x, rest, cs, hl, h => by simp at hl
  | c :: a, [], rest, cs, hl, h => by simp at hl

theorem backU_all {st : St} : ∀ {B : Bk} {Rs : List Root}, (∀ (k : Nat) b R, B[k]? = some b → Rs[k]? = some R → st b.1 = some R) → Rs.length = B.length → backU st B = some ((B.zip Rs).map fun p => (p.1.1, some { p.1.2.2 with log := p.2.log ++ [[]] }))
  | [], [], _, _ => rfl
  | b :: B, R :: Rs, h, hl => by
    have h0 := h 0 b R rfl rfl
    have ih := backU_all (st := st) (B := B) (Rs := Rs) (fun k b R hb hR => h (k + 1) b R (by simpa using hb) (by simpa using hR)) (by simpa using hl)
    simp only [backU, h0, ih, Option.map_some, List.zip_cons_cons, List.map_cons]
  | [], R :: Rs, _, hl => by simp at hl
  | b :: B, [], _, hl => by simp at hl

/-- Lists that are roots of their own are handed over first, turned, and given back. 'bs': the roots, and how they come back. -/
theorem call_bs {P : Program} {fid : Nat} {o : Oper} {env : Nat → VV} {st : St} {c : Call} {g : Operand} {f : FuncId} {fn : Func} {caps : List (List T)} (ts : List TypeId) (ms : List Md) (bs : List (Nat × Nat × Root)) (new : List (List (List T))) {rest : List VV} {cs : List CT} {xs : List VV}
    {args outs : List RT} (hf : P.funcs[f]? = some fn) (hruns : Runs P f args outs ((bs.zip new).zipIdx.map fun p => (p.2, ⟨false, p.1.1.2.2.sz, p.1.2, []⟩))) (hop : o.op = .call c) (hcal : c.callee = .value g) (hg : ev P env 0 g = .fn f caps) (hbody : fn.body.isNone = false) (hname : (fn.name == "runtime.NumGoroutine") = false)
    (hts : ts.length = c.args.size) (hxs : (c.args.toList.zip ts).map (fun p => ev P env p.2 p.1) ++ caps.map VV.rop = xs) (hms : ms.length = xs.length)
    (hflat : ((ms.zip xs).flatMap fun p => p.2.cells.map fun y => (p.1, y)) = bs.map (fun b => (Md.back, VV.al b.1 [] b.2.1 b.2.2.sz 0 b.2.2.rows.length)) ++ rest.map fun y => (Md.ro, y))
    (hbs : ∀ b ∈ bs, st b.1 = some b.2.2 ∧ b.2.2.box = false) (hnd : (bs.map (·.1)).Nodup) (hnl : new.length = bs.length)
    (hl : lendAll (st.ups (bs.map fun b => (b.1, none))) rest = some cs) (hcs : rcells args = bs.map (fun b => CT.v (.list true b.2.2.sz b.2.2.rows)) ++ cs)
    (hshape : shapes xs args = true) (hc1 : (rcells outs).all CT.clean = true) (hc2 : ∀ r ∈ new, cleanRs r = true) (hm : Nat.ble (rcells outs).length 1024 = true) (hn : Nat.ble (rcells args).length 1024 = true) :
    OpOk P fid o env st ⟨outL (rvv fid outs), bs.map (fun b => (b.1, none)) ++ (bs.zip new).map (fun p => (p.1.1, some ⟨false, p.1.2.2.sz, p.2, p.1.2.2.log ++ [[]]⟩)) ++ cups fid (rcells outs)⟩ := by
  have hcells : xs.flatMap VV.cells = bs.map (fun b => VV.al b.1 [] b.2.1 b.2.2.sz 0 b.2.2.rows.length) ++ rest := by
    have e1 := flat_modes hms
    rw [hflat, List.map_append, List.map_map, List.map_map] at e1
    have e3 : List.map ((fun x : Md × VV => x.2) ∘ fun y => (Md.ro, y)) rest = rest := List.map_id' rest
    rw [e3] at e1
    exact e1.symm
  obtain ⟨B, hBd⟩ : ∃ B : Bk, B = (bs.zip new).zipIdx.map fun p => (p.1.1.1, p.2, (⟨false, p.1.1.2.2.sz, p.1.2, []⟩ : Root)) := ⟨_, rfl⟩
  have hBget : ∀ (k : Nat) b, B[k]? = some b → ∃ x y, bs[k]? = some x ∧ new[k]? = some y ∧ b = (x.1, k, (⟨false, x.2.2.sz, y, []⟩ : Root)) := by
    intro k b hb
    simp only [hBd, List.getElem?_map, List.getElem?_zipIdx, Option.map_eq_some_iff] at hb
    obtain ⟨p, ⟨q, h1, rfl⟩, rfl⟩ := hb
    rw [List.getElem?_zip_eq_some] at h1
    exact ⟨q.1, q.2, h1.1, h1.2, by simp⟩
  have hBlen : B.length = bs.length := by simp [hBd, hnl]
  have hB1 : B.map (·.1) = bs.map (·.1) := by
    refine List.ext_getElem? (fun k => ?_)
    rw [List.getElem?_map, List.getElem?_map]
    cases hb : B[k]? with
    | none =>
      have : bs.length ≤ k := by rw [← hBlen]; exact List.getElem?_eq_none_iff.1 hb
      rw [List.getElem?_eq_none this]
      try rfl
    | some b =>
      obtain ⟨x, y, h1, h2, rfl⟩ := hBget k b hb
      rw [h1]; rfl
  have hB2 : B.map (·.2.1) = List.range bs.length := by
    refine List.ext_getElem? (fun k => ?_)
    rw [List.getElem?_map]
    cases hb : B[k]? with
    | none =>
      have : bs.length ≤ k := by rw [← hBlen]; exact List.getElem?_eq_none_iff.1 hb
      rw [List.getElem?_eq_none (by simpa using this)]; rfl
    | some b =>
      obtain ⟨x, y, h1, h2, rfl⟩ := hBget k b hb
      have := lt_of_getl h1
      simp [List.getElem?_range this]
  have hbu := backU_all (st := st) (B := B) (Rs := bs.map (·.2.2)) (fun k b R hb hR => by
    obtain ⟨x, y, h1, h2, rfl⟩ := hBget k b hb
    rw [List.getElem?_map, h1] at hR
    simp only [Option.map_some, Option.some.injEq] at hR
    subst hR
    exact (hbs x (List.mem_of_getElem? h1)).1) (by simp [hBlen])
  have hbuE : ((B.zip (bs.map (·.2.2))).map fun p => (p.1.1, some { p.1.2.2 with log := p.2.log ++ [[]] })) = (bs.zip new).map (fun p => (p.1.1, some (⟨false, p.1.2.2.sz, p.2, p.1.2.2.log ++ [[]]⟩ : Root))) := by
    refine List.ext_getElem? (fun k => ?_)
    rw [List.getElem?_map, List.getElem?_map]
    cases hb : B[k]? with
    | none =>
      have h1 : bs.length ≤ k := by rw [← hBlen]; exact List.getElem?_eq_none_iff.1 hb
      rw [List.getElem?_eq_none (by simp [hBlen]; omega), List.getElem?_eq_none (by simp; omega)]
      rfl
    | some b =>
      obtain ⟨x, y, h1, h2, rfl⟩ := hBget k b hb
      have e1 : (B.zip (bs.map (·.2.2)))[k]? = some ((x.1, k, (⟨false, x.2.2.sz, y, []⟩ : Root)), x.2.2) := List.getElem?_zip_eq_some.2 ⟨hb, by rw [List.getElem?_map, h1]; rfl⟩
      have e2 : (bs.zip new)[k]? = some (x, y) := List.getElem?_zip_eq_some.2 ⟨h1, h2⟩
      rw [e1, e2]; rfl
  have h := call_ok (P := P) (fid := fid) (o := o) (env := env) (st := st) (ms := ms) (ys := bs.map (fun b => some (CT.v (.list true b.2.2.sz b.2.2.rows))) ++ rest.map (fun _ => none)) (u := bs.map (fun b => (b.1, none))) (bk := bs.map (fun b => some b.1) ++ rest.map fun _ => none)
    (cs := bs.map (fun b => CT.v (.list true b.2.2.sz b.2.2.rows)) ++ cs) (B := B) (bu := (bs.zip new).map (fun p => (p.1.1, some (⟨false, p.1.2.2.sz, p.2, p.1.2.2.log ++ [[]]⟩ : Root)))) (ts := ts) (xs := xs)
    hop hcal hg hf hbody hname hxs.symm hts hms (by rw [hflat]; exact handCs_bs hbs hnd)
    (by
      rw [hcells]
      have := mergeCs_bs (st.ups (bs.map fun b => (b.1, none))) (bs.map (fun b => CT.v (.list true b.2.2.sz b.2.2.rows))) (bs.map (fun b => VV.al b.1 [] b.2.1 b.2.2.sz 0 b.2.2.rows.length)) rest cs (by simp) hl
      rw [List.map_map] at this
      exact this)
    hshape hcs (fun b hb => by
      obtain ⟨k, hk⟩ := List.getElem?_of_mem hb
      obtain ⟨x, y, h1, h2, rfl⟩ := hBget k b hk
      have hlt := lt_of_getl h1
      rw [List.getElem?_append_left (by simpa using hlt), List.getElem?_map, h1]
      rfl)
    (by rw [hB1]; exact hnd) (by rw [hB2]; exact List.nodup_range) (by rw [hbu, hbuE])
    (by
      have e : (B.map fun b => (b.2.1, b.2.2)) = ((bs.zip new).zipIdx.map fun p => (p.2, (⟨false, p.1.1.2.2.sz, p.1.2, []⟩ : Root))) := by rw [hBd, List.map_map]; rfl
      rw [e]; exact hruns)
    hc1 (by
      rw [List.all_eq_true]
      intro b hb
      obtain ⟨k, hk⟩ := List.getElem?_of_mem hb
      obtain ⟨x, y, h1, h2, rfl⟩ := hBget k b hk
      exact hc2 y (List.mem_of_getElem? h2)) (Nat.le_of_ble_eq_true hm) (by rw [← hcs]; exact Nat.le_of_ble_eq_true hn)
  exact h

/-- Begin: the parameters by a table; lists are given back. -/
theorem runs_tabB {P : Program} {f : FuncId} {fn : Func} {c : Code} {args outs : List RT} {back : List (Nat × Root)} {n k : Nat} {tab : List (Nat × VV)} {rts : List (Nat × Option Root)} (hf : P.funcs[f]? = some fn) (hb : fn.body = some c) (hnt : fn.ntmps = n) (hn : args.length ≤ n)
    (hk : (rcells args).length = k) (hE : ∀ t, envOf (rvv 0 args) t = tabE tab t) (hS : st0.ups (cups 0 (rcells args)) = tabS rts)
    (h : VW P n k c (endV P fn outs back k) ⟨tabE tab, tabS rts, k⟩) : Runs P f args outs back := by
  subst hnt
  subst hk
  refine runs_of_vw hf hb hn ?_
  rw [hS, show envOf (rvv 0 args) = tabE tab from funext hE]
  exact h

def backOk (st : St) (K : Nat) : List (Nat × Root) → Prop
  | [] => True
  | p :: l => (p.1 < K ∧ ∃ R, st p.1 = some R ∧ R.box = p.2.box ∧ R.sz = p.2.sz ∧ R.rows = p.2.rows) ∧ backOk st K l
theorem ret_b {P : Program} {fn : Func} {outs : List RT} {back : List (Nat × Root)} {K : Nat} {s : FS} {rs : List ResultVar} {vs : List VV} {u : Ups} (hrs : fn.results.toList = rs) (h1 : resV P s rs = some vs) (h2 : s.nx ≤ RB) (h3 : shapes vs outs = true) (h4 : takeCs s.st (vs.flatMap VV.cells) = some (rcells outs, u))
    (h5 : backOk (s.st.ups u) K back) : retV P fn outs back K s := by
  refine ⟨vs, by rw [hrs]; exact h1, h2, h3, u, h4, ?_⟩
  clear h4
  induction back with
  | nil => intro p hp; cases hp
  | cons q l ih =>
    intro p hp
    rcases List.mem_cons.1 hp with e | e
    · subst e; exact h5.1
    · exact ih h5.2 p e

/-- Rows that are turned one behind the other. -/
def rowsW (new : Nat → List T) (old : List (List T)) (i : Nat) : List (List T) := (List.range i).map new ++ old.drop i
theorem rowsW_zero (new : Nat → List T) (old : List (List T)) : rowsW new old 0 = old := by simp [rowsW]
theorem rowsW_len {new : Nat → List T} {old : List (List T)} {i : Nat} (h : i ≤ old.length) : (rowsW new old i).length = old.length := by simp [rowsW]; omega
theorem rowsW_end (new : Nat → List T) (old : List (List T)) : rowsW new old old.length = (List.range old.length).map new := by simp [rowsW]
theorem rowsW_get {new : Nat → List T} {old : List (List T)} {i : Nat} {x : List T} (h : old[i]? = some x) : (rowsW new old i).getD i [] = x := by
  rw [List.getD_eq_getElem?_getD, rowsW, List.getElem?_append_right (by simp)]
  simp [h]
theorem rowsW_set {new : Nat → List T} {old : List (List T)} {i : Nat} {ys : List T} (h : i < old.length) (hy : new i = ys) : (rowsW new old i).set i ys = rowsW new old (i + 1) := by
  subst hy
  have e : old.drop i = old[i] :: old.drop (i + 1) := List.drop_eq_getElem_cons h
  simp only [rowsW, List.range_succ, List.map_append, List.map_cons, List.map_nil, List.append_assoc]
  rw [List.set_append_right _ _ (by simp)]
  have e2 : i - (List.map new (List.range i)).length = 0 := by simp
  rw [e2, e]
  rfl
end Go.VM

namespace Go.VM
/-- A slice that is only read is compared with nil: it may be nil where it is empty. -/
theorem vw_nil {P : Program} {n K id d1 d2 a0 T1 e : Nat} {o1 o2 : Oper} {y : Code} {Q : Exit → FS → Prop} {env : Nat → VV} {st : St} {nx sz : Nat} {rows : List (List T)} (hs : env a0 = .c (.list false sz rows)) (hu : P.underlying T1 = some (.slice e))
    (hop1 : o1.op = .move (.tmp a0)) (hd1 : o1.dst = some d1) (hg1 : o1.guard = none) (hop2 : ∃ t', o2.op = .binOp .eql T1 (.tmp d1) (.const (.slice none 0 0)) t') (hd2 : o2.dst = some d2) (hg2 : o2.guard = none) (hl : (decide (d1 < n) && decide (d2 < n)) = true)
    (h : ∀ b : Bool, (rows ≠ [] → b = false) → VW P n K y Q ⟨dstE (dstE env (some d1) (.c (.list false sz rows))) (some d2) (.c (.bool b)), st, nx⟩) : VW P n K (.seq (.region id (List.toArray [o1, o2]) false) y) Q ⟨env, st, nx⟩ := by
  simp only [Bool.and_eq_true, decide_eq_true_eq] at hl
  refine vw_seq ?_
  intro w ow bs a ha
  have hv : RelV w ow bs st (fun x => nx ≤ x) (.c (.list false sz rows)) (a.tmps.getD a0 undef) := by
    have := ha.env a0
    simp only [hs] at this
    exact this
  obtain ⟨p, len, cap, hval, hnil⟩ : ∃ p len cap, a.tmps.getD a0 undef = .slice p len cap ∧ (rows ≠ [] → p.isNone = false) := by
    generalize a.tmps.getD a0 undef = v at hv
    cases hv with
    | c h1 =>
      cases h1 with
      | nil => exact ⟨_, _, _, rfl, fun hne => absurd rfl hne⟩
      | list => exact ⟨_, _, _, rfl, fun _ => rfl⟩
  have hev : a.eval (.tmp a0) = .slice p len cap := hval
  have r1 : (execOp a.eval o1).run P w = .ok (.value (.slice p len cap)) w := by
    simp [execOp, hop1, hev]
  have hdt : (a.put (some d1) (.slice p len cap)).eval (.tmp d1) = .slice p len cap := by
    show (a.tmps.setIfInBounds d1 _).getD d1 undef = _
    rw [Array.getD_eq_getD_getElem?, Array.getElem?_setIfInBounds_self_of_lt (by rw [ha.size]; exact hl.1)]
    rfl
  have r2 : (execOp (a.put (some d1) (.slice p len cap)).eval o2).run P w = .ok (.value (.bool p.isNone)) w := by
    obtain ⟨t', hop2⟩ := hop2
    have he := run_equalIn_slice_nil (P := P) (w := w) 9999 T1 e p len cap hu
    have hc : (a.put (some d1) (.slice p len cap)).eval (.const (.slice none 0 0)) = .slice none 0 0 := rfl
    have hg : (eqGuard .eql T1 (.tmp d1) (.const (.slice none 0 0)) (.slice p len cap) (.slice none 0 0)).run P w = .ok () w := by simp [eqGuard]
    simp only [execOp, hop2, hdt, hc]
    simp [hg, binOp, Op.equal, Op.maxDepth, he]
  refine wp_region ?_
  have w1 : ∀ t, Region.wanted o1 t = true := fun t => by simp [Region.wanted, hg1]
  have w2 : ∀ t, Region.wanted o2 t = true := fun t => by simp [Region.wanted, hg2]
  have hk := h p.isNone hnil
  have fin : Post n K (thenV (VW P n K y Q) Q) w ow bs .normal ((a.put (some d1) (.slice p len cap)).put (some d2) (.bool p.isNone)) w := by
    refine ⟨⟨_, st, nx⟩, ow, bs, hk, Since.refl _ _ _ _, ⟨ha.rel, ?_, ?_, ?_, ha.old⟩⟩
    · show RelE w ow bs st (fun x => nx ≤ x) (dstE (dstE env (some d1) (.c (.list false sz rows))) (some d2) (.c (.bool p.isNone))) _
      have ha' : RelE w ow bs st (fun x => nx ≤ x) env a := ha.env
      refine RelE.put (RelE.put ha' ?_ (fun d hd => ?_)) (.c .bool) (fun d hd => ?_)
      · rw [← hval]; exact hv
      · simp only [Option.some.injEq] at hd; subst hd; rw [ha.size]; exact hl.1
      · simp only [Option.some.injEq] at hd; subst hd; rw [put_size, ha.size]; exact hl.2
    · rw [put_size, put_size]; exact ha.size
    · rw [put_defers, put_defers]; exact ha.defers
  have s2 : wpOps P (List.toArray [o1, o2]) (Post n K (thenV (VW P n K y Q) Q) w ow bs) [1] (a.put (some d1) (.slice p len cap)) w := by
    simp only [wpOps, List.getElem?_toArray, List.getElem?_cons_succ, List.getElem?_cons_zero, w2, if_true]
    refine .inl ?_
    unfold Oper.wp
    rw [r2, Oper.upon_value, hd2]
    exact fin
  show wpOps P (List.toArray [o1, o2]) _ [0, 1] a w
  simp only [wpOps, List.getElem?_toArray, List.getElem?_cons_succ, List.getElem?_cons_zero, w1, if_true] at s2 ⊢
  refine .inl ?_
  unfold Oper.wp
  rw [r1, Oper.upon_value, hd1]
  exact s2
end Go.VM

/-! ### variables that are only read from then on, and what lies in them -/
namespace Go.VM

theorem kept_push {w : World} {ow : Own} (o : Obj) : Kept w ow (w.alloc o) ow := by
  intro b hb hlt
  refine ⟨?_, hb⟩
  show (w.heap.push o)[b]? = _
  rw [Array.getElem?_push, if_neg (by omega)]

/-- A new variable that is only read: the lists in it stay where they are. -/
theorem box_ro {P : Program} {fid : Nat} {o : Oper} {env : Nat → VV} {st : St} {e : TypeId} {x : Operand} {cs : List VV} (hop : o.op = .box e x) (hx : ev P env e x = .agg cs) : OpOk P fid o env st ⟨.bxv cs, []⟩ := by
  intro w ow bs fr a hr he hroom next Q hk
  have hv := ev_rel (P := P) he e x
  rw [hx] at hv
  generalize hz : a.eval x = z at hv
  cases hv with
  | @agg _ vs hl hh =>
  have hrun : (execOp a.eval o).run P w = .ok (.value (.pointer (some ⟨w.heap.size, 0, none⟩))) (w.alloc (.cells vs e)) := by
    simp [execOp, hop, hz, Instr.box, newVar, newRow, Value.cells]
  have hkept : Kept w ow (w.alloc (.cells vs e)) ow := kept_push _
  have hq : Quiet bs st fr bs st (minus fr fid) := Quiet.shrink (fun x hx => hx.1)
  have hnew : ow w.heap.size = none := by
    cases ho : ow w.heap.size with
    | none => rfl
    | some ℓ => have := (hr.own _ _ ho).2; omega
  have hsame : ∀ b ℓ, ow b = some ℓ → (w.alloc (.cells vs e)).heap[b]? = w.heap[b]? := by
    intro b ℓ hb
    have := (hr.own b ℓ hb).2
    show (w.heap.push _)[b]? = _
    rw [Array.getElem?_push, if_neg (by omega)]
  have hrel : Rel (w.alloc (.cells vs e)) ow bs st (minus fr fid) := by
    refine ⟨fun r R h => (hr.root r R h).move hkept ⟨fun b p hb => ⟨hsame b _ hb, hb⟩, fun _ => rfl⟩, hr.box, fun b ℓ hb => ?_, fun r h => hr.free r h.1⟩
    have := hr.own b ℓ hb
    refine ⟨fun hx => this.1 hx.1, ?_⟩
    show b < (w.heap.push _).size
    simp; omega
  have hn := hk (.pointer (some ⟨w.heap.size, 0, none⟩)) (w.alloc (.cells vs e)) ow bs ⟨hkept, by show w.heap.size ≤ (w.heap.push _).size; simp, rfl, rfl, rfl⟩ hrel ?_ hq
  · unfold Oper.wp
    rw [hrun, Oper.upon_value]; exact hn
  · refine .bxv (c := vs) (e := e) (z := (0, 0)) rfl hnew ?_ (by show 0 + cs.length ≤ vs.size; omega) (fun j y hy => ?_)
    · show (w.heap.push _)[w.heap.size]? = _
      simp
    · show RelV _ _ _ _ _ y (vs.getD (0 + j) undef)
      rw [Nat.zero_add]
      exact (hh j y hy).mono hkept hq

/-- A region whose first operation is given. -/
theorem vw_go1 {P : Program} {n K id : Nat} {o : Oper} {l : List Oper} {y : Code} {Q : Exit → FS → Prop} {env : Nat → VV} {st : St} {nx : Nat} {v : VV} {u : Ups} (hd : regOk n (o :: l) = true) (hg : o.guard = none) (h0 : OpOk P (nx + 1024 * 0) o env st ⟨v, u⟩)
    (h : runV P (o :: l).toArray nx 1 l (dstE env o.dst v) (st.ups u) (fun env st => VW P n K y Q ⟨env, st, nx + 65536⟩)) : VW P n K (.seq (.region id (o :: l).toArray false) y) Q ⟨env, st, nx⟩ := by
  simp only [regOk, Bool.and_eq_true, decide_eq_true_eq] at hd
  refine vw_seq (vw_region (by simpa using hd.1) ?_)
  refine runL_ok (by simp [wantedV, hg]) h0 (runV_runL (runV_mono (fun env st hk => ?_) h))
  exact vw_norm (norm_more (s := ⟨env, st, nx + 1024 * ((o :: l).toArray).size⟩) (N := nx + 65536) (by have := hd.2; simp only [List.size_toArray]; omega)) hk

def frzRoots (b : Nat) : Nat → List T → Ups
  | _, [] => []
  | j, .list true sz es :: xs => (b + j, some ⟨false, sz, es, []⟩) :: frzRoots b (j + 1) xs
  | j, _ :: xs => frzRoots b (j + 1) xs
def frzC (b j : Nat) : T → VV
  | .list true sz es => .al (b + j) [] 0 sz 0 es.length
  | .dead => .undef
  | .held _ sz es => .c (.list false sz es)
  | x => .c x
def frzV (b : Nat) : Nat → List T → List VV
  | _, [] => []
  | j, x :: xs => frzC b j x :: frzV b (j + 1) xs

theorem frzV_get {b : Nat} : ∀ {xs : List T} {k j : Nat} {y : VV}, (frzV b k xs)[j]? = some y → ∃ x, xs[j]? = some x ∧ y = frzC b (k + j) x
  | [], k, j, y, h => by simp [frzV] at h
  | x :: xs, k, j, y, h => by
    cases j with
    | zero => simp [frzV] at h; exact ⟨x, rfl, by simpa using h.symm⟩
    | succ j =>
      obtain ⟨z, h1, h2⟩ := frzV_get (xs := xs) (k := k + 1) (j := j) (by simpa [frzV] using h)
      exact ⟨z, by simpa using h1, by rw [h2, show k + 1 + j = k + (j + 1) from by omega]⟩
theorem frzV_length {b : Nat} : ∀ (xs : List T) (k : Nat), (frzV b k xs).length = xs.length
  | [], _ => rfl
  | x :: xs, k => by simp [frzV, frzV_length xs]
theorem frzRoots_get {b : Nat} : ∀ {xs : List T} {k : Nat} {st : St} {r : Nat} {R : Root}, (st.ups (frzRoots b k xs)) r = some R → (∃ j sz es, xs[j]? = some (.list true sz es) ∧ r = b + (k + j) ∧ R = ⟨false, sz, es, []⟩) ∨ st r = some R
  | [], k, st, r, R, h => .inr h
  | x :: xs, k, st, r, R, h => by
    have up : (∃ j sz es, xs[j]? = some (.list true sz es) ∧ r = b + (k + 1 + j) ∧ R = ⟨false, sz, es, []⟩) → (∃ j sz es, (x :: xs)[j]? = some (.list true sz es) ∧ r = b + (k + j) ∧ R = ⟨false, sz, es, []⟩) := by
      rintro ⟨j, sz, es, h1, h2, h3⟩
      exact ⟨j + 1, sz, es, by simpa using h1, by omega, h3⟩
    cases x with
    | list o sz es =>
      cases o with
      | true =>
        simp only [frzRoots, St.ups_cons] at h
        rcases frzRoots_get h with h | h
        · exact .inl (up h)
        · by_cases e : r = b + k
          · subst e
            simp only [St.put_eq, Option.some.injEq] at h
            exact .inl ⟨0, sz, es, rfl, rfl, h.symm⟩
          · rw [St.put_ne _ _ e] at h; exact .inr h
      | false =>
        simp only [frzRoots] at h
        rcases frzRoots_get h with h | h
        · exact .inl (up h)
        · exact .inr h
    | _ =>
      simp only [frzRoots] at h
      rcases frzRoots_get h with h | h
      · exact .inl (up h)
      · exact .inr h

/-- A variable of the frame's own is only read from now on; the lists in it become roots of their own. -/
theorem norm_freeze {n K : Nat} {env : Nat → VV} {st : St} {nx : Nat} (t0 : Nat) {r m sz : Nat} {row : List T} {log : List Path} (b : Nat) (ht : env t0 = .ptr r [] m 0 0) (hr : st r = some ⟨true, sz, [row], log⟩) (hb : nx ≤ b) :
    Norm n K ⟨env, st, nx⟩ ⟨dstE env (some t0) (.bxv (frzV b 0 row)), st.ups ((r, none) :: frzRoots b 0 row), b + row.length⟩ := by
  intro w ow bs a ha
  have hrel : Rel w ow bs st (fun x => nx ≤ x) := ha.rel
  have henv : RelE w ow bs st (fun x => nx ≤ x) env a := ha.env
  have hK : K ≤ nx := ha.old
  let owF : Own := fun x => match ow x with | some (r', q) => if r' = r then (match q with | (0, j) :: q' => if j < row.length then some (b + j, q') else none | _ => none) else some (r', q) | none => none
  let bsF : Base := fun ℓ => if b ≤ ℓ.1 ∧ ℓ.1 < b + row.length then bs (r, (0, ℓ.1 - b) :: ℓ.2) else bs ℓ
  have hkept : Kept w ow w owF := fun x hx _ => ⟨rfl, by simp [owF, hx]⟩
  have hold : ∀ x R, st x = some R → x < nx := by
    intro x R h
    rcases Nat.lt_or_ge x nx with h' | h'
    · exact h'
    · have := hrel.free x h'; rw [this] at h; cases h
  have hrlt := hold r _ hr
  have hbsN : ∀ j p, j < row.length → bsF (b + j, p) = bs (r, (0, j) :: p) := by
    intro j p hj
    simp only [bsF]
    rw [if_pos ⟨by omega, by omega⟩, show b + j - b = j from by omega]
  have hbsO : ∀ x p, x < nx → bsF (x, p) = bs (x, p) := by
    intro x p hx
    simp only [bsF]
    rw [if_neg (by omega)]
  have hstn : ∀ x R, (st.ups ((r, none) :: frzRoots b 0 row)) x = some R → (∃ j sz' es, row[j]? = some (.list true sz' es) ∧ x = b + j ∧ R = ⟨false, sz', es, []⟩) ∨ (st x = some R ∧ x ≠ r) := by
    intro x R h
    simp only [St.ups_cons] at h
    rcases frzRoots_get h with ⟨j, sz', es, h1, h2, h3⟩ | h
    · exact .inl ⟨j, sz', es, h1, by omega, h3⟩
    · by_cases e : x = r
      · subst e; simp at h
      · rw [St.put_ne _ _ e] at h; exact .inr ⟨h, e⟩
  have hrt := hrel.root r _ hr
  have hcell : ∃ (a0 : Addr) (l cap : Nat) (c : Array Value) (e : TypeId) (z : Nat × Nat), bs (r, []) = (sz, .slice (some a0) l cap) ∧ a0.spot = none ∧ ow a0.block = some (r, []) ∧ w.heap[a0.block]? = some (.cells c e z) ∧ a0.off + cap * sz ≤ c.size ∧ 1 ≤ cap ∧ row.length = sz ∧
      ∀ (j : Nat) (x : T), row[j]? = some x → RepT w ow bs (r, [(0, j)]) x (c.getD (a0.off + j) undef) := by
    have hb' := hrt.base
    generalize (bs (r, [])).2 = bv at hrt hb'
    cases hrt with
    | ro h => cases h
    | list base spot own blk free hlen hcap fits rows cells =>
      refine ⟨_, _, _, _, _, _, hb', spot, own, blk, fits, by simp at hlen; omega, rows 0 row rfl, fun j x hx => ?_⟩
      have := cells 0 row j x rfl hx
      simpa [Loc.at] using this
  obtain ⟨a0, l0, cap0, c, e0, z0, hbs, spot, own, blk, fits, hcap1, hrl, hcells⟩ := hcell
  have hsz : sz ≤ cap0 * sz := by
    have : 1 * sz ≤ cap0 * sz := Nat.mul_le_mul_right _ hcap1
    omega
  have hquiet : Quiet bs st (fun x => nx ≤ x) bsF (st.ups ((r, none) :: frzRoots b 0 row)) (fun x => b + row.length ≤ x) := by
    refine ⟨fun x hx => hbsO x [] (by omega), fun x p m hx hp hm hs => ?_, fun x R' hx h => ?_, fun x hx => by omega⟩
    · refine ⟨?_, hbsO x p (by omega)⟩
      rcases hs with hs | ⟨R, h1, h2⟩
      · exact absurd hs hp
      · rcases hstn x R h1 with ⟨j, _, _, _, rfl, _⟩ | ⟨h3, _⟩
        · omega
        · exact .inr ⟨R, h3, h2⟩
    · rcases hstn x R' h with ⟨j, _, _, _, rfl, _⟩ | ⟨h3, _⟩
      · omega
      · exact ⟨R', h3, Nat.le_refl _⟩
  refine ⟨owF, bsF, ⟨⟨hkept, Nat.le_refl _, rfl, rfl, rfl⟩, fun x hx => hbsO x [] (by omega)⟩, ⟨⟨?_, ?_, ?_, ?_⟩, ?_, ha.size, ha.defers, by show K ≤ b + row.length; omega⟩⟩
  · intro x R h
    rcases hstn x R h with ⟨j, sz', es, h1, rfl, rfl⟩ | ⟨h1, hne⟩
    · have hj := lt_of_getl h1
      rw [hbsN j [] hj]
      have hc := hcells j _ h1
      have hbase := hc.base
      have : RepT w owF bsF (b + j, []) (.list true sz' es) (c.getD (a0.off + j) undef) := by
        refine hc.move hkept ⟨fun y p hy => ⟨rfl, ?_⟩, fun p => ?_⟩
        · simp only [List.cons_append, List.nil_append] at hy
          simp only [owF, hy, if_true, hj, List.nil_append]
        · simp only [List.nil_append]; rw [hbsN j p hj]; rfl
      rw [hbase]; exact this
    · have hx := hold x R h1
      rw [hbsO x [] hx]
      refine (hrel.root x R h1).move hkept ⟨fun y p hy => ⟨rfl, ?_⟩, fun p => ?_⟩
      · simp only [List.nil_append] at hy ⊢
        simp only [owF, hy, hne, if_false]
      · simp only [List.nil_append]; exact hbsO x p hx
  · intro x R h hbx
    rcases hstn x R h with ⟨j, sz', es, h1, rfl, rfl⟩ | ⟨h1, hne⟩
    · cases hbx
    · have hx := hold x R h1
      rw [hbsO x [] hx]
      exact hrel.box x R h1 hbx
  · intro y ℓ hy
    simp only [owF] at hy
    split at hy
    · rename_i r' q ho
      have hown := hrel.own y _ ho
      split at hy
      · split at hy
        · split at hy
          · simp only [Option.some.injEq] at hy
            subst hy
            exact ⟨by show ¬ (b + row.length ≤ b + _); omega, hown.2⟩
          · cases hy
        · cases hy
      · simp only [Option.some.injEq] at hy
        subst hy
        have h1 := hown.1
        simp only at h1
        exact ⟨by show ¬ (b + row.length ≤ r'); omega, hown.2⟩
    · cases hy
  · intro x hx
    cases h : (st.ups ((r, none) :: frzRoots b 0 row)) x with
    | none => exact h
    | some R =>
      have hx' : b + row.length ≤ x := hx
      rcases hstn x R h with ⟨j, sz', es, h1, rfl, rfl⟩ | ⟨h1, hne⟩
      · have := lt_of_getl h1; omega
      · have := hold x R h1; omega
  · show RelE w owF bsF (st.ups ((r, none) :: frzRoots b 0 row)) (fun x => b + row.length ≤ x) (dstE env (some t0) (.bxv (frzV b 0 row))) a
    intro t
    simp only [dstE, setE]
    split
    · rename_i et
      subst et
      have hp := henv t
      rw [ht] at hp
      generalize a.tmps.getD t undef = v at hp ⊢
      cases hp with
      | ptr hf hh hv hm =>
        obtain ⟨a1, l1, c1, e1, rfl⟩ := hh (.inl rfl)
        rw [hbs] at e1
        simp only [Value.slice.injEq, Option.some.injEq] at e1
        obtain ⟨rfl, rfl, rfl⟩ := e1
        rw [hbs]
        simp only [Nat.zero_mul, Nat.add_zero]
        refine .bxv (c := c) (e := e0) (z := z0) rfl (by simp [owF, own]) blk (by rw [frzV_length]; show a0.off + row.length ≤ c.size; omega) (fun j y hy => ?_)
        obtain ⟨x, hx, rfl⟩ := frzV_get hy
        simp only [Nat.zero_add]
        have hj := lt_of_getl hx
        have hc := hcells j x hx
        have hcv : RelV w ow bs st (fun x => nx ≤ x) (cellV r [] log.length 0 j x) (c.getD (a0.off + j) undef) := cellV_rel (p := []) (i := 0) (j := j) hrel hr hc
        have plain : RelV w ow bs st (fun x => nx ≤ x) (.c x) (c.getD (a0.off + j) undef) → RelV w owF bsF (st.ups ((r, none) :: frzRoots b 0 row)) (fun x => b + row.length ≤ x) (.c x) (c.getD (a0.off + j) undef) := fun h => h.mono hkept hquiet
        cases x with
        | dead => exact .undef
        | int k n => exact plain hcv
        | bool q => exact plain hcv
        | str q => exact plain hcv
        | held v' sz' es => exact hcv.mono hkept hquiet
        | list o sz' es =>
          cases o with
          | false => exact plain hcv
          | true =>
            simp only [cellV, List.nil_append] at hcv
            cases hcv with
            | al hf2 hh2 hv2 hm2 =>
              obtain ⟨q1, q2⟩ := hh2 (.inr ⟨_, hr, by simp [fresh]⟩)
              refine .al (by omega) (fun _ => ?_) hv2 (fun _ _ => Nat.zero_le _)
              rw [hbsN j [] hj]
              exact ⟨q1, q2⟩
    · exact (henv t).mono hkept hquiet
end Go.VM
namespace Go.VM
attribute [go_sem] frzRoots frzV frzC
end Go.VM

namespace Go.VM
end Go.VM

/-! ### lists handed over and given back, among plain values -/
namespace Go.VM
inductive BC where
  | b (r off : Nat) (R : Root) (new : List (List T))
  | o (bk : Bool) (t : T)
def BC.md : Bool → Md
  | true => .back
  | false => .ro
def BC.mc : BC → Md × VV
  | .b r off R _ => (.back, .al r [] off R.sz 0 R.rows.length)
  | .o k t => (BC.md k, .c t)
def BC.yc : BC → Option CT
  | .b _ _ R _ => some (.v (.list true R.sz R.rows))
  | .o _ _ => none
def BC.bc : BC → Option Nat
  | .b r _ _ _ => some r
  | .o _ _ => none
def BC.cc : BC → CT
  | .b _ _ R _ => .v (.list true R.sz R.rows)
  | .o _ t => .v t.toRO
def BC.us : List BC → Ups
  | [] => []
  | .b r _ _ _ :: l => (r, none) :: BC.us l
  | .o _ _ :: l => BC.us l
def BC.bk : Nat → List BC → Bk
  | _, [] => []
  | k, .b r _ R new :: l => (r, k, ⟨false, R.sz, new, []⟩) :: BC.bk (k + 1) l
  | k, .o _ _ :: l => BC.bk (k + 1) l
def BC.bu : List BC → Ups
  | [] => []
  | .b r _ R new :: l => (r, some ⟨false, R.sz, new, R.log ++ [[]]⟩) :: BC.bu l
  | .o _ _ :: l => BC.bu l
def BC.ok (st : St) : List BC → Prop
  | [] => True
  | .b r _ R new :: l => (st r = some R ∧ R.box = false ∧ cleanRs new = true) ∧ BC.ok st l
  | .o _ _ :: l => BC.ok st l
def BC.rs : List BC → List Nat
  | [] => []
  | .b r _ _ _ :: l => r :: BC.rs l
  | .o _ _ :: l => BC.rs l

theorem BC.ok_put {st : St} {r : Nat} : ∀ {l : List BC}, r ∉ BC.rs l → BC.ok st l → BC.ok (st.put r none) l
  | [], _, _ => trivial
  | .b r' off R new :: l, hn, h => by
    simp only [BC.rs, List.mem_cons, not_or] at hn
    refine ⟨⟨?_, h.1.2⟩, BC.ok_put hn.2 h.2⟩
    rw [St.put_ne _ _ (fun e => hn.1 e.symm)]; exact h.1.1
  | .o _ _ :: l, hn, h => BC.ok_put (l := l) hn h

theorem handCs_bc : ∀ {l : List BC} {st : St}, BC.ok st l → (BC.rs l).Nodup → handCs st (l.map BC.mc) = some (l.map BC.yc, BC.us l, l.map BC.bc)
  | [], st, _, _ => rfl
  | .b r off R new :: l, st, h, hn => by
    simp only [BC.rs, List.nodup_cons] at hn
    have ih := handCs_bc (l := l) (st := st.put r none) (BC.ok_put hn.1 h.2) hn.2
    have h1 : handC st (BC.mc (.b r off R new)).1 (BC.mc (.b r off R new)).2 = some (some (CT.v (.list true R.sz R.rows)), [(r, none)], some r) := by
      simp [BC.mc, handC, handBack, h.1.1, h.1.2.1]
    simp only [List.map_cons, handCs, h1, St.ups_cons, St.ups_nil, ih]
    rfl
  | .o k t :: l, st, h, hn => by
    have ih := handCs_bc (l := l) (st := st) h hn
    have h1 : handC st (BC.mc (.o k t)).1 (BC.mc (.o k t)).2 = some (none, [], none) := by
      cases k <;> rfl
    simp only [List.map_cons, handCs, h1, St.ups_nil, ih]
    rfl

theorem mergeCs_bc (st : St) : ∀ (l : List BC), mergeCs st (l.map BC.yc) (l.map fun b => b.mc.2) = some (l.map BC.cc)
  | [] => rfl
  | .b r off R new :: l => by
    simp only [List.map_cons, BC.yc, mergeCs, mergeCs_bc st l, Option.map_some, BC.cc]
  | .o k t :: l => by
    show Option.map (fun x => CT.v t.toRO :: x) (mergeCs st (l.map BC.yc) (l.map fun b => b.mc.2)) = _
    rw [mergeCs_bc st l]; rfl

theorem bk_rs : ∀ (k : Nat) (l : List BC), (BC.bk k l).map (·.1) = BC.rs l
  | _, [] => rfl
  | k, .b r off R new :: l => by simp only [BC.bk, BC.rs, List.map_cons, bk_rs (k + 1) l]
  | k, .o _ _ :: l => by simp only [BC.bk, BC.rs, bk_rs (k + 1) l]
theorem bk_ge : ∀ (k : Nat) (l : List BC), ∀ b ∈ BC.bk k l, k ≤ b.2.1
  | _, [], b, hb => by cases hb
  | k, .b r off R new :: l, b, hb => by
    simp only [BC.bk, List.mem_cons] at hb
    rcases hb with rfl | hb
    · exact Nat.le_refl _
    · have := bk_ge (k + 1) l b hb; omega
  | k, .o _ _ :: l, b, hb => by
    have := bk_ge (k + 1) l b hb; omega
theorem bk_nd : ∀ (k : Nat) (l : List BC), ((BC.bk k l).map (·.2.1)).Nodup
  | _, [] => List.nodup_nil
  | k, .b r off R new :: l => by
    simp only [BC.bk, List.map_cons, List.nodup_cons]
    refine ⟨fun h => ?_, bk_nd (k + 1) l⟩
    obtain ⟨b, hb, e⟩ := List.mem_map.1 h
    have := bk_ge (k + 1) l b hb; omega
  | k, .o _ _ :: l => bk_nd (k + 1) l
theorem bk_at : ∀ (l : List BC) (k : Nat) (b : Nat × Nat × Root), b ∈ BC.bk k l → (l.map BC.bc)[b.2.1 - k]? = some (some b.1)
  | [], k, b, hb => by cases hb
  | .b r off R new :: l, k, b, hb => by
    simp only [BC.bk, List.mem_cons] at hb
    rcases hb with rfl | hb
    · simp [BC.bc]
    · have h1 := bk_ge (k + 1) l b hb
      have h2 := bk_at l (k + 1) b hb
      have e : b.2.1 - k = (b.2.1 - (k + 1)) + 1 := by omega
      rw [e, List.map_cons, List.getElem?_cons_succ]; exact h2
  | .o _ _ :: l, k, b, hb => by
    have h1 := bk_ge (k + 1) l b hb
    have h2 := bk_at l (k + 1) b hb
    have e : b.2.1 - k = (b.2.1 - (k + 1)) + 1 := by omega
    rw [e, List.map_cons, List.getElem?_cons_succ]; exact h2
theorem bk_bu {st : St} : ∀ {l : List BC} {k : Nat}, BC.ok st l → backU st (BC.bk k l) = some (BC.bu l)
  | [], _, _ => rfl
  | .b r off R new :: l, k, h => by
    simp only [BC.bk, backU, h.1.1, bk_bu (l := l) (k := k + 1) h.2, Option.map_some, BC.bu]
  | .o _ _ :: l, k, h => bk_bu (l := l) (k := k + 1) h
theorem bk_clean {st : St} : ∀ {l : List BC} {k : Nat}, BC.ok st l → (BC.bk k l).all (fun b => cleanRs b.2.2.rows) = true
  | [], _, _ => rfl
  | .b r off R new :: l, k, h => by
    simp only [BC.bk, List.all_cons, h.1.2.2, bk_clean (l := l) (k := k + 1) h.2, Bool.and_true]
  | .o _ _ :: l, k, h => bk_clean (l := l) (k := k + 1) h

theorem call_bm {P : Program} {fid : Nat} {o : Oper} {env : Nat → VV} {st : St} {c : Call} {g : Operand} {f : FuncId} {fn : Func} (ts : List TypeId) (ms : List Md) (l : List BC) {xs : List VV}
    {args outs : List RT} (hf : P.funcs[f]? = some fn) (hruns : Runs P f args outs ((BC.bk 0 l).map fun b => (b.2.1, b.2.2))) (hop : o.op = .call c) (hcal : c.callee = .value g) (hg : ev P env 0 g = .fn f []) (hbody : fn.body.isNone = false) (hname : (fn.name == "runtime.NumGoroutine") = false)
    (hts : ts.length = c.args.size) (hxs : (c.args.toList.zip ts).map (fun p => ev P env p.2 p.1) = xs) (hms : ms.length = xs.length)
    (hflat : ((ms.zip xs).flatMap fun p => p.2.cells.map fun y => (p.1, y)) = l.map BC.mc) (hok : BC.ok st l) (hnd : (BC.rs l).Nodup)
    (hcs : rcells args = l.map BC.cc) (hshape : shapes xs args = true) (hc1 : (rcells outs).all CT.clean = true) (hm : Nat.ble (rcells outs).length 1024 = true) (hn : Nat.ble (rcells args).length 1024 = true) :
    OpOk P fid o env st ⟨outL (rvv fid outs), BC.us l ++ BC.bu l ++ cups fid (rcells outs)⟩ := by
  have hcells : xs.flatMap VV.cells = l.map fun b => b.mc.2 := by
    have e1 := flat_modes hms
    rw [hflat, List.map_map] at e1
    exact e1.symm
  refine call_ok (P := P) (fid := fid) (o := o) (env := env) (st := st) (ms := ms) (ys := l.map BC.yc) (u := BC.us l) (bk := l.map BC.bc) (cs := l.map BC.cc) (B := BC.bk 0 l) (bu := BC.bu l) (ts := ts) (xs := xs) (caps := [])
    hop hcal hg hf hbody hname (by rw [← hxs]; simp) hts hms (by rw [hflat]; exact handCs_bc hok hnd) (by rw [hcells]; exact mergeCs_bc _ l) hshape hcs (fun b hb => bk_at l 0 b hb) (by rw [bk_rs]; exact hnd) (bk_nd 0 l) (bk_bu hok) hruns hc1 (bk_clean hok) (Nat.le_of_ble_eq_true hm) ?_
  rw [← hcs]; exact Nat.le_of_ble_eq_true hn
attribute [go_sem] BC.us BC.bu
end Go.VM

/-! ### what is held; a pointer that is handed over and given back -/
namespace Go.VM
end Go.VM
