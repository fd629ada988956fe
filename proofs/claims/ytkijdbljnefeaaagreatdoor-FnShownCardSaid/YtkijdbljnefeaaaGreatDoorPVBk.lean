/- Calls that turn lists which they are lent, and give them back; what is compared with nil. -/
import Derived.Test.YtkijdbljnefeaaaGreatDoorPVUse
import Derived.Laws.Cover3
set_option linter.unusedSimpArgs false
set_option linter.unusedVariables false
namespace Go.VM
theorem mergeCs_bs (st : St) : ∀ (a : List CT) (x : List VV) (rest : List VV) (cs : List CT), a.length = x.length → lendAll st rest = some cs → mergeCs st (a.map some ++ rest.map fun _ => (none : Option CT)) (x ++ rest) = some (a ++ cs)
  | [], [], rest, cs, _, h => by simpa using (merge_ro st rest).trans h
  | c :: a, y :: x, rest, cs, hl, h => by
    have := mergeCs_bs st a x rest cs (by simpa using hl) h
    simp only [List.map_cons,List.cons_append,mergeCs,this,Option.map_some]
  | [], y :: x, rest, cs, hl, h => by simp at hl
  | c :: a, [], rest, cs, hl, h => by simp at hl
/-- Begin: the parameters by a table; lists are given back. -/
theorem runs_tabB {P : Program} {f : FuncId} {fn : Func} {c : Code} {args outs : List RT} {back : List (Nat × Root)} {n k : Nat} {tab : List (Nat × VV)} {rts : List (Nat × Option Root)} (hf : P.funcs[f]? = some fn) (hb : fn.body = some c) (hnt : fn.ntmps = n) (hn : args.length ≤ n)
    (hk : (rcells args).length = k) (hE : ∀ t, envOf (rvv 0 args) t = tabE tab t) (hS : st0.ups (cups 0 (rcells args)) = tabS rts)
    (h : VW P n k c (endV P fn outs back k) ⟨tabE tab, tabS rts, k⟩) : Runs P f args outs back := by
  subst hnt
  subst hk
  refine runs_of_vw hf hb hn ?_
  rw [hS, show envOf (rvv 0 args) = tabE tab from funext hE]
  exact h
def backOk (st : St) (K : Nat) : List (Nat × Root) → Prop
  | [] => True
  | p :: l => (p.1 < K ∧ ∃ R, st p.1 = some R ∧ R.box = p.2.box ∧ R.sz = p.2.sz ∧ R.rows = p.2.rows) ∧ backOk st K l
theorem ret_b {P : Program} {fn : Func} {outs : List RT} {back : List (Nat × Root)} {K : Nat} {s : FS} {rs : List ResultVar} {vs : List VV} {u : Ups} (hrs : fn.results.toList = rs) (h1 : resV P s rs = some vs) (h2 : s.nx ≤ RB) (h3 : shapes vs outs = true) (h4 : takeCs s.st (vs.flatMap VV.cells) = some (rcells outs, u))
    (h5 : backOk (s.st.ups u) K back) : retV P fn outs back K s := by
  refine ⟨vs, by rw [hrs]; exact h1, h2, h3, u, h4, ?_⟩
  clear h4
  induction back with
  | nil => intro p hp; cases hp
  | cons q l ih =>
    intro p hp
    rcases List.mem_cons.1 hp with e | e
    · subst e; exact h5.1
    · exact ih h5.2 p e
end Go.VM
namespace Go.VM
/-- A slice that is only read is compared with nil: it may be nil where it is empty. -/
theorem vw_nil {P : Program} {n K id d1 d2 a0 T1 e : Nat} {o1 o2 : Oper} {y : Code} {Q : Exit → FS → Prop} {env : Nat → VV} {st : St} {nx sz : Nat} {rows : List (List T)} (hs : env a0 = .c (.list false sz rows)) (hu : P.underlying T1 = some (.slice e))
    (hop1 : o1.op = .move (.tmp a0)) (hd1 : o1.dst = some d1) (hg1 : o1.guard = none) (hop2 : ∃ t', o2.op = .binOp .eql T1 (.tmp d1) (.const (.slice none 0 0)) t') (hd2 : o2.dst = some d2) (hg2 : o2.guard = none) (hl : (decide (d1 < n) && decide (d2 < n)) = true)
    (h : ∀ b : Bool, (rows ≠ [] → b = false) → VW P n K y Q ⟨dstE (dstE env (some d1) (.c (.list false sz rows))) (some d2) (.c (.bool b)), st, nx⟩) : VW P n K (.seq (.region id (List.toArray [o1, o2]) false) y) Q ⟨env, st, nx⟩ := by
  simp only [Bool.and_eq_true,decide_eq_true_eq] at hl
  refine vw_seq ?_
  intro w ow bs a ha
  have hv : RelV w ow bs st (fun x => nx ≤ x) (.c (.list false sz rows)) (a.tmps.getD a0 undef) := by
    have := ha.env a0
    simp only [hs] at this
    exact this
  obtain ⟨p, len, cap, hval, hnil⟩ : ∃ p len cap, a.tmps.getD a0 undef = .slice p len cap ∧ (rows ≠ [] → p.isNone = false) := by
    generalize a.tmps.getD a0 undef = v at hv
    cases hv with
    | c h1 =>
      cases h1 with
      | nil => exact ⟨_, _, _, rfl, fun hne => absurd rfl hne⟩
      | list => exact ⟨_, _, _, rfl, fun _ => rfl⟩
  have hev : a.eval (.tmp a0) = .slice p len cap := hval
  have r1 : (execOp a.eval o1).run P w = .ok (.value (.slice p len cap)) w := by
    simp [execOp,hop1,hev]
  have hdt : (a.put (some d1) (.slice p len cap)).eval (.tmp d1) = .slice p len cap := by
    show (a.tmps.setIfInBounds d1 _).getD d1 undef = _
    rw [Array.getD_eq_getD_getElem?, Array.getElem?_setIfInBounds_self_of_lt (by rw [ha.size]; exact hl.1)]
    rfl
  have r2 : (execOp (a.put (some d1) (.slice p len cap)).eval o2).run P w = .ok (.value (.bool p.isNone)) w := by
    obtain ⟨t', hop2⟩ := hop2
    have he := run_equalIn_slice_nil (P := P) (w := w) 9999 T1 e p len cap hu
    have hc : (a.put (some d1) (.slice p len cap)).eval (.const (.slice none 0 0)) = .slice none 0 0 := rfl
    have hg : (eqGuard .eql T1 (.tmp d1) (.const (.slice none 0 0)) (.slice p len cap) (.slice none 0 0)).run P w = .ok () w := by simp [eqGuard]
    simp only [execOp,hop2,hdt,hc]
    simp [hg,binOp,Op.equal,Op.maxDepth,he]
  refine wp_region ?_
  have w1 : ∀ t, Region.wanted o1 t = true := fun t => by simp [Region.wanted,hg1]
  have w2 : ∀ t, Region.wanted o2 t = true := fun t => by simp [Region.wanted,hg2]
  have hk := h p.isNone hnil
  have fin : Post n K (thenV (VW P n K y Q) Q) w ow bs .normal ((a.put (some d1) (.slice p len cap)).put (some d2) (.bool p.isNone)) w := by
    refine ⟨⟨_, st, nx⟩, ow, bs, hk, Since.refl _ _ _ _, ⟨ha.rel, ?_, ?_, ?_, ha.old⟩⟩
    · show RelE w ow bs st (fun x => nx ≤ x) (dstE (dstE env (some d1) (.c (.list false sz rows))) (some d2) (.c (.bool p.isNone))) _
      have ha' : RelE w ow bs st (fun x => nx ≤ x) env a := ha.env
      refine RelE.put (RelE.put ha' ?_ (fun d hd => ?_)) (.c .bool) (fun d hd => ?_)
      · rw [← hval]; exact hv
      · simp only [Option.some.injEq] at hd; subst hd; rw [ha.size]; exact hl.1
      · simp only [Option.some.injEq] at hd; subst hd; rw [put_size, ha.size]; exact hl.2
    · rw [put_size, put_size]; exact ha.size
    · rw [put_defers, put_defers]; exact ha.defers
  have s2 : wpOps P (List.toArray [o1, o2]) (Post n K (thenV (VW P n K y Q) Q) w ow bs) [1] (a.put (some d1) (.slice p len cap)) w := by
    simp only [wpOps,List.getElem?_toArray,List.getElem?_cons_succ,List.getElem?_cons_zero,w2,if_true]
    refine .inl ?_
    unfold Oper.wp
    rw [r2, Oper.upon_value, hd2]
    exact fin
  show wpOps P (List.toArray [o1, o2]) _ [0, 1] a w
  simp only [wpOps,List.getElem?_toArray,List.getElem?_cons_succ,List.getElem?_cons_zero,w1,if_true] at s2 ⊢
  refine .inl ?_
  unfold Oper.wp
  rw [r1, Oper.upon_value, hd1]
  exact s2
end Go.VM
/-! ### variables that are only read from then on, and what lies in them -/
namespace Go.VM
def frzRoots (b : Nat) : Nat → List T → Ups
  | _, [] => []
  | j, .list true sz es :: xs => (b + j, some ⟨false, sz, es, []⟩) :: frzRoots b (j + 1) xs
  | j, _ :: xs => frzRoots b (j + 1) xs
def frzC (b j : Nat) : T → VV
  | .list true sz es => .al (b + j) [] 0 sz 0 es.length
  | .dead => .undef
  | .held _ sz es => .c (.list false sz es)
  | x => .c x
def frzV (b : Nat) : Nat → List T → List VV
  | _, [] => []
  | j, x :: xs => frzC b j x :: frzV b (j + 1) xs
end Go.VM
namespace Go.VM
attribute [go_sem] frzRoots frzV frzC
end Go.VM
namespace Go.VM
theorem handCs_own : ∀ {l : List VV} {st : St} {cs : List CT} {u : Ups}, takeCs st l = some (cs, u) → handCs st (l.map fun y => (Md.own, y)) = some (cs.map some, u, l.map fun _ => none)
  | [], st, cs, u, h => by
    simp only [takeCs,Option.some.injEq,Prod.mk.injEq] at h
    obtain ⟨rfl, rfl⟩ := h
    rfl
  | x :: xs, st, cs, u, h => by
    simp only [takeCs] at h
    split at h
    · rename_i y u1 h1
      split at h
      · rename_i ys us h2
        simp only [Option.some.injEq,Prod.mk.injEq] at h
        obtain ⟨rfl, rfl⟩ := h
        have ih := handCs_own h2
        simp only [List.map_cons,handCs,handC,h1,Option.map_some,ih]
      · cases h
    · cases h
/-- A call that takes all that it is handed for good. -/
theorem call_own {P : Program} {fid : Nat} {o : Oper} {env : Nat → VV} {st : St} {c : Call} {g : Operand} {f : FuncId} {fn : Func} (ts : List TypeId) (u : Ups) {xs : List VV}
    {args outs : List RT} (hf : P.funcs[f]? = some fn) (hruns : Runs P f args outs []) (hop : o.op = .call c) (hcal : c.callee = .value g) (hg : ev P env 0 g = .fn f []) (hbody : fn.body.isNone = false) (hname : (fn.name == "runtime.NumGoroutine") = false)
    (hts : ts.length = c.args.size) (hxs : (c.args.toList.zip ts).map (fun p => ev P env p.2 p.1) = xs) (hl : takeCs st (xs.flatMap VV.cells) = some (rcells args, u))
    (hshape : shapes xs args = true) (hc1 : (rcells outs).all CT.clean = true) (hm : Nat.ble (rcells outs).length 1024 = true) (hn : Nat.ble (rcells args).length 1024 = true) :
    OpOk P fid o env st ⟨outL (rvv fid outs), u ++ cups fid (rcells outs)⟩ := by
  have hflat : (((xs.map fun _ => Md.own).zip xs).flatMap fun p => p.2.cells.map fun y => (p.1, y)) = (xs.flatMap VV.cells).map fun y => (Md.own, y) := by
    clear hl hshape hxs
    induction xs with
    | nil => rfl
    | cons x xs ih => simp only [List.map_cons,List.zip_cons_cons,List.flatMap_cons,List.map_append,ih]
  have hlen : (rcells args).length = (xs.flatMap VV.cells).length := by
    have : ∀ {l : List VV} {st : St} {cs u}, takeCs st l = some (cs, u) → cs.length = l.length := by
      intro l
      induction l with
      | nil => intro st cs u h; simp only [takeCs,Option.some.injEq,Prod.mk.injEq] at h; rw [← h.1]; rfl
      | cons x l ih =>
        intro st cs u h
        simp only [takeCs] at h
        split at h
        · split at h
          · rename_i ys us h2
            simp only [Option.some.injEq,Prod.mk.injEq] at h
            rw [← h.1]; simp [ih h2]
          · cases h
        · cases h
    exact this hl
  have h := call_ok (P := P) (fid := fid) (o := o) (env := env) (st := st) (ms := xs.map fun _ => Md.own) (ys := (rcells args).map some) (u := u) (bk := (xs.flatMap VV.cells).map fun _ => none) (cs := rcells args) (B := []) (bu := []) (ts := ts) (xs := xs) (caps := [])
    hop hcal hg hf hbody hname (by simp [hxs]) hts (by simp) (by rw [hflat]; exact handCs_own hl)
    (by
      have := mergeCs_bs (st.ups u) (rcells args) (xs.flatMap VV.cells) [] [] hlen rfl
      simpa using this) hshape rfl (fun b hb => by cases hb) (by simp) (by simp) rfl hruns hc1 rfl (Nat.le_of_ble_eq_true hm) (Nat.le_of_ble_eq_true hn)
  simpa using h
end Go.VM
/-! ### lists handed over and given back, among plain values -/
namespace Go.VM
inductive BC where
  | b (r off : Nat) (R : Root) (new : List (List T))
  | o (bk : Bool) (t : T)
def BC.md : Bool → Md
  | true => .back
  | false => .ro
def BC.cc : BC → CT
  | .b _ _ R _ => .v (.list true R.sz R.rows)
  | .o _ t => .v t.toRO
def BC.us : List BC → Ups
  | [] => []
  | .b r _ _ _ :: l => (r, none) :: BC.us l
  | .o _ _ :: l => BC.us l
def BC.bk : Nat → List BC → Bk
  | _, [] => []
  | k, .b r _ R new :: l => (r, k, ⟨false, R.sz, new, []⟩) :: BC.bk (k + 1) l
  | k, .o _ _ :: l => BC.bk (k + 1) l
def BC.bu : List BC → Ups
  | [] => []
  | .b r _ R new :: l => (r, some ⟨false, R.sz, new, R.log ++ [[]]⟩) :: BC.bu l
  | .o _ _ :: l => BC.bu l
def BC.ok (st : St) : List BC → Prop
  | [] => True
  | .b r _ R new :: l => (st r = some R ∧ R.box = false ∧ cleanRs new = true) ∧ BC.ok st l
  | .o _ _ :: l => BC.ok st l
def BC.rs : List BC → List Nat
  | [] => []
  | .b r _ _ _ :: l => r :: BC.rs l
  | .o _ _ :: l => BC.rs l
attribute [go_sem] BC.us BC.bu
end Go.VM
/-! ### what is held; a pointer that is handed over and given back -/
namespace Go.VM
theorem runs_hold {P : Program} {f : FuncId} {sz : Nat} {es : List (List T)} {as outs : List RT} {back : List (Nat × Root)} (h : ∀ v, Runs P f (.one (.v (.held v sz es)) :: as) outs back) :
    Runs P f (.one (.v (.list false sz es)) :: as) outs back := by
  intro w ow bs vals hrel hin
  refine h (vals.getD 0 undef) w ow bs vals hrel ⟨hin.1, fun k x hx => ?_⟩
  cases k with
  | zero =>
    simp only [rvv,List.getElem?_cons_zero,Option.some.injEq] at hx
    subst hx
    have := hin.2 0 (.c (.list false sz es)) rfl
    cases this with | c h => exact .c (.held h)
  | succ k =>
    simp only [rvv,List.getElem?_cons_succ] at hx
    exact hin.2 (k + 1) x (by simp only [rvv,List.getElem?_cons_succ]; exact hx)
theorem mergeCs_ro' {st : St} : ∀ (l : List VV), mergeCs st (l.map fun _ => none) l = lendAll st l
  | [] => rfl
  | x :: l => by
    simp only [List.map_cons,mergeCs,lendAll,mergeCs_ro' l]
    cases lendC st x <;> rfl
theorem modes_ro : ∀ (xs : List VV), (((xs.map fun _ => Md.ro).zip xs).flatMap fun p => p.2.cells.map fun y => (p.1, y)) = (xs.flatMap VV.cells).map fun y => (Md.ro, y)
  | [] => rfl
  | x :: xs => by simp only [List.map_cons,List.zip_cons_cons,List.flatMap_cons,List.map_append,modes_ro xs]
/-- A call whose first argument is a pointer to a variable of one's own: it is turned, and given back; the rest is only read. -/
theorem call_pt {P : Program} {fid : Nat} {o : Oper} {env : Nat → VV} {st : St} {c : Call} {g : Operand} {f : FuncId} {fn : Func} {caps : List (List T)} (ts : List TypeId) (r : Nat) {m n : Nat} {row row' : List T} {lg : List Path} {sz0 : Nat} {xs : List VV} {cs : List CT}
    {args outs : List RT} (hf : P.funcs[f]? = some fn) (hruns : Runs P f args outs [(0, ⟨true, n, [row'], []⟩)]) (hop : o.op = .call c) (hcal : c.callee = .value g) (hg : ev P env 0 g = .fn f caps) (hbody : fn.body.isNone = false) (hname : (fn.name == "runtime.NumGoroutine") = false)
    (hts : ts.length = c.args.size) (hxs : (c.args.toList.zip ts).map (fun p => ev P env p.2 p.1) ++ caps.map VV.rop = .ptr r [] m 0 0 :: xs) (hst : st r = some ⟨true, sz0, [row], lg⟩)
    (hl : lendAll (st.put r none) (xs.flatMap VV.cells) = some cs) (hcs : rcells args = .box row :: cs)
    (hshape : shapes (.ptr r [] m 0 0 :: xs) args = true) (hc1 : ∀ c ∈ rcells outs, c.fine (Known st (.ptr r [] m 0 0 :: xs.flatMap VV.cells))) (hc2 : fineR (Known st (.ptr r [] m 0 0 :: xs.flatMap VV.cells)) row') (hm : Nat.ble (rcells outs).length 1024 = true) (hn : Nat.ble (rcells args).length 1024 = true) :
    OpOk P fid o env st ⟨outL (rvv fid outs), [(r, none), (r, some ⟨true, n, [row'], lg ++ [[]]⟩)] ++ cups fid (rcells outs)⟩ := by
  have hcells : (VV.ptr r [] m 0 0 :: xs).flatMap VV.cells = .ptr r [] m 0 0 :: xs.flatMap VV.cells := rfl
  have h := call_okH (P := P) (fid := fid) (o := o) (env := env) (st := st) (ms := .back :: xs.map fun _ => Md.ro) (ys := some (.box row) :: (xs.flatMap VV.cells).map fun _ => none) (u := [(r, none)]) (bk := some r :: (xs.flatMap VV.cells).map fun _ => none) (cs := .box row :: cs)
    (B := [(r, 0, ⟨true, n, [row'], []⟩)]) (bu := [(r, some ⟨true, n, [row'], lg ++ [[]]⟩)]) (ts := ts) (xs := .ptr r [] m 0 0 :: xs)
    hop hcal hg hf hbody hname hxs.symm hts (by simp)
    (by
      rw [List.zip_cons_cons, List.flatMap_cons, modes_ro]
      simp only [show (VV.ptr r [] m 0 0).cells = [VV.ptr r [] m 0 0] from rfl, List.map_cons, List.map_nil, List.singleton_append, handCs, handC, handBack, hst, if_true, handCs_ro, List.append_nil])
    (by
      rw [hcells]
      simp only [mergeCs,mergeCs_ro',St.ups_cons,St.ups_nil,hl,Option.map_some])
    hshape hcs (fun b hb => by simp only [List.mem_singleton] at hb; subst hb; rfl) (by simp) (by simp) (by simp only [backU,hst,Option.map_some]) hruns
    (by rw [hcells]; exact hc1) (fun b hb => by simp only [List.mem_singleton] at hb; subst hb; rw [hcells]; exact ⟨hc2, trivial⟩) (Nat.le_of_ble_eq_true hm) (by rw [hcs] at hn; exact Nat.le_of_ble_eq_true hn)
  simpa using h
end Go.VM
