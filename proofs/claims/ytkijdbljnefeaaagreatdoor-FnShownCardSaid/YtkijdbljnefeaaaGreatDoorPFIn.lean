/- What all walks of this seat lean on. Regions of open order with many operations: what is ahead of each given as a list, and checked. A number between two numbers. -/
import Derived.Test.YtkijdbljnefeaaaGreatDoorPFacts
set_option linter.unusedSimpArgs false
set_option linter.unusedVariables false
namespace Go.Proofs.YtkijdbljnefeaaaGreatDoor
open Go.VM
attribute [go_sem] copyV List.zip_cons_cons List.zip_nil_left List.zip_nil_right or_false false_or or_self or_true true_or and_false false_and fillV VV.solid partV appendV rowsOf noOwn plainT atEnd strRows rowEq scalEq fitD decide_true decide_false List.getElem?_toArray  Bool.true_beq Bool.false_beq takenUp take_map_len List.getLast?_nil List.getLast?_singleton List.dropLast_singleton List.isPrefixOf_nil_left List.isPrefixOf_cons₂
theorem mixed : Tryz.prog.follows .mixedOrders = true := by kernel_rfl
theorem sz_lit (a : Array UInt8) : ByteArray.size ⟨a⟩ = a.size := rfl
/-- The first place, or -1. -/
def idxOf {α : Type} (p : α → Bool) : List α → Nat → Int
  | [], _ => -1
  | x :: l, i => if p x then (i : Int) else idxOf p l (i + 1)
theorem idxOf_any {α : Type} (p : α → Bool) : ∀ (l : List α) (i : Nat), decide (0 ≤ idxOf p l i) = l.any p
  | [], i => by simp [idxOf]
  | x :: l, i => by
    have ih := idxOf_any p l (i + 1)
    by_cases h : p x = true
    · have e : idxOf p (x :: l) i = (i : Int) := by simp only [idxOf,h,if_true]
      simp [e,h]
    · have h' : p x = false := by simpa using h
      have e : idxOf p (x :: l) i = idxOf p l (i + 1) := by simp only [idxOf,h',Bool.false_eq_true,if_false]
      simp only [e,List.any_cons,h',Bool.false_or]
      exact ih
def inB (x lo hi : Int) : Bool := decide (lo ≤ x) && decide (x ≤ hi)
end Go.Proofs.YtkijdbljnefeaaaGreatDoor
namespace Go.VM
theorem ret_by {P : Program} {fn : Func} {outs : List RT} {K : Nat} {s : FS} {rs : List ResultVar} {vs : List VV} (hrs : fn.results.toList = rs) (h1 : resV P s rs = some vs) (h2 : s.nx ≤ RB) (h3 : shapes vs outs = true) (h4 : (takeCs s.st (vs.flatMap VV.cells)).map (·.1) = some (rcells outs)) :
    retV P fn outs [] K s := by
  obtain ⟨p, hp, e⟩ := Option.map_eq_some_iff.1 h4
  obtain ⟨a, u⟩ := p
  simp only at e
  subst e
  exact ret_of hrs h1 h2 h3 hp
theorem call_rx_at {P : Program} {fid : Nat} {o : Oper} {env : Nat → VV} {st : St} {c : Call} {g : Operand} {f : FuncId} {fn : Func} {caps : List (List T)} (ts : List TypeId) (rd : List Nat) {xs : List VV}
    {args outs : List RT} (hf : P.funcs[f]? = some fn) (hruns : Runs P f args outs []) (hop : o.op = .call c) (hcal : c.callee = .value g) (hg : ev P env 0 g = .fn f caps) (hbody : fn.body.isNone = false) (hname : (fn.name == "runtime.NumGoroutine") = false)
    (hts : ts.length = c.args.size) (hxs : (c.args.toList.zip ts).map (fun p => ev P env p.2 p.1) ++ caps.map VV.rop = xs) (hl : ∀ st' : St, (∀ r ∈ rd, st' r = st r) → lendAll st' (xs.flatMap VV.cells) = some (rcells args))
    (hshape : shapes xs args = true) (hc1 : (rcells outs).all CT.clean = true) (hm : Nat.ble (rcells outs).length 1024 = true) (hn : Nat.ble (rcells args).length 1024 = true) :
    OpAt P fid o rd env st ⟨outL (rvv fid outs), cups fid (rcells outs)⟩ :=
  call_ro_at hop hcal hg hf hbody hname hts hxs hl rfl hshape hruns hc1 (Nat.le_of_ble_eq_true hm) (Nat.le_of_ble_eq_true hn)
theorem vw_draw_last {P : Program} {n K id : Nat} {l : List Oper} {Q : Exit → FS → Prop} {env : Nat → VV} {st : St} {nx : Nat} (hm : P.follows .mixedOrders = true) (hd : regOk n l = true) (he : edgesOk l.toArray = true)
    (h : runW P l.toArray nx 0 l env st [] (fun its env st => allOk l its ∧ Q .normal ⟨env, st, nx + 1024 * l.toArray.size⟩)) : VW P n K (.region id l.toArray true) Q ⟨env, st, nx⟩ := by
  simp only [regOk,Bool.and_eq_true,decide_eq_true_eq] at hd
  refine vw_region_draw hm (by simpa using hd.1) he (runW_runD ?_)
  have e : l.toArray.toList = l := by simp
  rw [e]
  exact h
/-- Where ways meet: what holds on all of them. -/
theorem vw_join {P : Program} {n K : Nat} {x y : Code} {Q : Exit → FS → Prop} {s : FS} {α : Type} (F : α → FS) (I : α → Prop) (h1 : VW P n K x (thenV (fun s' => ∃ z, I z ∧ Norm n K s' (F z)) Q) s) (h2 : ∀ z, I z → VW P n K y Q (F z)) : VW P n K (.seq x y) Q s := by
  refine vw_seq (vw_mono h1 fun e s' h => ?_)
  cases e with
  | normal => obtain ⟨z, hz, hn⟩ := h; exact vw_norm hn (h2 z hz)
  | _ => exact h
end Go.VM
namespace Go.VM
open Go
def chkPre (pre : List (List Nat)) : Nat → List Oper → Bool
  | _, [] => true
  | k, o :: l => ((pre.getD k []).all fun i => (o.after.toList.filter fun e => Region.binds .any e).any fun e => (e.on == i) || (decide (e.on < k) && (pre.getD e.on []).contains i)) && chkPre pre (k + 1) l
theorem closeL_mem {acc : List (List Nat)} {o : Oper} {i : Nat} : i ∈ closeL acc o ↔ ∃ e, e ∈ o.after.toList.filter (fun e => Region.binds .any e) ∧ (i = e.on ∨ i ∈ acc.getD e.on []) := by
  unfold closeL
  rw [List.mem_eraseDups, List.mem_flatMap]
  simp only [List.mem_cons]
theorem chkPre_sub {pre : List (List Nat)} : ∀ (l : List Oper) (acc : List (List Nat)), chkPre pre acc.length l = true → (∀ j i, j < acc.length → i ∈ pre.getD j [] → i ∈ acc.getD j []) →
    ∀ j i, j < acc.length + l.length → i ∈ pre.getD j [] → i ∈ (precs l acc).getD j []
  | [], acc, _, h, j, i, hj, hi => h j i (by simpa using hj) hi
  | o :: l, acc, hc, h, j, i, hj, hi => by
    simp only [chkPre,Bool.and_eq_true,List.all_eq_true] at hc
    simp only [precs]
    refine chkPre_sub l (acc ++ [closeL acc o]) (by simpa using hc.2) (fun j i hj hi => ?_) j i (by simp at hj ⊢; omega) hi
    by_cases e : j < acc.length
    · rw [List.getD_eq_getElem?_getD, List.getElem?_append_left e, ← List.getD_eq_getElem?_getD]
      exact h j i e hi
    · obtain rfl : j = acc.length := by simp at hj; omega
      rw [List.getD_eq_getElem?_getD, List.getElem?_append_right (Nat.le_refl _), Nat.sub_self]
      simp only [List.getElem?_cons_zero,Option.getD_some]
      rw [closeL_mem]
      have := hc.1 i hi
      simp only [List.any_eq_true,Bool.or_eq_true,beq_iff_eq,Bool.and_eq_true,decide_eq_true_eq,List.contains_iff_mem] at this
      obtain ⟨e, he, h1 | ⟨h1, h2⟩⟩ := this
      · exact ⟨e, he, .inl h1.symm⟩
      · exact ⟨e, he, .inr (h e.on i h1 h2)⟩
theorem allOk_pre {l : List Oper} {its : List It} (pre : List (List Nat)) (h1 : chkPre pre 0 l = true) (h0 : its.length ≤ l.length) (h2 : pairsOk pre its = true) : allOk l its := by
  unfold allOk
  unfold pairsOk at h2 ⊢
  simp only [List.all_eq_true,Bool.or_eq_true,List.contains_iff_mem,List.mem_range] at h2 ⊢
  intro j hj i hi
  rcases h2 j hj i hi with h | h
  · exact .inl (chkPre_sub l [] h1 (fun j i hj => absurd hj (by simp)) j i (by simp; omega) h)
  · exact .inr h
/-- A region of open order, its list of operations named. -/
theorem vw_drawA {P : Program} {n K id : Nat} {l : List Oper} {y : Code} {Q : Exit → FS → Prop} {env : Nat → VV} {st : St} {nx : Nat} (hm : P.follows .mixedOrders = true) (hd : regOk n l = true) (he : edgesOk l.toArray = true)
    (h : ∀ A : Array Oper, A = l.toArray → runW P A nx 0 l env st [] (fun its env st => allOk l its ∧ VW P n K y Q ⟨env, st, nx + 65536⟩)) : VW P n K (.seq (.region id l.toArray true) y) Q ⟨env, st, nx⟩ :=
  vw_draw hm hd he (h _ rfl)
theorem vw_drawA_last {P : Program} {n K id : Nat} {l : List Oper} {Q : Exit → FS → Prop} {env : Nat → VV} {st : St} {nx : Nat} (hm : P.follows .mixedOrders = true) (hd : regOk n l = true) (he : edgesOk l.toArray = true)
    (h : ∀ A : Array Oper, A = l.toArray → runW P A nx 0 l env st [] (fun its env st => allOk l its ∧ Q .normal ⟨env, st, nx + 1024 * l.toArray.size⟩)) : VW P n K (.region id l.toArray true) Q ⟨env, st, nx⟩ :=
  vw_draw_last hm hd he (h _ rfl)
theorem runW_step (P : Program) (ops : Array Oper) (nx i : Nat) (o : Oper) (l : List Oper) (env : Nat → VV) (st : St) (acc : List It) (K : List It → (Nat → VV) → St → Prop) :
    runW P ops nx i (o :: l) env st acc K =
      match wantedV ops o env with
      | some true =>
        (match isCall o with
        | true => ∃ v u rd, OpAt P (nx + 1024 * i) o rd env st ⟨v, u⟩ ∧ runX P ops nx (i + 1) l (dstE env o.dst v) (st.ups u) (acc ++ [⟨o.dst, v, u, o.looksAt ops, rd⟩]) K
        | false => match vop P (nx + 1024 * i) o env st with
          | some e => runW P ops nx (i + 1) l (dstE env o.dst e.v) (st.ups e.ups) (acc ++ [⟨o.dst, e.v, e.ups, o.looksAt ops, readsOf env o⟩]) K
          | none => stuckX P ops nx i o l env st acc K)
      | some false => runW P ops nx (i + 1) l (dstE env o.dst (.tup [])) st (acc ++ [⟨o.dst, .tup [], [], o.looksAt ops, []⟩]) K
      | none => False := (rfl)
end Go.VM
namespace Go.Proofs.YtkijdbljnefeaaaGreatDoor
open Go.VM
set_option maxRecDepth 100000
attribute [local congr] vw_congr runV_congr runH_congr runW_congr runX_congr stuckV_congr stuckX_congr
theorem runs_26 (x lo hi : Int) : Runs Tryz.prog 26 [.one (.v (.int .i64 x)), .one (.v (.int .i64 lo)), .one (.v (.int .i64 hi))] [.one (.v (.bool (inB x lo hi)))] [] := by
  refine runs_tab (tab := [(0, .c (.int .i64 x)), (1, .c (.int .i64 lo)), (2, .c (.int .i64 hi))]) (rts := []) (n := 15) (k := 3) Tryz.func26 rfl rfl (by simp) rfl (fun t => ?_) rfl ?_
  · rcases t with _ | _ | _ | t <;> rfl
  refine vw_go rfl ?_; simp only [go_sem,setCells,setIn]
  by_cases h : lo ≤ x
  · (refine vw_go rfl ?_; simp only [h,go_sem,setCells,setIn])
    rw [show inB x lo hi = decide (x ≤ hi) from by simp [inB,h]]
    exact vw_ret (e_ret (ret_of rfl rfl (by simp [RB]) rfl rfl))
  · (refine vw_go rfl ?_; simp only [h,go_sem,setCells,setIn])
    rw [show inB x lo hi = false from by simp [inB,h]]
    exact vw_ret (e_ret (ret_of rfl rfl (by simp [RB]) rfl rfl))
theorem runs_24 (x lo hi : Int) : Runs Tryz.prog 24 [.one (.v (.int .i64 x)), .one (.v (.int .i64 lo)), .one (.v (.int .i64 hi))] [.one (.v (.bool (inB x lo hi)))] [] := by
  refine runs_tab (tab := [(0, .c (.int .i64 x)), (1, .c (.int .i64 lo)), (2, .c (.int .i64 hi))]) (rts := []) (n := 15) (k := 3) Tryz.func24 rfl rfl (by simp) rfl (fun t => ?_) rfl ?_
  · rcases t with _ | _ | _ | t <;> rfl
  refine vw_go rfl ?_; simp only [go_sem,setCells,setIn]
  by_cases h : lo ≤ x
  · (refine vw_go rfl ?_; simp only [h,go_sem,setCells,setIn])
    rw [show inB x lo hi = decide (x ≤ hi) from by simp [inB,h]]
    exact vw_ret (e_ret (ret_of rfl rfl (by simp [RB]) rfl rfl))
  · (refine vw_go rfl ?_; simp only [h,go_sem,setCells,setIn])
    rw [show inB x lo hi = false from by simp [inB,h]]
    exact vw_ret (e_ret (ret_of rfl rfl (by simp [RB]) rfl rfl))
end Go.Proofs.YtkijdbljnefeaaaGreatDoor
