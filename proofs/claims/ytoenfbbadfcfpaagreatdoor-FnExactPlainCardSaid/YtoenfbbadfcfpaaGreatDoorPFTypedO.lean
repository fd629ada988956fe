/- What all walks of this seat lean on. Op values: trees, and the walks of their size, their copy, their comparing (one; a slice). Printed by a program (tfun.py). An Op of the law, opened. -/
import Derived.Test.YtoenfbbadfcfpaaGreatDoorPFacts
import Derived.Test.YtoenfbbadfcfpaaGreatDoorPVUse
namespace Go.Proofs.YtoenfbbadfcfpaaGreatDoor
open Go.VM
set_option linter.unusedSimpArgs false
set_option linter.unusedVariables false
attribute [go_sem] copyV List.zip_cons_cons List.zip_nil_left List.zip_nil_right or_false false_or or_self or_true true_or and_false false_and fillV VV.solid partV appendV rowsOf noOwn plainT atEnd strRows rowEq scalEq fitD decide_true decide_false List.getElem?_toArray  Bool.true_beq Bool.false_beq takenUp take_map_len List.getLast?_nil List.getLast?_singleton List.dropLast_singleton List.isPrefixOf_nil_left List.isPrefixOf_cons₂
theorem mixed : Tryz.prog.follows .mixedOrders = true := by kernel_rfl
/-- The first place, or -1. -/
def idxOf {α : Type} (p : α → Bool) : List α → Nat → Int
  | [], _ => -1
  | x :: l, i => if p x then (i : Int) else idxOf p l (i + 1)
theorem idxOf_any {α : Type} (p : α → Bool) : ∀ (l : List α) (i : Nat), decide (0 ≤ idxOf p l i) = l.any p
  | [], i => by simp [idxOf]
  | x :: l, i => by
    have ih := idxOf_any p l (i + 1)
    by_cases h : p x = true
    · have e : idxOf p (x :: l) i = (i : Int) := by simp only [idxOf, h, if_true]
      simp [e, h]
    · have h' : p x = false := by simpa using h
      have e : idxOf p (x :: l) i = idxOf p l (i + 1) := by simp only [idxOf, h', Bool.false_eq_true, if_false]
      simp only [e, List.any_cons, h', Bool.false_or]
      exact ih
def inB (x lo hi : Int) : Bool := decide (lo ≤ x) && decide (x ≤ hi)
end Go.Proofs.YtoenfbbadfcfpaaGreatDoor
namespace Go.VM
theorem ret_by {P : Program} {fn : Func} {outs : List RT} {K : Nat} {s : FS} {rs : List ResultVar} {vs : List VV} (hrs : fn.results.toList = rs) (h1 : resV P s rs = some vs) (h2 : s.nx ≤ RB) (h3 : shapes vs outs = true) (h4 : (takeCs s.st (vs.flatMap VV.cells)).map (·.1) = some (rcells outs)) :
    retV P fn outs [] K s := by
  obtain ⟨p, hp, e⟩ := Option.map_eq_some_iff.1 h4
  obtain ⟨a, u⟩ := p
  simp only at e
  subst e
  exact ret_of hrs h1 h2 h3 hp
theorem call_rx_at {P : Program} {fid : Nat} {o : Oper} {env : Nat → VV} {st : St} {c : Call} {g : Operand} {f : FuncId} {fn : Func} {caps : List (List T)} (ts : List TypeId) (rd : List Nat) {xs : List VV}
    {args outs : List RT} (hf : P.funcs[f]? = some fn) (hruns : Runs P f args outs []) (hop : o.op = .call c) (hcal : c.callee = .value g) (hg : ev P env 0 g = .fn f caps) (hbody : fn.body.isNone = false) (hname : (fn.name == "runtime.NumGoroutine") = false)
    (hts : ts.length = c.args.size) (hxs : (c.args.toList.zip ts).map (fun p => ev P env p.2 p.1) ++ caps.map VV.rop = xs) (hl : ∀ st' : St, (∀ r ∈ rd, st' r = st r) → lendAll st' (xs.flatMap VV.cells) = some (rcells args))
    (hshape : shapes xs args = true) (hc1 : (rcells outs).all CT.clean = true) (hm : Nat.ble (rcells outs).length 1024 = true) (hn : Nat.ble (rcells args).length 1024 = true) :
    OpAt P fid o rd env st ⟨outL (rvv fid outs), cups fid (rcells outs)⟩ :=
  call_ro_at hop hcal hg hf hbody hname hts hxs hl rfl hshape hruns hc1 (Nat.le_of_ble_eq_true hm) (Nat.le_of_ble_eq_true hn)
theorem vw_draw_last {P : Program} {n K id : Nat} {l : List Oper} {Q : Exit → FS → Prop} {env : Nat → VV} {st : St} {nx : Nat} (hm : P.follows .mixedOrders = true) (hd : regOk n l = true) (he : edgesOk l.toArray = true)
    (h : runW P l.toArray nx 0 l env st [] (fun its env st => allOk l its ∧ Q .normal ⟨env, st, nx + 1024 * l.toArray.size⟩)) : VW P n K (.region id l.toArray true) Q ⟨env, st, nx⟩ := by
  simp only [regOk, Bool.and_eq_true, decide_eq_true_eq] at hd
  refine vw_region_draw hm (by simpa using hd.1) he (runW_runD ?_)
  have e : l.toArray.toList = l := by simp
  rw [e]
  exact h
/-- Where ways meet: what holds on all of them. -/
theorem vw_join {P : Program} {n K : Nat} {x y : Code} {Q : Exit → FS → Prop} {s : FS} {α : Type} (F : α → FS) (I : α → Prop) (h1 : VW P n K x (thenV (fun s' => ∃ z, I z ∧ Norm n K s' (F z)) Q) s) (h2 : ∀ z, I z → VW P n K y Q (F z)) : VW P n K (.seq x y) Q s := by
  refine vw_seq (vw_mono h1 fun e s' h => ?_)
  cases e with
  | normal => obtain ⟨z, hz, hn⟩ := h; exact vw_norm hn (h2 z hz)
  | _ => exact h
end Go.VM
namespace Go.Proofs.YtoenfbbadfcfpaaGreatDoor
open Go.VM
set_option maxRecDepth 100000
set_option linter.unusedSimpArgs false
set_option linter.unusedVariables false

attribute [local congr] vw_congr runV_congr runH_congr runW_congr runX_congr stuckV_congr stuckX_congr


abbrev It3 := ByteArray × Bool × ByteArray
def iRow (x : It3) : List T := [.str x.1, .bool x.2.1, .str x.2.2]

theorem iRow_r1 (x : It3) : (iRow x).map T.toRO = iRow x := by simp [iRow]
theorem iRow_clean (l : List It3) : cleanRs (l.map iRow) = true := clean_map (fun x => rfl) l
def szI (x : It3) (left : Int) : Int := if left - x.1.size < 0 then -1 else if left - x.1.size - x.2.2.size < 0 then -1 else left - x.1.size - x.2.2.size

theorem runs_29 (p : ByteArray) (d : Bool) (t : ByteArray) (left : Int) (hp : p.size < 2 ^ 63) (ht : t.size < 2 ^ 63) (h0 : 0 ≤ left) (h1 : left < 2 ^ 63) :
    Runs Tryz.prog 29 [.agg [.v (.str p), .v (.bool d), .v (.str t)], .one (.v (.int .i64 left))] [.one (.v (.int .i64 (szI (p, d, t) left)))] [] := by
  refine runs_tab (tab := [(0, .agg [.c (.str p), .c (.bool d), .c (.str t)]), (1, .c (.int .i64 left))]) (rts := []) (n := 20) (k := 4) Tryz.func29 rfl rfl (by simp) rfl (fun t => ?_) rfl ?_
  · rcases t with _ | _ | t <;> rfl
  have w1 : IntKind.wrap .i64 (left - p.size) = left - p.size := wrap_i64 (by omega) (by omega)
  (refine vw_go rfl ?_; simp only [go_sem, setCells, setIn])
  (refine vw_go rfl ?_; simp only [w1, go_sem, setCells, setIn])
  refine vw_seq ?_
  (refine vw_go rfl ?_; simp only [go_sem, setCells, setIn])
  refine vw_cond (t := decide (left - p.size < 0)) rfl (fun h => ?_) (fun h => ?_)
  · (refine vw_go rfl ?_; simp only [go_sem, setCells, setIn])
    simp only [decide_eq_true_eq] at h
    rw [show szI (p, d, t) left = -1 from by simp [szI, h]]
    exact vw_ret (r_then (e_ret (ret_of rfl rfl (by simp [RB]) rfl rfl)))
  · refine vw_skip (n_then ?_)
    simp only [decide_eq_false_iff_not] at h
    have w2 : IntKind.wrap .i64 (left - p.size - t.size) = left - p.size - t.size := wrap_i64 (by omega) (by omega)
    (refine vw_go rfl ?_; simp only [w2, go_sem, setCells, setIn])
    refine vw_seq ?_
    (refine vw_go rfl ?_; simp only [go_sem, setCells, setIn])
    refine vw_cond (t := decide (left - p.size - t.size < 0)) rfl (fun h2 => ?_) (fun h2 => ?_)
    · (refine vw_go rfl ?_; simp only [go_sem, setCells, setIn])
      simp only [decide_eq_true_eq] at h2
      rw [show szI (p, d, t) left = -1 from by simp [szI, h, h2]]
      exact vw_ret (r_then (e_ret (ret_of rfl rfl (by simp [RB]) rfl rfl)))
    · refine vw_skip (n_then ?_)
      (refine vw_go rfl ?_; simp only [go_sem, setCells, setIn])
      simp only [decide_eq_false_iff_not] at h2
      rw [show szI (p, d, t) left = left - p.size - t.size from by simp [szI, h, h2]]
      exact vw_ret (e_ret (ret_of rfl rfl (by simp [RB]) rfl rfl))

def szL : List It3 → Int → Int
  | [], left => left
  | x :: l, left => if szI x left < 0 then -1 else szL l (szI x left)
def szIS (l : List It3) (left : Int) : Int := if left - l.length < 0 then -1 else szL l (left - l.length)
theorem szI_le (x : It3) (left : Int) (h : 0 ≤ left) : szI x left ≤ left := by
  unfold szI; split
  · omega
  · split <;> omega

theorem runs_6 (l : List It3) (left : Int) (hb : ∀ x ∈ l, x.1.size < 2 ^ 63 ∧ x.2.2.size < 2 ^ 63) (hl : l.length < 2 ^ 63) (h0 : 0 ≤ left) (h1 : left < 2 ^ 63) :
    Runs Tryz.prog 6 [.one (.v (.list false 3 (l.map iRow))), .one (.v (.int .i64 left))] [.one (.v (.int .i64 (szIS l left)))] [] := by
  refine runs_tab (tab := [(0, .c (.list false 3 (l.map iRow))), (1, .c (.int .i64 left))]) (rts := []) (n := 27) (k := 2) Tryz.func6 rfl rfl (by simp) rfl (fun t => ?_) rfl ?_
  · rcases t with _ | _ | t <;> rfl
  have w1 : IntKind.wrap .i64 (left - l.length) = left - l.length := wrap_i64 (by omega) (by omega)
  (refine vw_go rfl ?_; simp only [go_sem, setCells, setIn])
  (refine vw_go rfl ?_; simp only [List.length_map, w1, go_sem, setCells, setIn])
  refine vw_seq ?_
  (refine vw_go rfl ?_; simp only [go_sem, setCells, setIn])
  refine vw_cond (t := decide (left - l.length < 0)) rfl (fun h => ?_) (fun h => ?_)
  · (refine vw_go rfl ?_; simp only [go_sem, setCells, setIn])
    simp only [decide_eq_true_eq] at h
    rw [show szIS l left = -1 from by simp [szIS, h]]
    exact vw_ret (r_then (e_ret (ret_of rfl rfl (by simp [RB]) rfl rfl)))
  · refine vw_skip (n_then ?_)
    simp only [decide_eq_false_iff_not] at h
    have hA := h
    refine vw_seq ?_
    (refine vw_go rfl ?_; simp only [go_sem, setCells, setIn])
    refine vw_block ?_
    refine vw_loop_tab (α := Nat × Int) (fun x => l.length - x.1) (fun x => ⟨tabE [(0, .c (.list false 3 (l.map iRow))), (1, .c (.int .i64 x.2)), (5, .c (.int .i64 x.1))], tabS [], 2⟩)
      (fun x => x.1 ≤ l.length ∧ 0 ≤ x.2 ∧ x.2 < 2 ^ 63 ∧ szL (l.drop x.1) x.2 = szL l (left - l.length)) (x := (0, left - l.length)) ?round ?h0 ?hn
    case h0 => exact ⟨Nat.zero_le _, by simp only; omega, by simp only; omega, rfl⟩
    case hn => (refine norm_to [] rfl ?_ ?_ <;> simp only [go_sem])
    rintro ⟨i, m⟩ ⟨hi, hm0, hm1, hm⟩
    simp only at hi hm0 hm1 hm
    refine vw_seq ?_
    (refine vw_go rfl ?_; simp only [List.length_map, go_sem, setCells, setIn])
    refine vw_cond (t := decide ((i : Int) < l.length)) rfl (fun h => ?_) (fun h => ?_)
    · refine vw_skip (n_then ?_)
      rcases get_or l i with ⟨x, hx, hlt⟩ | ⟨_, hge⟩
      case inr => simp only [decide_eq_true_eq] at h; omega
      have hxb := hb x (List.mem_of_getElem? hx)
      refine vw_seq ?_
      refine vw_block ?_
      have c1 : (0:Int) ≤ (i:Int) := by omega
      have c2 : (i:Int) < (l.length : Int) := by omega
      (refine vw_go rfl ?_; simp only [List.length_map, c1, c2, Int.toNat_natCast, getD_map_of hx, iRow, go_sem, setCells, setIn])
      (refine ⟨_, _, call_rd [0, 0] Tryz.func29 (runs_29 x.1 x.2.1 x.2.2 m hxb.1 hxb.2 hm0 hm1) rfl rfl rfl rfl rfl rfl rfl rfl rfl rfl rfl rfl rfl, ?_⟩)
      simp only [runH, runX, go_sem, setCells, setIn]
      (refine vw_go rfl ?_; simp only [go_sem, setCells, setIn])
      refine vw_cond (t := decide (szI x m < 0)) rfl (fun h => ?_) (fun h => ?_)
      · (refine vw_go rfl ?_; simp only [go_sem, setCells, setIn])
        rw [drop_of hx] at hm
        simp only [decide_eq_true_eq] at h
        simp only [szL, h, if_true] at hm
        rw [show szIS l left = -1 from by simp [szIS, hA, ← hm]]
        exact vw_ret (r_block (r_then (r_then (r_block (r_then (e_ret (ret_of rfl rfl (by simp [RB]) rfl rfl)))))))
      · refine vw_skip (n_block (n_then ?_))
        have w2 : IntKind.wrap .i64 ((i:Int) + 1) = ((i + 1 : Nat) : Int) := by rw [wrap_i64 (by omega) (by omega)]; rfl
        (refine vw_last rfl ?_; simp only [w2, go_sem, setCells, setIn])
        refine (n_then ?_)
        simp only [decide_eq_false_iff_not] at h
        rw [drop_of hx] at hm
        simp only [szL, h, if_false] at hm
        have := szI_le x m hm0
        refine ⟨(i + 1, szI x m), by simp only; omega, ⟨by simp only; omega, by simp only; omega, by simp only; omega, hm⟩, ?_⟩
        (refine norm_to [] rfl ?_ ?_ <;> simp only [go_sem])
    · refine vw_exit (x_then (x_then (x_block (n_then ?_))))
      (refine vw_go rfl ?_; simp only [go_sem, setCells, setIn])
      simp only [decide_eq_false_iff_not] at h
      have : i = l.length := by omega
      subst this
      simp only [List.drop_length, szL] at hm
      rw [show szIS l left = m from by simp [szIS, hA, ← hm]]
      exact vw_ret (e_ret (ret_of rfl rfl (by simp [RB]) rfl rfl))
end Go.Proofs.YtoenfbbadfcfpaaGreatDoor
namespace Go.Proofs.YtoenfbbadfcfpaaGreatDoor
open Go.VM
set_option maxRecDepth 100000
theorem typed_22 {ts : List T} (h : typed Tryz.prog 6 22 ts) : ∃ l : List It3, ts = [.list false 3 (l.map iRow)] ∧ l.length < 2 ^ 63 ∧ ∀ x ∈ l, x.1.size < 2 ^ 63 ∧ x.2.2.size < 2 ^ 63 := by
  simp only [typed, Tryz.underlying22, Tryz.underlying53, typedF, Tryz.underlying9, Tryz.underlying4, cellsOf_53, List.map_cons, List.map_nil] at h
  obtain ⟨rows, rfl, hlen, hrows⟩ := h
  obtain ⟨l, rfl, hl⟩ := map_of (f := iRow) (Q := fun x => x.1.size < 2 ^ 63 ∧ x.2.2.size < 2 ^ 63) (rows := rows) (fun r hr => by
    obtain ⟨_, _, rfl, ⟨p, rfl, hp⟩, _, _, rfl, ⟨d, rfl⟩, _, _, rfl, ⟨t, rfl, ht⟩, rfl⟩ := hrows r hr
    exact ⟨(p, d, t), rfl, hp, ht⟩)
  exact ⟨l, rfl, by simpa using hlen, hl⟩
end Go.Proofs.YtoenfbbadfcfpaaGreatDoor
namespace Go.Proofs.YtoenfbbadfcfpaaGreatDoor
open Go.VM
set_option maxRecDepth 100000
set_option linter.unusedSimpArgs false
set_option linter.unusedVariables false
attribute [local congr] vw_congr runV_congr runH_congr runW_congr runX_congr stuckV_congr stuckX_congr

structure OpV where
  kind : Int
  path : ByteArray
  to : ByteArray
  data : ByteArray
  deriving DecidableEq
def OpV.ok (x : OpV) : Prop := x.path.size < 2 ^ 63 ∧ x.to.size < 2 ^ 63 ∧ x.data.size < 2 ^ 63
def szOp (x : OpV) (left : Int) : Int := if left - x.path.size < 0 then -1 else if left - x.path.size - x.to.size < 0 then -1 else if left - x.path.size - x.to.size - x.data.size < 0 then -1 else left - x.path.size - x.to.size - x.data.size
theorem runs_7 (x : OpV) (left : Int) (hx : x.ok) (h0 : 0 ≤ left) (h1 : left < 2 ^ 63) : Runs Tryz.prog 7 [.agg [.v (.int .i64 x.kind), .v (.str x.path), .v (.str x.to), .v (.str x.data)], .one (.v (.int .i64 left))] [.one (.v (.int .i64 (szOp x left)))] [] := by
  simp only [OpV.ok] at hx
  refine runs_tab (tab := [(0, .agg [.c (.int .i64 x.kind), .c (.str x.path), .c (.str x.to), .c (.str x.data)]), (1, .c (.int .i64 left))]) (rts := []) (n := 27) (k := 5) Tryz.func7 rfl rfl (by simp) rfl (fun t => ?_) rfl ?_
  · rcases t with _ | _ | t <;> rfl
  (refine vw_go rfl ?_; simp only [go_sem, setCells, setIn])
  have w0 : IntKind.wrap .i64 (left - x.path.size) = left - x.path.size := wrap_i64 (by omega) (by omega)
  (refine vw_go rfl ?_; simp only [w0, go_sem, setCells, setIn])
  refine vw_seq ?_
  (refine vw_go rfl ?_; simp only [go_sem, setCells, setIn])
  refine vw_cond (t := decide (left - x.path.size < 0)) rfl (fun g0 => ?_) (fun g0 => ?_)
  · (refine vw_go rfl ?_; simp only [go_sem, setCells, setIn])
    simp only [decide_eq_true_eq] at g0
    rw [show szOp x left = -1 from by simp [szOp, g0]]
    exact vw_ret (r_then (e_ret (ret_of rfl rfl (by simp [RB]) rfl rfl)))
  refine vw_skip (n_then ?_)
  simp only [decide_eq_false_iff_not] at g0
  have w1 : IntKind.wrap .i64 (left - x.path.size - x.to.size) = left - x.path.size - x.to.size := wrap_i64 (by omega) (by omega)
  (refine vw_go rfl ?_; simp only [w1, go_sem, setCells, setIn])
  refine vw_seq ?_
  (refine vw_go rfl ?_; simp only [go_sem, setCells, setIn])
  refine vw_cond (t := decide (left - x.path.size - x.to.size < 0)) rfl (fun g1 => ?_) (fun g1 => ?_)
  · (refine vw_go rfl ?_; simp only [go_sem, setCells, setIn])
    simp only [decide_eq_true_eq] at g1
    rw [show szOp x left = -1 from by simp [szOp, g0, g1]]
    exact vw_ret (r_then (e_ret (ret_of rfl rfl (by simp [RB]) rfl rfl)))
  refine vw_skip (n_then ?_)
  simp only [decide_eq_false_iff_not] at g1
  have w2 : IntKind.wrap .i64 (left - x.path.size - x.to.size - x.data.size) = left - x.path.size - x.to.size - x.data.size := wrap_i64 (by omega) (by omega)
  (refine vw_go rfl ?_; simp only [w2, go_sem, setCells, setIn])
  refine vw_seq ?_
  (refine vw_go rfl ?_; simp only [go_sem, setCells, setIn])
  refine vw_cond (t := decide (left - x.path.size - x.to.size - x.data.size < 0)) rfl (fun g2 => ?_) (fun g2 => ?_)
  · (refine vw_go rfl ?_; simp only [go_sem, setCells, setIn])
    simp only [decide_eq_true_eq] at g2
    rw [show szOp x left = -1 from by simp [szOp, g0, g1, g2]]
    exact vw_ret (r_then (e_ret (ret_of rfl rfl (by simp [RB]) rfl rfl)))
  refine vw_skip (n_then ?_)
  simp only [decide_eq_false_iff_not] at g2
  (refine vw_go rfl ?_; simp only [go_sem, setCells, setIn])
  rw [show szOp x left = left - x.path.size - x.to.size - x.data.size from by simp [szOp, g0, g1, g2]]
  exact vw_ret (e_ret (ret_of rfl rfl (by simp [RB]) rfl rfl))

theorem runs_10 (x : OpV) : Runs Tryz.prog 10 [.agg [.v (.int .i64 x.kind), .v (.str x.path), .v (.str x.to), .v (.str x.data)]] [.agg [.v (.int .i64 x.kind), .v (.str x.path), .v (.str x.to), .v (.str x.data)]] [] := by
  refine runs_tab (tab := [(0, .agg [.c (.int .i64 x.kind), .c (.str x.path), .c (.str x.to), .c (.str x.data)])]) (rts := []) (n := 17) (k := 4) Tryz.func10 rfl rfl (by simp) rfl (fun t => ?_) rfl ?_
  · cases t <;> rfl
  (refine vw_go rfl ?_; simp only [go_sem, setCells, setIn])
  (refine vw_go rfl ?_; simp only [go_sem, setCells, setIn])
  (refine vw_go rfl ?_; simp only [go_sem, setCells, setIn])
  (refine vw_go rfl ?_; simp only [go_sem, setCells, setIn])
  (refine vw_go rfl ?_; simp only [go_sem, setCells, setIn])
  (refine vw_go rfl ?_; simp only [go_sem, setCells, setIn])
  (refine vw_go rfl ?_; simp only [go_sem, setCells, setIn])
  exact vw_ret (e_ret (ret_of rfl rfl (by simp [RB]) rfl rfl))

end Go.Proofs.YtoenfbbadfcfpaaGreatDoor
namespace Go.Proofs.YtoenfbbadfcfpaaGreatDoor
open Go.VM
set_option maxRecDepth 100000
set_option linter.unusedSimpArgs false
set_option linter.unusedVariables false
theorem typed_24 {k : Nat} {ts : List T} (h : typed Tryz.prog (k + 3) 24 ts) : ∃ o : OpV, ts = [.int .i64 o.kind, .str o.path, .str o.to, .str o.data] ∧ o.ok := by
  simp only [typed, Tryz.underlying24, typedF, Tryz.underlying3, Tryz.underlying9, List.map_cons, List.map_nil] at h
  obtain ⟨_, _, rfl, ⟨a, rfl, _⟩, _, _, rfl, ⟨b, rfl, hb⟩, _, _, rfl, ⟨c, rfl, hc⟩, _, _, rfl, ⟨d, rfl, hd⟩, rfl⟩ := h
  exact ⟨⟨a, b, c, d⟩, rfl, hb, hc, hd⟩
end Go.Proofs.YtoenfbbadfcfpaaGreatDoor
