/- What an operation looks at: elsewhere values and roots may be others. -/
import Derived.Test.YtkijdbljnefeaaaGreatDoorPVMC
import Derived.Orders
set_option linter.unusedSimpArgs false
set_option linter.unusedVariables false
namespace Go.VM
def VV.root1 : VV → List Nat
  | .al r .. => [r]
  | .ptr r .. => [r]
  | _ => []
def VV.roots (x : VV) : List Nat := x.cells.flatMap VV.root1
theorem ups_congr {st st' : St} {r : Nat} (h : st' r = st r) : ∀ (u : Ups), (st'.ups u) r = (st.ups u) r
  | [] => h
  | (x, R) :: u => by
    simp only [St.ups_cons]
    refine ups_congr ?_ u
    by_cases e : r = x
    · subst e; simp
    · rw [St.put_ne _ _ e, St.put_ne _ _ e]; exact h
theorem seek_congr {st st' : St} {r : Nat} (h : st' r = st r) (p m) : seek st' r p m = seek st r p m := by simp only [seek,h]
theorem takeV_congr {st st' : St} {x : VV} (h : ∀ r ∈ x.root1, st' r = st r) : takeV st' x = takeV st x := by
  cases x with
  | al r p m sz off len => simp only [takeV, seek_congr (h r (by simp [VV.root1]))]
  | _ => rfl
theorem takeVs_congr : ∀ {xs : List VV} {st st' : St}, (∀ r ∈ xs.flatMap VV.root1, st' r = st r) → takeVs st' xs = takeVs st xs
  | [], st, st', h => rfl
  | x :: xs, st, st', h => by
    simp only [takeVs]
    rw [takeV_congr (fun r hr => h r (by simp only [List.flatMap_cons,List.mem_append]; exact .inl hr))]
    cases hx : takeV st x with
    | none => rfl
    | some yu =>
      simp only
      rw [takeVs_congr (fun r hr => ups_congr (h r (by simp only [List.flatMap_cons,List.mem_append]; exact .inr hr)) _)]
theorem loadV_congr {P : Program} {st st' : St} {t : TypeId} {x : VV} (h : ∀ r ∈ x.roots, st' r = st r) : loadV P st' t x = loadV P st t x := by
  cases x with
  | ptr r p m i j => simp only [loadV, seek_congr (h r (by simp [VV.roots,VV.cells,VV.root1]))]
  | _ => rfl
theorem storeV_congr {st st' : St} {r p m i j} {xs : List VV} (hr : st' r = st r) (h : ∀ r ∈ xs.flatMap VV.root1, st' r = st r) : storeV st' r p m i j xs = storeV st r p m i j xs := by
  simp only [storeV,seek_congr hr,takeVs_congr h]
  cases seek st r p m with
  | none => rfl
  | some q =>
    simp only
    cases takeVs st xs with
    | none => rfl
    | some yu => simp only [seek_congr (ups_congr hr _)]
theorem rowsOf_congr {st st' : St} {x : VV} (h : ∀ r ∈ x.roots, st' r = st r) : rowsOf st' x = rowsOf st x := by
  cases x with
  | al r p m sz off len => simp only [rowsOf, seek_congr (h r (by simp [VV.roots,VV.cells,VV.root1]))]
  | c x => cases x with
    | list o sz es => cases o <;> rfl
    | _ => rfl
  | _ => rfl
theorem atEnd_congr {st st' : St} {x : VV} (h : ∀ r ∈ x.roots, st' r = st r) : atEnd st' x = atEnd st x := by
  cases x with
  | al r p m sz off len => simp only [atEnd, seek_congr (h r (by simp [VV.roots,VV.cells,VV.root1]))]
  | _ => rfl
theorem root1_sub {x : VV} {r : Nat} (h : r ∈ x.root1) : r ∈ x.roots := by
  cases x <;> simp_all [VV.root1, VV.roots, VV.cells]
theorem appendV_congr {P : Program} {fid : Nat} {st st' : St} {sT xT : TypeId} {s x : VV} (hs : ∀ r ∈ s.roots, st' r = st r) (hx : ∀ r ∈ x.roots, st' r = st r) : appendV P fid st' sT xT s x = appendV P fid st sT xT s x := by
  unfold appendV
  rw [atEnd_congr hs, takeV_congr (fun r hr => hs r (root1_sub hr))]
  have e := rowsOf_congr hx
  cases x with
  | c x => cases x <;> first | rfl | simp only [e]
  | _ => simp only [e]
theorem copyV_congr {P : Program} {st st' : St} {dT sT : TypeId} {d x : VV} (hd : ∀ r ∈ d.roots, st' r = st r) (hx : ∀ r ∈ x.roots, st' r = st r) : copyV P st' dT sT d x = copyV P st dT sT d x := by
  unfold copyV
  rw [rowsOf_congr hx]
  cases d with
  | al r p m sz off len =>
    have e : st' r = st r := hd r (by simp [VV.roots,VV.cells,VV.root1])
    have e2 : seek st' r p m = seek st r p m := by simp only [seek,e]
    cases rowsOf st x with
    | none => rfl
    | some q =>
      obtain ⟨szx, xs⟩ := q
      simp only [e2]
  | _ => rfl
/-- The operands of an operation, as slots. -/
def tmpsOf (o : Oper) : List Tmp := o.op.operands.toList.filterMap fun | .tmp t => some t | _ => none
/-- The roots that an operation looks into. -/
def readsOf (env : Nat → VV) (o : Oper) : List Nat :=
  match o.op with
  | .load _ _ | .store _ _ _ | .box _ _ | .buildSlice _ _ _ | .convert _ _ _ | .call _ => (tmpsOf o).flatMap fun t => (env t).roots
  | _ => []
theorem ev_congr {P : Program} {env env' : Nat → VV} {t : TypeId} {x : Operand} (h : ∀ i, x = .tmp i → env' i = env i) : ev P env' t x = ev P env t x := by
  cases x with
  | tmp i => exact h i rfl
  | const v =>
    cases v with
    | slice a l c =>
      cases a with
      | none => cases l <;> (try rfl); cases c <;> rfl
      | some a => rfl
    | _ => rfl
  | _ => rfl
theorem ev_roots {P : Program} {env : Nat → VV} {t : TypeId} {x : Operand} {r : Nat} (h : r ∈ (ev P env t x).roots) : ∃ i, x = .tmp i ∧ r ∈ (env i).roots := by
  cases x with
  | tmp i => exact ⟨i, rfl, h⟩
  | const v =>
    exfalso
    cases v with
    | slice a l c =>
      cases a with
      | none =>
        cases l with
        | zero =>
          cases c with
          | zero =>
            simp only [ev] at h
            split at h <;> simp [VV.roots,VV.cells,VV.root1] at h
          | succ c => simp [ev,lit,VV.roots,VV.cells,VV.root1] at h
        | succ l => simp [ev,lit,VV.roots,VV.cells,VV.root1] at h
      | some a => simp [ev,lit,VV.roots,VV.cells,VV.root1] at h
    | _ => simp [ev,lit,VV.roots,VV.cells,VV.root1] at h
  | _ => simp [ev,VV.roots,VV.cells,VV.root1] at h
end Go.VM
/- An operation does the same wherever what it looks at is the same. -/
namespace Go.VM
theorem fillV_roots {place : Nat → Option (Nat × Nat)} : ∀ {parts : List (Nat × VV)} {cells cs : List VV}, fillV place cells parts = some cs → ∀ r ∈ cs.flatMap VV.root1, r ∈ cells.flatMap VV.root1 ∨ ∃ q ∈ parts, r ∈ q.2.roots
  | [], cells, cs, h, r, hr => by
    simp only [fillV,Option.some.injEq] at h
    subst h; exact .inl hr
  | (i, v) :: parts, cells, cs, h, r, hr => by
    simp only [fillV] at h
    split at h
    · cases h
    · split at h
      · cases h
      · rcases fillV_roots h r hr with h1 | ⟨q, h1, h2⟩
        · simp only [List.flatMap_append,List.mem_append] at h1
          rcases h1 with (h1 | h1) | h1
          · obtain ⟨y, hy, h3⟩ := List.mem_flatMap.1 h1
            exact .inl (List.mem_flatMap.2 ⟨y, List.mem_of_mem_take hy, h3⟩)
          · exact .inr ⟨(i, v), by simp, h1⟩
          · obtain ⟨y, hy, h3⟩ := List.mem_flatMap.1 h1
            exact .inl (List.mem_flatMap.2 ⟨y, List.mem_of_mem_drop hy, h3⟩)
        · exact .inr ⟨q, List.mem_cons_of_mem _ h1, h2⟩
theorem vop_local {P : Program} {fid : Nat} {o : Oper} {env env' : Nat → VV} {st st' : St} (he : ∀ t ∈ tmpsOf o, env' t = env t) (hs : ∀ r ∈ readsOf env o, st' r = st r) : vop P fid o env' st' = vop P fid o env st := by
  have E : ∀ x ∈ o.op.operands, ∀ t, ev P env' t x = ev P env t x := by
    intro x hx t
    refine ev_congr (fun i e => he i ?_)
    subst e
    exact List.mem_filterMap.2 ⟨.tmp i, by simpa using hx, rfl⟩
  have R : (∀ t : Tmp, t ∈ tmpsOf o → ∀ r ∈ (env t).roots, r ∈ readsOf env o) → ∀ x ∈ o.op.operands, ∀ t, ∀ r ∈ (ev P env t x).roots, st' r = st r := by
    intro h x hx t r hr
    obtain ⟨i, rfl, h2⟩ := ev_roots hr
    exact hs r (h i (List.mem_filterMap.2 ⟨.tmp i, by simpa using hx, rfl⟩) r h2)
  have parts : ∀ (ps : Array (Nat × Operand)) (f : Nat × Operand → TypeId), (∀ x ∈ (ps.toList.map (·.2)).toArray, ∀ t, ev P env' t x = ev P env t x) → (ps.toList.map fun q => (q.1, ev P env' (f q) q.2)) = (ps.toList.map fun q => (q.1, ev P env (f q) q.2)) := by
    intro ps f h
    refine List.map_congr_left (fun q hq => ?_)
    rw [h q.2 (by simp only [List.mem_toArray]; exact List.mem_map.2 ⟨q, hq, rfl⟩)]
  obtain ⟨dst, op, type, pos, after, guard⟩ := o
  have full : ∀ op', (readsOf env ⟨dst, op', type, pos, after, guard⟩ = (tmpsOf ⟨dst, op', type, pos, after, guard⟩).flatMap fun t => (env t).roots) → ∀ t : Tmp, t ∈ tmpsOf ⟨dst, op', type, pos, after, guard⟩ → ∀ r ∈ (env t).roots, r ∈ readsOf env ⟨dst, op', type, pos, after, guard⟩ := by
    intro op' h t ht r hr
    rw [h]
    exact List.mem_flatMap.2 ⟨t, ht, hr⟩
  cases op <;> simp only [Op.operands] at E R <;> unfold vop <;> simp only
  case move x => rw [E x (by simp)]
  case assign x => rw [E x (by simp)]
  case pick c a b => rw [E c (by simp), E a (by simp), E b (by simp)]
  case nilCheck x => rw [E x (by simp)]
  case box e x =>
    have r := R (full _ rfl) x (by simp) e
    rw [E x (by simp), takeVs_congr r]
  case build t ps =>
    cases zeroT P t with
    | none => rfl
    | some z =>
      cases placesT P t with
      | none => rfl
      | some pl =>
        simp only
        rw [parts ps (fun q => ((pl[q.1]?).map fun q => q.2.2).getD 0) E]
  case buildSlice t n ps =>
    have r := R (full _ rfl)
    cases ht : elemT P t with
    | none => rfl
    | some e =>
      simp only
      rw [parts ps (fun _ => e) E]
      cases hz : zeroT P e with
      | none => rfl
      | some z =>
        simp only
        split
        · rfl
        · cases hf : fillV (fun i => some (i * P.cellsOf e, P.cellsOf e)) ((List.replicate n (z.map zeroV)).flatten) (ps.toList.map fun q => (q.1, ev P env e q.2)) with
          | none => rfl
          | some cs =>
            simp only
            rw [takeVs_congr (fun x hx => ?_)]
            rcases fillV_roots hf x hx with h1 | ⟨q, h1, h2⟩
            · exfalso
              obtain ⟨y, hy, h3⟩ := List.mem_flatMap.1 h1
              obtain ⟨l, hl, h4⟩ := List.mem_flatten.1 hy
              rw [List.mem_replicate] at hl
              rw [hl.2] at h4
              obtain ⟨t0, _, rfl⟩ := List.mem_map.1 h4
              have : (zeroV t0).root1 = [] := by
                cases t0 with
                | list o sz es => cases o <;> cases es <;> rfl
                | _ => rfl
              rw [this] at h3; cases h3
            · obtain ⟨p, hp, rfl⟩ := List.mem_map.1 h1
              exact r p.2 (by simp only [List.mem_toArray]; exact List.mem_map.2 ⟨p, hp, rfl⟩) e x h2
  case load t x =>
    have r := R (full _ rfl) x (by simp) 0
    rw [E x (by simp), loadV_congr r]
  case store t x y =>
    have r1 := R (full _ rfl) x (by simp) 0
    have r2 := R (full _ rfl) y (by simp) t
    rw [E x (by simp), E y (by simp)]
    cases hx : ev P env 0 x with
    | ptr r p m i j =>
      rw [hx] at r1
      simp only [storeV_congr (r1 r (by simp [VV.roots,VV.cells,VV.root1])) r2]
    | _ => rfl
  case binOp op t x y yt => rw [E x (by simp), E y (by simp)]
  case unOp op t x => rw [E x (by simp)]
  case convert s t x =>
    have r := R (full _ rfl) x (by simp) s
    have e := rowsOf_congr r
    rw [E x (by simp)]
    generalize ev P env s x = z at e ⊢
    cases z with
    | c x => cases x <;> first | rfl | simp only [e]
    | _ => simp only [e]
  case makeSlice t l c => rw [E l (by simp), E c (by simp)]
  case slice t x lo hi mx =>
    cases mx with
    | some m => rfl
    | none =>
      cases lo <;> cases hi <;> simp_all
  case fieldAddr t x f => rw [E x (by simp)]
  case field t x f => rw [E x (by simp)]
  case indexAddr t x i => rw [E x (by simp), E i (by simp)]
  case index t x i => rw [E x (by simp), E i (by simp)]
  case extract x i => rw [E x (by simp)]
  case call c =>
    have r := R (full _ rfl)
    unfold builtinV
    obtain ⟨callee, args, argTypes⟩ := c
    simp only
    cases callee with
    | builtin b =>
      simp only [Call.operands,Array.empty_append] at E r
      have E' : ∀ x ∈ args.toList, ∀ t, ev P env' t x = ev P env t x := fun x hx => E x (by simpa using hx)
      have r' : ∀ x ∈ args.toList, ∀ t, ∀ q ∈ (ev P env t x).roots, st' q = st q := fun x hx => r x (by simpa using hx)
      simp only
      generalize args.toList = l at E' r'
      generalize argTypes.toList = k
      split
      · rename_i x t
        rw [E' x (by simp)]
      · rename_i x y t1 t2
        rw [E' x (by simp), E' y (by simp), appendV_congr (r' x (by simp) _) (r' y (by simp) _)]
      · rename_i x y t1 t2
        rw [E' x (by simp), E' y (by simp), copyV_congr (r' x (by simp) _) (r' y (by simp) _)]
      · rename_i x y
        rw [E' x (by simp), E' y (by simp)]
      · rename_i x y
        rw [E' x (by simp), E' y (by simp)]
      · rfl
    | _ => rfl
end Go.VM
/- Regions whose order is left open: operations that are apart may change places. -/
namespace Go.VM
/-- Wherever what the operation looks at is so, it has that effect. -/
def OpAt (P : Program) (fid : Nat) (o : Oper) (rd : List Nat) (env : Nat → VV) (st : St) (e : Eff) : Prop :=
  ∀ env' st', (∀ t ∈ tmpsOf o, env' t = env t) → (∀ r ∈ rd, st' r = st r) → OpOk P fid o env' st' e
theorem vop_at {P : Program} {fid : Nat} {o : Oper} {env : Nat → VV} {st : St} {e : Eff} (h : vop P fid o env st = some e) : OpAt P fid o (readsOf env o) env st e :=
  fun env' st' he hs => vop_ok (by rw [vop_local he hs]; exact h)
/-- What an operation has done, and what it looked at. -/
structure It where
  dst : Option Tmp
  v : VV
  ups : Ups
  looks : List Tmp
  rd : List Nat
abbrev ES := (Nat → VV) × St
def It.app (x : It) (s : ES) : ES := (dstE s.1 x.dst x.v, s.2.ups x.ups)
def upRoots (u : Ups) : List Nat := u.map (·.1)
def sepIt (x y : It) : Bool :=
  (match x.dst with | some d => !y.looks.contains d && y.dst != some d | none => true) && (match y.dst with | some d => !x.looks.contains d | none => true) &&
  (upRoots x.ups).all (fun r => !y.rd.contains r && !(upRoots y.ups).contains r) && (upRoots y.ups).all (fun r => !x.rd.contains r)
structure Sep (x y : It) : Prop where
  d1 : ∀ d, x.dst = some d → d ∉ y.looks
  d2 : ∀ d, x.dst = some d → y.dst ≠ some d
  d3 : ∀ d, y.dst = some d → d ∉ x.looks
  r1 : ∀ r ∈ upRoots x.ups, r ∉ y.rd
  r2 : ∀ r ∈ upRoots x.ups, r ∉ upRoots y.ups
  r3 : ∀ r ∈ upRoots y.ups, r ∉ x.rd
theorem sepIt_sep {x y : It} (h : sepIt x y = true) : Sep x y := by
  simp only [sepIt,Bool.and_eq_true,List.all_eq_true] at h
  obtain ⟨⟨⟨h1, h2⟩, h3⟩, h4⟩ := h
  refine ⟨fun d hd => ?_, fun d hd => ?_, fun d hd => ?_, fun r hr => ?_, fun r hr => ?_, fun r hr => ?_⟩
  · rw [hd] at h1; simp at h1; exact h1.1
  · rw [hd] at h1; simp at h1; exact h1.2
  · rw [hd] at h2; simpa using h2
  · have := h3 r hr; simp at this; exact this.1
  · have := h3 r hr; simp at this; simpa [upRoots] using this.2
  · have := h4 r hr; simpa using this
theorem Sep.symm {x y : It} (h : Sep x y) : Sep y x :=
  ⟨h.d3, fun d hd e => h.d2 d e hd, h.d1, h.r3, fun r h1 h2 => h.r2 r h2 h1, h.r1⟩
theorem ups_out {st : St} {r : Nat} : ∀ {u : Ups}, r ∉ upRoots u → (st.ups u) r = st r := by
  intro u h
  exact ups_other (fun r' R' hm e => h (List.mem_map.2 ⟨(r', R'), hm, e⟩))
theorem ups_comm {u v : Ups} (h : ∀ r ∈ upRoots u, r ∉ upRoots v) (st : St) : (st.ups u).ups v = (st.ups v).ups u := by
  funext r
  by_cases hu : r ∈ upRoots u
  · rw [ups_out (h r hu)]
    exact (ups_congr (ups_out (h r hu)) u).symm
  · rw [ups_out (u := u) hu]
    exact ups_congr (ups_out hu) v
theorem Sep.comm {x y : It} (h : Sep x y) (s : ES) : x.app (y.app s) = y.app (x.app s) := by
  simp only [It.app]
  rw [Prod.mk.injEq]
  refine ⟨?_, (ups_comm h.r2 s.2).symm⟩
  funext t
  cases hx : x.dst with
  | none => rfl
  | some d =>
    cases hy : y.dst with
    | none => rfl
    | some e =>
      have hne : e ≠ d := fun q => h.d2 d hx (by rw [hy, q])
      simp only [dstE,setE]
      by_cases h1 : t = d
      · subst h1
        have : ¬ t = e := fun q => hne q.symm
        simp [this]
      · simp [h1]
/-- The items that are marked, one behind the other. -/
def foldS : List (Bool × It) → ES → ES
  | [], s => s
  | (b, x) :: l, s => foldS l (if b then x.app s else s)
theorem foldS_env {t : Nat} : ∀ {l k : List (Bool × It)} {s s' : ES}, l.map (·.2) = k.map (·.2) → s.1 t = s'.1 t → (∀ (i : Nat) (x y : Bool × It), l[i]? = some x → k[i]? = some y → x.1 ≠ y.1 → x.2.dst ≠ some t) → (foldS l s).1 t = (foldS k s').1 t
  | [], [], s, s', _, h, _ => h
  | [], _ :: _, _, _, h, _, _ => by simp at h
  | _ :: _, [], _, _, h, _, _ => by simp at h
  | (b, x) :: l, (b', x') :: k, s, s', hm, h, hd => by
    simp only [List.map_cons,List.cons.injEq] at hm
    obtain ⟨rfl, hm⟩ := hm
    simp only [foldS]
    refine foldS_env hm ?_ (fun i y z hy hz => hd (i + 1) y z (by simpa using hy) (by simpa using hz))
    have h0 := hd 0 (b, x) (b', x) rfl rfl
    cases b <;> cases b' <;> simp only [It.app,Bool.false_eq_true,if_false,if_true] at h0 ⊢
    · exact h
    · have := h0 (by simp)
      rw [h]; cases hx : x.dst with
      | none => rfl
      | some d => simp only [dstE]; rw [setE_ne]; intro e; exact this (by rw [hx, e])
    · have := h0 (by simp)
      rw [← h]; cases hx : x.dst with
      | none => rfl
      | some d => simp only [dstE]; rw [setE_ne]; intro e; exact this (by rw [hx, e])
    · cases hx : x.dst with
      | none => exact h
      | some d => simp only [dstE,setE]; split <;> first | rfl | exact h
theorem foldS_st {r : Nat} : ∀ {l k : List (Bool × It)} {s s' : ES}, l.map (·.2) = k.map (·.2) → s.2 r = s'.2 r → (∀ (i : Nat) (x y : Bool × It), l[i]? = some x → k[i]? = some y → x.1 ≠ y.1 → r ∉ upRoots x.2.ups) → (foldS l s).2 r = (foldS k s').2 r
  | [], [], s, s', _, h, _ => h
  | [], _ :: _, _, _, h, _, _ => by simp at h
  | _ :: _, [], _, _, h, _, _ => by simp at h
  | (b, x) :: l, (b', x') :: k, s, s', hm, h, hd => by
    simp only [List.map_cons,List.cons.injEq] at hm
    obtain ⟨rfl, hm⟩ := hm
    simp only [foldS]
    refine foldS_st hm ?_ (fun i y z hy hz => hd (i + 1) y z (by simpa using hy) (by simpa using hz))
    have h0 := hd 0 (b, x) (b', x) rfl rfl
    cases b <;> cases b' <;> simp only [It.app,Bool.false_eq_true,if_false,if_true] at h0 ⊢
    · exact h
    · rw [ups_out (h0 (by simp))]; exact h
    · rw [ups_out (h0 (by simp))]; exact h
    · exact ups_congr h _
/-- An item that is apart from all that follow may as well come last. -/
theorem foldS_last : ∀ {l : List (Bool × It)} {x : It} {s : ES}, (∀ y ∈ l, y.1 = true → Sep x y.2) → foldS l (x.app s) = x.app (foldS l s)
  | [], x, s, _ => rfl
  | (b, y) :: l, x, s, h => by
    simp only [foldS]
    cases b with
    | false => simp only [Bool.false_eq_true,if_false]; exact foldS_last (fun z hz => h z (List.mem_cons_of_mem _ hz))
    | true =>
      simp only [if_true]
      rw [← (h (true, y) (by simp) rfl).comm s]
      exact foldS_last (fun z hz => h z (List.mem_cons_of_mem _ hz))
end Go.VM
/- Regions whose order is left open: the rule. -/
namespace Go.VM
/-- The operations of a region in the order of the text, with what each has done. -/
def runD (P : Program) (ops : Array Oper) (nx : Nat) : Nat → List Oper → (Nat → VV) → St → List It → (List It → (Nat → VV) → St → Prop) → Prop
  | _, [], env, st, acc, K => K acc env st
  | i, o :: l, env, st, acc, K =>
    match wantedV ops o env with
    | some true => ∃ e rd, OpAt P (nx + 1024 * i) o rd env st e ∧ runD P ops nx (i + 1) l (dstE env o.dst e.v) (st.ups e.ups) (acc ++ [⟨o.dst, e.v, e.ups, o.looksAt ops, rd⟩]) K
    | some false => runD P ops nx (i + 1) l (dstE env o.dst (.tup [])) st (acc ++ [⟨o.dst, .tup [], [], o.looksAt ops, []⟩]) K
    | none => False
/-- What an item says of its operation, at the state that it met. -/
def ItOk (P : Program) (ops : Array Oper) (nx i : Nat) (o : Oper) (s : ES) (x : It) : Prop :=
  x.dst = o.dst ∧ x.looks = o.looksAt ops ∧
  ((wantedV ops o s.1 = some true ∧ OpAt P (nx + 1024 * i) o x.rd s.1 s.2 ⟨x.v, x.ups⟩) ∨ (wantedV ops o s.1 = some false ∧ x.v = .tup [] ∧ x.ups = []))
def foldI (l : List It) (s : ES) : ES := foldS (l.map fun x => (true, x)) s
theorem foldI_snoc (l : List It) (x : It) (s : ES) : foldI (l ++ [x]) s = x.app (foldI l s) := by
  have : ∀ (l : List (Bool × It)) (s : ES), foldS (l ++ [(true, x)]) s = x.app (foldS l s) := by
    intro l
    induction l with
    | nil => intro s; rfl
    | cons y l ih => intro s; obtain ⟨b, y⟩ := y; simp only [List.cons_append,foldS]; exact ih _
  simp only [foldI,List.map_append,List.map_cons,List.map_nil]
  exact this _ _
theorem runD_items {P : Program} {ops : Array Oper} {nx : Nat} {K : List It → (Nat → VV) → St → Prop} {s0 : ES} : ∀ (l : List Oper) (i : Nat) {env : Nat → VV} {st : St} {acc : List It}, ops.toList.drop i = l → i + l.length = ops.size → acc.length = i → foldI acc s0 = (env, st) →
    (∀ (j : Nat) (x : It), acc[j]? = some x → ∃ o, ops[j]? = some o ∧ ItOk P ops nx j o (foldI (acc.take j) s0) x) → runD P ops nx i l env st acc K →
    ∃ its : List It, its.length = ops.size ∧ (∀ (j : Nat) (x : It), its[j]? = some x → ∃ o, ops[j]? = some o ∧ ItOk P ops nx j o (foldI (its.take j) s0) x) ∧ K its (foldI its s0).1 (foldI its s0).2
  | [], i, env, st, acc, hd, hl, ha, hf, hok, h => by
    simp only [List.length_nil,Nat.add_zero] at hl
    exact ⟨acc, by omega, hok, by rw [hf]; exact h⟩
  | o :: l, i, env, st, acc, hd, hl, ha, hf, hok, h => by
    have hoi : ops[i]? = some o := by
      have : (ops.toList.drop i)[0]? = some o := by rw [hd]; rfl
      simpa using this
    have hnext : ops.toList.drop (i + 1) = l := by
      have : (ops.toList.drop i).drop 1 = l := by rw [hd]; rfl
      simpa [List.drop_drop] using this
    simp only [List.length_cons] at hl
    have step : ∀ x : It, ItOk P ops nx i o (env, st) x → runD P ops nx (i + 1) l (x.app (env, st)).1 (x.app (env, st)).2 (acc ++ [x]) K →
        ∃ its : List It, its.length = ops.size ∧ (∀ (j : Nat) (x : It), its[j]? = some x → ∃ o, ops[j]? = some o ∧ ItOk P ops nx j o (foldI (its.take j) s0) x) ∧ K its (foldI its s0).1 (foldI its s0).2 := by
      intro x hx hr
      refine runD_items l (i + 1) hnext (by omega) (by simp [ha]) (by rw [foldI_snoc, hf]) (fun j y hj => ?_) hr
      by_cases hji : j < i
      · rw [List.getElem?_append_left (by omega)] at hj
        obtain ⟨o', h1, h2⟩ := hok j y hj
        exact ⟨o', h1, by rw [List.take_append_of_le_length (by omega)]; exact h2⟩
      · have hj2 := lt_of_getl hj
        simp at hj2
        have : j = i := by omega
        subst this
        rw [List.getElem?_append_right (by omega)] at hj
        simp only [ha,Nat.sub_self,List.getElem?_cons_zero,Option.some.injEq] at hj
        subst hj
        refine ⟨o, hoi, ?_⟩
        rw [List.take_append_of_le_length (by omega), List.take_of_length_le (by omega), hf]
        exact hx
    simp only [runD] at h
    split at h
    · rename_i hw
      obtain ⟨e, rd, h1, h2⟩ := h
      exact step ⟨o.dst, e.v, e.ups, o.looksAt ops, rd⟩ ⟨rfl, rfl, .inl ⟨hw, h1⟩⟩ h2
    · rename_i hw
      exact step ⟨o.dst, .tup [], [], o.looksAt ops, []⟩ ⟨rfl, rfl, .inr ⟨hw, rfl, rfl⟩⟩ h
    · exact h.elim
end Go.VM
/- Regions whose order is left open: what is done ahead of what, and the rule itself. -/
namespace Go.VM
def closeL (acc : List (List Nat)) (o : Oper) : List Nat := ((o.after.toList.filter fun e => Region.binds .any e).flatMap fun e => e.on :: acc.getD e.on []).eraseDups
/-- Of each operation, all that are ahead of it in every order. -/
def precs : List Oper → List (List Nat) → List (List Nat)
  | [], acc => acc
  | o :: l, acc => precs l (acc ++ [closeL acc o])
/-- What is ahead of an operation that is listed is listed. -/
def Closed (ops : Array Oper) (L : Array Bool) : Prop := ∀ (j : Nat) (o : Oper), ops[j]? = some o → L.getD j false = true → ∀ e ∈ o.after, Region.binds .any e = true → L.getD e.on false = true
def Ahead (ops : Array Oper) (L : Array Bool) (j : Nat) : Prop := ∀ o, ops[j]? = some o → ∀ e ∈ o.after, Region.binds .any e = true → L.getD e.on false = true
theorem precs_sound {ops : Array Oper} {L : Array Bool} (hc : Closed ops L) : ∀ (l : List Oper) (acc : List (List Nat)), ops.toList.drop acc.length = l →
    (∀ (j i : Nat), j < acc.length → i ∈ acc.getD j [] → Ahead ops L j → L.getD i false = true) → ∀ (j i : Nat), i ∈ (precs l acc).getD j [] → Ahead ops L j → L.getD i false = true
  | [], acc, hd, h, j, i, hi, ha => by
    simp only [precs] at hi
    by_cases hj : j < acc.length
    · exact h j i hj hi ha
    · rw [List.getD_eq_getElem?_getD, List.getElem?_eq_none (by omega)] at hi
      simp at hi
  | o :: l, acc, hd, h, j, i, hi, ha => by
    have hoi : ops[acc.length]? = some o := by
      have : (ops.toList.drop acc.length)[0]? = some o := by rw [hd]; rfl
      simpa using this
    simp only [precs] at hi
    refine precs_sound hc l (acc ++ [closeL acc o]) ?_ ?_ j i hi ha
    · have : (ops.toList.drop acc.length).drop 1 = l := by rw [hd]; rfl
      simpa [List.drop_drop] using this
    · intro j i hj hi ha
      simp only [List.length_append,List.length_cons,List.length_nil] at hj
      by_cases hj' : j < acc.length
      · rw [List.getD_eq_getElem?_getD, List.getElem?_append_left hj', ← List.getD_eq_getElem?_getD] at hi
        exact h j i hj' hi ha
      · have : j = acc.length := by omega
        subst this
        rw [List.getD_eq_getElem?_getD, List.getElem?_append_right (by omega)] at hi
        simp only [Nat.sub_self,List.getElem?_cons_zero,Option.getD_some,closeL,List.mem_eraseDups,List.mem_flatMap,List.mem_filter,Array.mem_toList_iff,List.mem_cons] at hi
        obtain ⟨e, ⟨he, hb⟩, hi⟩ := hi
        have hL := ha o hoi e he hb
        rcases hi with rfl | hi
        · exact hL
        · by_cases hlt : e.on < acc.length
          · exact h e.on i hlt hi (fun o' ho' => hc e.on o' ho' hL)
          · rw [List.getD_eq_getElem?_getD, List.getElem?_eq_none (by omega)] at hi
            simp at hi
end Go.VM
/- Regions whose order is left open: an operation that may go next does what it did in the order of the text. -/
namespace Go.VM
def pairsOk (pre : List (List Nat)) (its : List It) : Bool :=
  (List.range its.length).all fun j => (List.range j).all fun i => (pre.getD j []).contains i || (match its[i]?, its[j]? with | some x, some y => sepIt x y | _, _ => false)
def edgesOk (ops : Array Oper) : Bool := ops.toList.zipIdx.all fun p => p.1.after.toList.all fun e => !Region.binds .any e || decide (e.on < p.2)
def marks (L : Array Bool) (its : List It) : List (Bool × It) := its.zipIdx.map fun p => (L.getD p.2 false, p.1)
theorem marks_get (L : Array Bool) (its : List It) (j : Nat) : (marks L its)[j]? = (its[j]?).map fun x => (L.getD j false, x) := by
  simp [marks,List.getElem?_map,List.getElem?_zipIdx]
  cases its[j]? <;> rfl
theorem marks_length (L : Array Bool) (its : List It) : (marks L its).length = its.length := by simp [marks]
theorem marks_snd (L : Array Bool) (its : List It) : (marks L its).map (·.2) = its := by
  refine List.ext_getElem? (fun j => ?_)
  rw [List.getElem?_map, marks_get]
  cases its[j]? <;> rfl
theorem foldS_append : ∀ (a b : List (Bool × It)) (s : ES), foldS (a ++ b) s = foldS b (foldS a s)
  | [], b, s => rfl
  | (m, x) :: a, b, s => by simp only [List.cons_append,foldS]; exact foldS_append a b _
theorem foldS_false : ∀ (l : List It) (s : ES), foldS (l.map fun x => (false, x)) s = s
  | [], s => rfl
  | x :: l, s => by simp only [List.map_cons,foldS,Bool.false_eq_true,if_false]; exact foldS_false l s
/-- The first 'i' are marked. -/
def firsts (i : Nat) (its : List It) : List (Bool × It) := (its.take i).map (fun x => (true, x)) ++ (its.drop i).map (fun x => (false, x))
theorem firsts_fold (i : Nat) (its : List It) (s : ES) : foldS (firsts i its) s = foldI (its.take i) s := by
  rw [firsts, foldS_append, foldS_false]; rfl
theorem firsts_snd (i : Nat) (its : List It) : (firsts i its).map (·.2) = its := by
  simp [firsts,List.map_map,Function.comp_def]
theorem firsts_get {i j : Nat} {its : List It} {y : Bool × It} (h : (firsts i its)[j]? = some y) : y.1 = decide (j < i) ∧ its[j]? = some y.2 := by
  have h2 : its[j]? = some y.2 := by
    have := congrArg (fun l => l[j]?) (firsts_snd i its)
    simp only [List.getElem?_map,h,Option.map_some] at this
    exact this.symm
  refine ⟨?_, h2⟩
  have hj := lt_of_getl h2
  simp only [firsts] at h
  by_cases hji : j < i
  · rw [List.getElem?_append_left (by simp; omega), List.getElem?_map] at h
    obtain ⟨x, _, rfl⟩ := Option.map_eq_some_iff.1 h
    simp [hji]
  · rw [List.getElem?_append_right (by simp; omega), List.getElem?_map] at h
    obtain ⟨x, _, rfl⟩ := Option.map_eq_some_iff.1 h
    simp [hji]
theorem sep_of {ops : Array Oper} {L : Array Bool} {its : List It} (hc : Closed ops L) (hp : pairsOk (precs ops.toList []) its = true) {i j : Nat} {x y : It} (hi : its[i]? = some x) (hj : its[j]? = some y) (hL : L.getD i false = false) (ha : Ahead ops L i)
    (hd : (j < i ∧ L.getD j false = false) ∨ (i < j ∧ L.getD j false = true)) : Sep y x := by
  have all : ∀ a b x y, its[a]? = some x → its[b]? = some y → a < b → a ∈ (precs ops.toList []).getD b [] ∨ Sep x y := by
    intro a b x y h1 h2 hab
    have hb := lt_of_getl h2
    have := List.all_eq_true.1 (List.all_eq_true.1 hp b (List.mem_range.2 hb)) a (List.mem_range.2 hab)
    simp only [Bool.or_eq_true,h1,h2] at this
    rcases this with h | h
    · exact .inl (by simpa using h)
    · exact .inr (sepIt_sep h)
  have snd := precs_sound hc ops.toList [] (by simp) (fun j i h => by simp at h)
  rcases hd with ⟨h1, h2⟩ | ⟨h1, h2⟩
  · rcases all j i y x hj hi h1 with h | h
    · rw [snd i j h ha] at h2; cases h2
    · exact h
  · rcases all i j x y hi hj h1 with h | h
    · rw [snd j i h (fun o ho => hc j o ho h2)] at hL; cases hL
    · exact h.symm
theorem sees {ops : Array Oper} {L : Array Bool} {its : List It} {s0 : ES} (hc : Closed ops L) (hp : pairsOk (precs ops.toList []) its = true) {i : Nat} {x : It} (hi : its[i]? = some x) (hL : L.getD i false = false) (ha : Ahead ops L i) :
    (∀ t ∈ x.looks, (foldS (marks L its) s0).1 t = (foldI (its.take i) s0).1 t) ∧ (∀ r ∈ x.rd, (foldS (marks L its) s0).2 r = (foldI (its.take i) s0).2 r) := by
  have key : ∀ (j : Nat) (y z : Bool × It), (marks L its)[j]? = some y → (firsts i its)[j]? = some z → y.1 ≠ z.1 → Sep y.2 x := by
    intro j y z hy hz hne
    rw [marks_get] at hy
    obtain ⟨y', h1, rfl⟩ := Option.map_eq_some_iff.1 hy
    obtain ⟨h2, h3⟩ := firsts_get hz
    rw [h2] at hne
    simp only [ne_eq] at hne
    refine sep_of hc hp hi h1 hL ha ?_
    by_cases hji : j < i
    · refine .inl ⟨hji, ?_⟩
      cases hLj : L.getD j false with
      | false => rfl
      | true => rw [hLj] at hne; simp [hji] at hne
    · have hLj : L.getD j false = true := by
        cases hLj : L.getD j false with
        | true => rfl
        | false => rw [hLj] at hne; simp [hji] at hne
      have : j ≠ i := fun e => by rw [e, hL] at hLj; cases hLj
      exact .inr ⟨by omega, hLj⟩
  refine ⟨fun t ht => ?_, fun r hr => ?_⟩
  · rw [← firsts_fold]
    exact foldS_env (by rw [marks_snd, firsts_snd]) rfl (fun j y z hy hz hne e => (key j y z hy hz hne).d1 t e ht)
  · rw [← firsts_fold]
    exact foldS_st (by rw [marks_snd, firsts_snd]) rfl (fun j y z hy hz hne e => (key j y z hy hz hne).r1 r e hr)
theorem marks_set {ops : Array Oper} {L : Array Bool} {its : List It} {s0 : ES} (hc : Closed ops L) (hp : pairsOk (precs ops.toList []) its = true) {i : Nat} {x : It} (hi : its[i]? = some x) (hL : L.getD i false = false) (ha : Ahead ops L i) (hsz : i < L.size) :
    foldS (marks (L.setIfInBounds i true) its) s0 = x.app (foldS (marks L its) s0) := by
  have hlt := lt_of_getl hi
  have split : ∀ (M : Array Bool), marks M its = (marks M its).take i ++ (M.getD i false, x) :: (marks M its).drop (i + 1) := by
    intro M
    have hget : (marks M its)[i]? = some (M.getD i false, x) := by rw [marks_get, hi]; rfl
    have h1 : (marks M its).drop i = (M.getD i false, x) :: (marks M its).drop (i + 1) := by
      rw [List.drop_eq_getElem_cons (by rw [marks_length]; exact hlt)]
      congr 1
      rw [List.getElem?_eq_getElem (by rw [marks_length]; exact hlt)] at hget
      simpa using hget
    rw [← h1, List.take_append_drop]
  have ne : ∀ j, j ≠ i → (L.setIfInBounds i true).getD j false = L.getD j false := fun j hj => by
    simp only [Array.getD_eq_getD_getElem?]; rw [Array.getElem?_setIfInBounds_ne (fun e => hj e.symm)]
  have h1 : (marks (L.setIfInBounds i true) its).take i = (marks L its).take i := by
    refine List.ext_getElem? (fun j => ?_)
    rw [List.getElem?_take, List.getElem?_take]
    split
    · rw [marks_get, marks_get, ne j (by omega)]
    · rfl
  have h2 : (marks (L.setIfInBounds i true) its).drop (i + 1) = (marks L its).drop (i + 1) := by
    refine List.ext_getElem? (fun j => ?_)
    rw [List.getElem?_drop, List.getElem?_drop, marks_get, marks_get, ne _ (by omega)]
  have h3 : (L.setIfInBounds i true).getD i false = true := by
    rw [Array.getD_eq_getD_getElem?, Array.getElem?_setIfInBounds_self_of_lt hsz]; rfl
  rw [split (L.setIfInBounds i true), split L, h1, h2, h3, hL, foldS_append, foldS_append]
  simp only [foldS,if_true,Bool.false_eq_true,if_false]
  refine foldS_last (fun y hy hm => ?_)
  obtain ⟨j, hj⟩ := List.mem_iff_getElem?.1 hy
  rw [List.getElem?_drop, marks_get] at hj
  obtain ⟨y', h4, rfl⟩ := Option.map_eq_some_iff.1 hj
  exact (sep_of hc hp hi h4 hL ha (.inr ⟨by omega, hm⟩)).symm
end Go.VM
/- Regions whose order is left open: the rule. -/
namespace Go.VM
def unl (n : Nat) (L : Array Bool) : List Nat := (List.range n).filter fun j => !L.getD j false
theorem unl_set {n i : Nat} {L : Array Bool} (hi : i < n) (hL : L.getD i false = false) (hs : i < L.size) : (unl n (L.setIfInBounds i true)).length < (unl n L).length := by
  have h1 : unl n (L.setIfInBounds i true) = (unl n L).filter (fun j => decide (j ≠ i)) := by
    simp only [unl,List.filter_filter]
    refine List.filter_congr (fun j _ => ?_)
    by_cases e : j = i
    · subst e
      rw [Array.getD_eq_getD_getElem?, Array.getElem?_setIfInBounds_self_of_lt hs]; simp
    · rw [Array.getD_eq_getD_getElem?, Array.getElem?_setIfInBounds_ne (fun h => e h.symm), ← Array.getD_eq_getD_getElem?]; simp [e]
  rw [h1]
  refine List.length_filter_lt_length_iff_exists.2 ⟨i, ?_, by simp⟩
  simp only [unl,List.mem_filter,List.mem_range]
  exact ⟨hi, by simp only [hL]; rfl⟩
theorem all_listed {n : Nat} {L : Array Bool} (h : (unl n L).length = 0) : ∀ j, j < n → L.getD j false = true := by
  intro j hj
  have : unl n L = [] := List.eq_nil_of_length_eq_zero h
  simp only [unl,List.filter_eq_nil_iff,List.mem_range] at this
  simpa using this j hj
theorem ready_some {ops : Array Oper} {L : Array Bool} (he : edgesOk ops = true) (hs : L.size = ops.size) (h : Region.ready .any ops L = []) : ∀ j, j < ops.size → L.getD j false = true := by
  intro j
  induction j using Nat.strongRecOn with
  | _ j ih =>
    intro hj
    cases hL : L.getD j false with
    | true => rfl
    | false =>
      exfalso
      have : j ∈ Region.ready .any ops L := by
        rw [mem_ready]
        refine ⟨?_, ops[j], Array.getElem?_eq_getElem hj, fun e hm hb => ?_⟩
        · rw [Array.getD_eq_getD_getElem?, Array.getElem?_eq_getElem (by omega)] at hL ⊢
          simpa using hL
        · have := List.all_eq_true.1 he (ops[j], j) (List.mem_zipIdx_iff_getElem?.2 (by simp [Array.getElem?_eq_getElem hj]))
          have := List.all_eq_true.1 this e (by simpa using hm)
          simp only [hb,Bool.not_true,Bool.false_or,decide_eq_true_eq] at this
          exact ih e.on this (by omega)
      rw [h] at this
      cases this
end Go.VM
/- Regions whose order is left open: the rule itself. -/
namespace Go.VM
def frL (nx : Nat) (L : Array Bool) : Nat → Prop := fun x => nx ≤ x ∧ ∀ i, L.getD i false = true → ¬ Mine (nx + 1024 * i) x
theorem wantedV_congr {ops : Array Oper} {o : Oper} {env env' : Nat → VV} (h : ∀ t ∈ o.looksAt ops, env' t = env t) : wantedV ops o env' = wantedV ops o env := by
  unfold wantedV
  cases hg : o.guard with
  | none => rfl
  | some g =>
    obtain ⟨j, want⟩ := g
    simp only
    cases hd : (ops[j]?).bind (·.dst) with
    | none => rfl
    | some d =>
      simp only
      rw [h d (by simp [Oper.looksAt,hg,hd])]
theorem draw_sound {P : Program} {ops : Array Oper} {nx n K : Nat} {Q : Exit → FS → Prop} {its : List It} {s0 : ES} {w0 : World} {ow0 : Own} {bs0 : Base} (hd : dstOk n ops.toList = true) (he : edgesOk ops = true) (hp : pairsOk (precs ops.toList []) its = true) (hlen : its.length = ops.size)
    (hit : ∀ (j : Nat) (x : It), its[j]? = some x → ∃ o, ops[j]? = some o ∧ ItOk P ops nx j o (foldI (its.take j) s0) x) (hQ : Q .normal ⟨(foldI its s0).1, (foldI its s0).2, nx + 1024 * ops.size⟩) (hK : K ≤ nx) :
    ∀ (fuel : Nat) (L : Array Bool) {w ow bs a}, L.size = ops.size → Closed ops L → (unl ops.size L).length ≤ fuel → Since K w0 ow0 bs0 w ow bs → Rel w ow bs (foldS (marks L its) s0).2 (frL nx L) → RelE w ow bs (foldS (marks L its) s0).2 (frL nx L) (foldS (marks L its) s0).1 a → a.tmps.size = n → a.defers = [] →
      wpAny P .any ops (Post n K Q w0 ow0 bs0) fuel L a w := by
  have fin : ∀ (L : Array Bool) {w ow bs a}, L.size = ops.size → (∀ j, j < ops.size → L.getD j false = true) → Since K w0 ow0 bs0 w ow bs → Rel w ow bs (foldS (marks L its) s0).2 (frL nx L) → RelE w ow bs (foldS (marks L its) s0).2 (frL nx L) (foldS (marks L its) s0).1 a → a.tmps.size = n → a.defers = [] → Post n K Q w0 ow0 bs0 .normal a w := by
    intro L w ow bs a hLs hall hs hr hE hsz hdf
    have hm : marks L its = its.map fun x => (true, x) := by
      refine List.ext_getElem? (fun j => ?_)
      rw [marks_get, List.getElem?_map]
      cases hj : its[j]? with
      | none => rfl
      | some x => simp only [Option.map_some]; rw [hall j (by have := lt_of_getl hj; omega)]
    rw [hm] at hr hE
    have hsub : ∀ x, nx + 1024 * ops.size ≤ x → frL nx L x := by
      intro x hx
      refine ⟨by omega, fun i hi hmine => ?_⟩
      simp only [Mine] at hmine
      have : i < L.size := by
        rcases Nat.lt_or_ge i L.size with h | h
        · exact h
        · rw [Array.getD_eq_getD_getElem?, Array.getElem?_eq_none h] at hi; cases hi
      omega
    exact ⟨_, ow, bs, hQ, hs, hr.shrink hsub, hE.mono (Kept.refl _ _) (Quiet.shrink hsub), hsz, hdf, by show K ≤ nx + 1024 * ops.size; omega⟩
  have step : ∀ (L : Array Bool) (M : Act → World → Prop) {w ow bs a} (i : Nat), L.size = ops.size → Closed ops L → i ∈ Region.ready .any ops L → Since K w0 ow0 bs0 w ow bs → Rel w ow bs (foldS (marks L its) s0).2 (frL nx L) → RelE w ow bs (foldS (marks L its) s0).2 (frL nx L) (foldS (marks L its) s0).1 a → a.tmps.size = n → a.defers = [] →
      (∀ {w ow bs a}, Since K w0 ow0 bs0 w ow bs → Rel w ow bs (foldS (marks (L.setIfInBounds i true) its) s0).2 (frL nx (L.setIfInBounds i true)) → RelE w ow bs (foldS (marks (L.setIfInBounds i true) its) s0).2 (frL nx (L.setIfInBounds i true)) (foldS (marks (L.setIfInBounds i true) its) s0).1 a → a.tmps.size = n → a.defers = [] → M a w) →
      wpOp P ops (Post n K Q w0 ow0 bs0) i M a w := by
    intro L M w ow bs a i hs hc hi hsn hr hE hsz hdf hM
    rw [mem_ready] at hi
    obtain ⟨h0, o, hoi, hahead⟩ := hi
    have hlt : i < ops.size := (Array.getElem?_eq_some_iff.1 hoi).1
    have hL : L.getD i false = false := by
      rw [Array.getD_eq_getD_getElem?, Array.getElem?_eq_getElem (by omega)] at h0 ⊢
      simpa using h0
    obtain ⟨x, hx⟩ : ∃ x, its[i]? = some x := ⟨_, List.getElem?_eq_getElem (by omega)⟩
    obtain ⟨o', ho', hdst, hlooks, hcase⟩ := hit i x hx
    rw [hoi] at ho'
    simp only [Option.some.injEq] at ho'
    subst ho'
    have ha : Ahead ops L i := by
      intro o' ho' e hm hb
      rw [hoi] at ho'
      simp only [Option.some.injEq] at ho'
      subst ho'
      exact hahead e hm hb
    obtain ⟨se, sr⟩ := sees (s0 := s0) hc hp hx hL ha
    rw [marks_set (s0 := s0) hc hp hx hL ha (by omega)] at hM
    have hw := wantedV_congr (ops := ops) (o := o) (fun t ht => se t (by rw [hlooks]; exact ht))
    have hdb : ∀ (j : Nat) o' d, ops[j]? = some o' → o'.dst = some d → d < a.tmps.size := by
      intro j o' d hj hd'
      have hm : o' ∈ ops.toList := by
        have : ops.toList[j]? = some o' := by simpa using hj
        exact List.mem_of_getElem? this
      have := List.all_eq_true.1 hd o' hm
      simp only [hd',decide_eq_true_eq] at this
      rw [hsz]
      exact this
    have hsub : ∀ y, frL nx (L.setIfInBounds i true) y → minus (frL nx L) (nx + 1024 * i) y := by
      intro y hy
      refine ⟨⟨hy.1, fun j hj => hy.2 j (getD_set_true hj)⟩, hy.2 i ?_⟩
      rw [Array.getD_eq_getD_getElem?, Array.getElem?_setIfInBounds_self_of_lt (by omega)]; rfl
    unfold wpOp
    simp only [hoi]
    rcases hcase with ⟨hw1, hat⟩ | ⟨hw1, hv, hups⟩
    · rw [wantedV_run hE (hw.trans hw1) hdb]
      simp only [if_true]
      refine .inl (hat _ _ (fun t ht => se t (by rw [hlooks]; exact List.mem_append_left _ ht)) sr w ow bs (frL nx L) a hr hE (fun c hc' => ⟨by omega, fun j hj hm => ?_⟩) _ _ fun val w' ow' bs' h1 h2 h3 h4 => ?_)
      · have : j ≠ i := fun e => by rw [e, hL] at hj; cases hj
        simp only [Mine] at hm
        omega
      · have hE' := (hE.mono h1.kept h4).put h3 (fun d hd' => hdb i o d hoi hd')
        refine hM (hsn.trans ⟨h1, fun r hr => h4.base r (fun hx => by have := hx.1; omega)⟩) (h2.shrink hsub) ?_ (by rw [put_size]; exact hsz) (by rw [put_defers]; exact hdf)
        have := hE'.mono (Kept.refl _ _) (Quiet.shrink hsub)
        simpa only [It.app, hdst] using this
    · rw [wantedV_run hE (hw.trans hw1) hdb]
      simp only [Bool.false_eq_true,if_false]
      have hsub2 : ∀ y, frL nx (L.setIfInBounds i true) y → frL nx L y := fun y hy => (hsub y hy).1
      have hE' := hE.put (v := .tup []) (val := undef) (.tup (vs := #[]) rfl (fun k x hx => by simp at hx)) (fun d hd' => hdb i o d hoi hd')
      refine hM hsn ?_ ?_ (by rw [put_size]; exact hsz) (by rw [put_defers]; exact hdf)
      · simp only [It.app,hups,St.ups_nil]; exact hr.shrink hsub2
      · have := hE'.mono (Kept.refl _ _) (Quiet.shrink hsub2)
        simpa only [It.app, hups, hv, hdst, St.ups_nil] using this
  have closed : ∀ (L : Array Bool) (i : Nat), L.size = ops.size → Closed ops L → i ∈ Region.ready .any ops L → Closed ops (L.setIfInBounds i true) := by
    intro L i hs hc hi j o ho hj e hm hb
    rw [mem_ready] at hi
    obtain ⟨h0, oi, h1, h2⟩ := hi
    by_cases e1 : j = i
    · subst e1
      rw [h1] at ho
      simp only [Option.some.injEq] at ho
      subst ho
      exact getD_set_true (h2 e hm hb)
    · rw [getD_set_ne false (fun x => e1 x.symm)] at hj
      exact getD_set_true (hc j o ho hj e hm hb)
  intro fuel
  induction fuel with
  | zero =>
    intro L w ow bs a hs hc hu hsn hr hE hsz hdf
    have hall := all_listed (n := ops.size) (L := L) (by omega)
    refine ⟨?_, fin L hs hall hsn hr hE hsz hdf⟩
    apply List.eq_nil_iff_forall_not_mem.2
    intro j hj
    rw [mem_ready] at hj
    obtain ⟨h0, o, h1, _⟩ := hj
    have hlt : j < ops.size := (Array.getElem?_eq_some_iff.1 h1).1
    have := hall j hlt
    rw [Array.getD_eq_getD_getElem?, Array.getElem?_eq_getElem (by omega)] at this h0
    simp at this h0
    rw [this] at h0; cases h0
  | succ fuel ih =>
    intro L w ow bs a hs hc hu hsn hr hE hsz hdf
    refine ⟨fun h => fin L hs (ready_some he hs h) hsn hr hE hsz hdf, fun i hi => ?_⟩
    refine step L _ i hs hc hi hsn hr hE hsz hdf (fun h1 h2 h3 h4 h5 => ih (L.setIfInBounds i true) (by simpa using hs) (closed L i hs hc hi) ?_ h1 h2 h3 h4 h5)
    rw [mem_ready] at hi
    obtain ⟨h0, o, h1', _⟩ := hi
    have hlt : i < ops.size := (Array.getElem?_eq_some_iff.1 h1').1
    have hL : L.getD i false = false := by
      rw [Array.getD_eq_getD_getElem?, Array.getElem?_eq_getElem (by omega)] at h0 ⊢
      simpa using h0
    have := unl_set hlt hL (by omega)
    omega
end Go.VM
namespace Go.VM
theorem vw_region_draw {P : Program} {n K id : Nat} {ops : Array Oper} {Q : Exit → FS → Prop} {s : FS} (hm : P.follows .mixedOrders = true) (hd : dstOk n ops.toList = true) (he : edgesOk ops = true)
    (h : runD P ops s.nx 0 ops.toList s.env s.st [] (fun its env st => pairsOk (precs ops.toList []) its = true ∧ Q .normal ⟨env, st, s.nx + 1024 * ops.size⟩)) : VW P n K (.region id ops true) Q s := by
  intro w ow bs a ha
  refine wp_region_any hm ?_
  obtain ⟨its, h1, h2, h3, h4⟩ := runD_items (s0 := (s.env, s.st)) ops.toList 0 (acc := []) (by simp) (by simp) rfl rfl (fun j x hj => by simp at hj) h
  have hk : Kept w ow { w with drawn := w.drawn + 1 } ow := Kept.heap rfl
  have hs : Steady w ow { w with drawn := w.drawn + 1 } ow := ⟨hk, Nat.le_refl _, rfl, rfl, rfl⟩
  have hfl : ∀ j, (Array.replicate ops.size false).getD j false = false := by
    intro j
    rw [Array.getD_eq_getD_getElem?, Array.getElem?_replicate]
    split <;> rfl
  have hmk : foldS (marks (Array.replicate ops.size false) its) (s.env, s.st) = (s.env, s.st) := by
    have : marks (Array.replicate ops.size false) its = its.map fun x => (false, x) := by
      refine List.ext_getElem? (fun j => ?_)
      rw [marks_get, List.getElem?_map, hfl]
    rw [this, foldS_false]
  have hsub : ∀ x, frL s.nx (Array.replicate ops.size false) x → s.nx ≤ x := fun x hx => hx.1
  refine draw_sound (s0 := (s.env, s.st)) (w0 := w) (ow0 := ow) (bs0 := bs) hd he h3 h1 h2 h4 ha.old ops.size _ (by simp) ?_ ?_ ⟨hs, fun _ _ => rfl⟩ ?_ ?_ ha.size ha.defers
  · intro j o _ hj
    rw [hfl] at hj; cases hj
  · exact Nat.le_trans (List.length_filter_le _ _) (by simp)
  · rw [hmk]; exact (ha.rel.heap (w' := { w with drawn := w.drawn + 1 }) rfl).shrink hsub
  · rw [hmk]; exact (ha.env.mono hk (Quiet.refl _ _ _)).mono (Kept.refl _ _) (Quiet.shrink hsub)
end Go.VM
/- Frames made small: what is not live is forgotten, roots get other numbers; nothing turns in memory. -/
namespace Go.VM
/-- Memory that stands for 's' stands for 's'' as it is. -/
def Norm (n K : Nat) (s s' : FS) : Prop := ∀ w ow bs a, At n K s w ow bs a → ∃ ow' bs', Since K w ow bs w ow' bs' ∧ At n K s' w ow' bs' a
theorem vw_norm {P : Program} {n K : Nat} {c : Code} {Q : Exit → FS → Prop} {s s' : FS} (h : Norm n K s s') (k : VW P n K c Q s') : VW P n K c Q s := by
  intro w ow bs a ha
  obtain ⟨ow', bs', hs, ha'⟩ := h w ow bs a ha
  exact wp_mono (k w ow' bs' a ha') fun e a'' w'' hp => hp.mono hs fun _ h => h
abbrev Ren := List (Nat × Nat)
def Ren.go (ρ : Ren) (r : Nat) : Option Nat := (ρ.find? fun p => p.1 == r).map (·.2)
def Ren.from (ρ : Ren) (r : Nat) : Option Nat := (ρ.find? fun p => p.2 == r).map (·.1)
mutual
def renV (ρ : Ren) : VV → VV
  | .al r p m sz off len => (match ρ.go r with | some r' => .al r' p m sz off len | none => .undef)
  | .ptr r p m i j => (match ρ.go r with | some r' => .ptr r' p m i j | none => .undef)
  | .agg cs => .agg (renVs ρ cs)
  | .tup cs => .tup (renVs ρ cs)
  | .bxv cs => .bxv (renVs ρ cs)
  | x => x
def renVs (ρ : Ren) : List VV → List VV
  | [] => []
  | x :: xs => renV ρ x :: renVs ρ xs
end
theorem renVs_get {ρ : Ren} : ∀ {cs : List VV} {k : Nat} {y : VV}, (renVs ρ cs)[k]? = some y → ∃ x, cs[k]? = some x ∧ y = renV ρ x
  | [], k, y, h => by simp [renVs] at h
  | c :: cs, k, y, h => by
    cases k with
    | zero => simp [renVs] at h; exact ⟨c, rfl, h.symm⟩
    | succ k =>
      obtain ⟨x, h1, h2⟩ := renVs_get (cs := cs) (k := k) (by simpa [renVs] using h)
      exact ⟨x, by simpa using h1, h2⟩
theorem renVs_length {ρ : Ren} : ∀ (cs : List VV), (renVs ρ cs).length = cs.length
  | [] => rfl
  | c :: cs => by simp [renVs,renVs_length cs]
def Ren.ok (ρ : Ren) (K N : Nat) : Bool := decide ((ρ.map (·.1)).Nodup) && decide ((ρ.map (·.2)).Nodup) && ρ.all fun p => decide (p.2 < N) && (p.1 == p.2 || decide (K ≤ p.2))
theorem Ren.go_mem {ρ : Ren} {r r' : Nat} (h : ρ.go r = some r') : (r, r') ∈ ρ := by
  unfold Ren.go at h
  obtain ⟨p, h1, rfl⟩ := Option.map_eq_some_iff.1 h
  have := List.find?_some h1
  simp only [beq_iff_eq] at this
  have hm := List.mem_of_find?_eq_some h1
  rw [← this]; exact hm
theorem nodup_fst {l : List (Nat × Nat)} (h : (l.map (·.1)).Nodup) {a b c : Nat} (h1 : (a, b) ∈ l) (h2 : (a, c) ∈ l) : b = c := by
  induction l with
  | nil => cases h1
  | cons x l ih =>
    simp only [List.map_cons,List.nodup_cons] at h
    rcases List.mem_cons.1 h1 with e1 | e1
    · rcases List.mem_cons.1 h2 with e2 | e2
      · rw [← e1] at e2; simpa using e2.symm
      · exact absurd (List.mem_map.2 ⟨_, e2, by rw [← e1]⟩) h.1
    · rcases List.mem_cons.1 h2 with e2 | e2
      · exact absurd (List.mem_map.2 ⟨_, e1, by rw [← e2]⟩) h.1
      · exact ih h.2 e1 e2
theorem nodup_snd {l : List (Nat × Nat)} (h : (l.map (·.2)).Nodup) {a b c : Nat} (h1 : (b, a) ∈ l) (h2 : (c, a) ∈ l) : b = c := by
  induction l with
  | nil => cases h1
  | cons x l ih =>
    simp only [List.map_cons,List.nodup_cons] at h
    rcases List.mem_cons.1 h1 with e1 | e1
    · rcases List.mem_cons.1 h2 with e2 | e2
      · rw [← e1] at e2; simp at e2; exact e2.symm
      · exact absurd (List.mem_map.2 ⟨_, e2, by rw [← e1]⟩) h.1
    · rcases List.mem_cons.1 h2 with e2 | e2
      · exact absurd (List.mem_map.2 ⟨_, e1, by rw [← e2]⟩) h.1
      · exact ih h.2 e1 e2
theorem Ren.go_of {ρ : Ren} (h : (ρ.map (·.1)).Nodup) {r r' : Nat} (hm : (r, r') ∈ ρ) : ρ.go r = some r' := by
  cases hg : ρ.go r with
  | some x => rw [nodup_fst h (Ren.go_mem hg) hm]
  | none =>
    unfold Ren.go at hg
    simp only [Option.map_eq_none_iff,List.find?_eq_none] at hg
    exact absurd (hg _ hm) (by simp)
theorem Ren.from_mem {ρ : Ren} {r r' : Nat} (h : ρ.from r' = some r) : (r, r') ∈ ρ := by
  unfold Ren.from at h
  obtain ⟨p, h1, rfl⟩ := Option.map_eq_some_iff.1 h
  have := List.find?_some h1
  simp only [beq_iff_eq] at this
  have hm := List.mem_of_find?_eq_some h1
  rw [← this]; exact hm
theorem Ren.from_of {ρ : Ren} (h : (ρ.map (·.2)).Nodup) {r r' : Nat} (hm : (r, r') ∈ ρ) : ρ.from r' = some r := by
  cases hg : ρ.from r' with
  | some x => rw [nodup_snd h (Ren.from_mem hg) hm]
  | none =>
    unfold Ren.from at hg
    simp only [Option.map_eq_none_iff,List.find?_eq_none] at hg
    exact absurd (hg _ hm) (by simp)
def owN (ρ : Ren) (ow : Own) : Own := fun b => match ow b with | some (r, p) => (match ρ.go r with | some r' => some (r', p) | none => none) | none => none
def bsN (ρ : Ren) (bs : Base) : Base := fun ℓ => match ρ.from ℓ.1 with | some r => bs (r, ℓ.2) | none => bs ℓ
theorem renV_rel {w : World} {ow : Own} {bs : Base} {st st' : St} {fr : Nat → Prop} {ρ : Ren} {K N : Nat} (hρ : ρ.ok K N = true) (hst : ∀ r r' R, (r, r') ∈ ρ → st' r' = some R → st r = some R) {x : VV} {v : Value} (h : RelV w ow bs st fr x v) :
    RelV w (owN ρ ow) (bsN ρ bs) st' (fun x => N ≤ x) (renV ρ x) v := by
  simp only [Ren.ok,Bool.and_eq_true,decide_eq_true_eq,List.all_eq_true,Bool.or_eq_true,beq_iff_eq] at hρ
  obtain ⟨⟨hn1, hn2⟩, hall⟩ := hρ
  have hkept : Kept w ow w (owN ρ ow) := fun b hb _ => ⟨rfl, by simp [owN,hb]⟩
  have hbs : ∀ r r' p, (r, r') ∈ ρ → bsN ρ bs (r', p) = bs (r, p) := by
    intro r r' p hm
    simp only [bsN,Ren.from_of hn2 hm]
  have hstill : ∀ r r' p m, (r, r') ∈ ρ → Still st' r' p m → Still st r p m := by
    intro r r' p m hm hs
    rcases hs with hs | ⟨R, h1, h2⟩
    · exact .inl hs
    · exact .inr ⟨R, hst r r' R hm h1, h2⟩
  induction h with
  | c h => simp only [renV]; exact .c (h.mono hkept)
  | nils => simp only [renV]; exact .nils
  | @al r p m sz off len v hf h hv hm =>
    simp only [renV]
    cases hg : ρ.go r with
    | none => exact .undef
    | some r' =>
      have hm' := Ren.go_mem hg
      refine .al ?_ (fun hs => ?_) hv (fun R hR => hm R (hst r r' R hm' hR))
      · have := (hall _ hm').1
        omega
      · rw [hbs r r' p hm']; exact h (hstill r r' p m hm' hs)
  | @ptr r p m i j v hf h hv hm =>
    simp only [renV]
    cases hg : ρ.go r with
    | none => exact .undef
    | some r' =>
      have hm' := Ren.go_mem hg
      refine .ptr ?_ (fun hs => ?_) hv (fun R hR => hm R (hst r r' R hm' hR))
      · have := (hall _ hm').1
        omega
      · rw [hbs r r' p hm']; exact h (hstill r r' p m hm' hs)
  | agg hl _ ih =>
    simp only [renV]
    refine .agg (by rw [renVs_length]; exact hl) (fun k x hx => ?_)
    obtain ⟨y, h1, rfl⟩ := renVs_get hx
    exact ih k y h1
  | tup hl _ ih =>
    simp only [renV]
    refine .tup (by rw [renVs_length]; exact hl) (fun k x hx => ?_)
    obtain ⟨y, h1, rfl⟩ := renVs_get hx
    exact ih k y h1
  | rop spot own blk fits cells =>
    simp only [renV]
    have hb := hkept _ own (lt_of_get blk)
    exact .rop spot hb.2 blk fits (fun j x hx => (cells j x hx).mono hkept)
  | bxv spot own blk fits _ ih =>
    simp only [renV]
    have hb := hkept _ own (lt_of_get blk)
    refine .bxv spot hb.2 blk (by rw [renVs_length]; exact fits) (fun j x hx => ?_)
    obtain ⟨y, h1, rfl⟩ := renVs_get hx
    exact ih j y h1
  | fn hl hh ih =>
    simp only [renV] at ih ⊢
    exact .fn hl ih
  | undef => simp only [renV]; exact .undef
/-! ### frames by tables -/
def tabE : List (Nat × VV) → Nat → VV
  | [], _ => .undef
  | (k, v) :: l, t => if t = k then v else tabE l t
def tabS : List (Nat × Option Root) → St
  | [], _ => none
  | (k, R) :: l, r => if r = k then R else tabS l r
theorem tabE_mem : ∀ {l : List (Nat × VV)} {t : Nat}, tabE l t = .undef ∨ (t, tabE l t) ∈ l
  | [], t => .inl rfl
  | (k, v) :: l, t => by
    simp only [tabE]
    split
    · rename_i e; subst e; exact .inr (by simp)
    · rcases tabE_mem (l := l) (t := t) with h | h
      · exact .inl h
      · exact .inr (List.mem_cons_of_mem _ h)
theorem tabS_mem : ∀ {l : List (Nat × Option Root)} {r : Nat} {R : Root}, tabS l r = some R → (r, some R) ∈ l
  | [], r, R, h => by simp [tabS] at h
  | (k, R0) :: l, r, R, h => by
    simp only [tabS] at h
    split at h
    · rename_i e; subst e; rw [h]; simp
    · exact List.mem_cons_of_mem _ (tabS_mem h)
theorem dstE_tab (l : List (Nat × VV)) (d : Nat) (v : VV) : dstE (tabE l) (some d) v = tabE ((d, v) :: l) := by
  funext t; simp [dstE,setE,tabE]
theorem ups_tab (l : List (Nat × Option Root)) (r : Nat) (R : Option Root) (u : Ups) : (tabS l).ups ((r, R) :: u) = (tabS ((r, R) :: l)).ups u := by
  have h : (tabS l).put r R = tabS ((r, R) :: l) := by
    funext x; simp [St.put,tabS]
  rw [St.ups, h]
/-- The frame's live values and roots, and no more. -/
theorem norm_tab {n K : Nat} {s : FS} (ρ : Ren) (tab : List (Nat × VV)) (rts : List (Nat × Option Root)) (N : Nat) (hρ : ρ.ok K N = true) (hK : K ≤ N)
    (hE : ∀ p ∈ tab, renV ρ (s.env p.1) = p.2) (hR : ∀ p ∈ rts, ∀ R, p.2 = some R → ∃ r, ρ.from p.1 = some r ∧ s.st r = some R) : Norm n K s ⟨tabE tab, tabS rts, N⟩ := by
  intro w ow bs a ha
  have hρ' := hρ
  simp only [Ren.ok,Bool.and_eq_true,decide_eq_true_eq,List.all_eq_true,Bool.or_eq_true,beq_iff_eq] at hρ'
  obtain ⟨⟨hn1, hn2⟩, hall⟩ := hρ'
  have hkept : Kept w ow w (owN ρ ow) := fun b hb _ => ⟨rfl, by simp [owN,hb]⟩
  have hbs : ∀ r r' p, (r, r') ∈ ρ → bsN ρ bs (r', p) = bs (r, p) := by
    intro r r' p hm
    simp only [bsN,Ren.from_of hn2 hm]
  have hst : ∀ r' R, tabS rts r' = some R → ∃ r, (r, r') ∈ ρ ∧ s.st r = some R := by
    intro r' R h
    obtain ⟨r, h1, h2⟩ := hR _ (tabS_mem h) R rfl
    exact ⟨r, Ren.from_mem h1, h2⟩
  have hmoved : ∀ r r', (r, r') ∈ ρ → Moved w ow bs (r, []) w (owN ρ ow) (bsN ρ bs) (r', []) := by
    intro r r' hm
    refine ⟨fun b p hb => ⟨rfl, ?_⟩, fun p => ?_⟩
    · simp only [List.nil_append] at hb
      simp only [owN,hb,Ren.go_of hn1 hm,List.nil_append]
    · simp only [List.nil_append]; exact hbs r r' p hm
  refine ⟨owN ρ ow, bsN ρ bs, ⟨⟨hkept, Nat.le_refl _, rfl, rfl, rfl⟩, fun r hr => ?_⟩, ⟨⟨?_, ?_, ?_, ?_⟩, ?_, ha.size, ha.defers, hK⟩⟩
  · simp only [bsN]
    cases hf : ρ.from r with
    | none => rfl
    | some r0 =>
      have hm := Ren.from_mem hf
      rcases (hall _ hm).2 with e | e
      · simp only at e; rw [e]
      · simp only at e; omega
  · intro r' R h
    obtain ⟨r, hm, h2⟩ := hst r' R h
    rw [hbs r r' [] hm]
    exact (ha.rel.root r R h2).move hkept (hmoved r r' hm)
  · intro r' R h hb
    obtain ⟨r, hm, h2⟩ := hst r' R h
    rw [hbs r r' [] hm]
    exact ha.rel.box r R h2 hb
  · intro b ℓ hb
    simp only [owN] at hb
    split at hb
    · rename_i r p ho
      split at hb
      · rename_i r' hg
        simp only [Option.some.injEq] at hb
        subst hb
        have := (hall _ (Ren.go_mem hg)).1
        simp only at this
        exact ⟨by simp only; omega, (ha.rel.own b _ ho).2⟩
      · cases hb
    · cases hb
  · intro r' hr'
    cases h : tabS rts r' with
    | none => exact h
    | some R =>
      obtain ⟨r, hm, _⟩ := hst r' R h
      have := (hall _ hm).1
      simp only at this hr'
      omega
  · intro t
    rcases tabE_mem (l := tab) (t := t) with h | h
    · show RelV _ _ _ _ _ (tabE tab t) _
      rw [h]; exact .undef
    · have := hE _ h
      simp only at this
      show RelV _ _ _ _ _ (tabE tab t) _
      rw [← this]
      refine renV_rel hρ (fun r r' R hm hR' => ?_) (ha.env t)
      obtain ⟨r2, hm2, h2⟩ := hst r' R hR'
      rw [nodup_snd hn2 hm hm2]; exact h2
/-- Rounds whose heads are tables: 'tab x', 'rts x' at 'x', which gets less. -/
theorem vw_loop_tab {P : Program} {n K : Nat} {c : Code} {Q : Exit → FS → Prop} {α : Type} (μ : α → Nat) (F : α → FS) (I : α → Prop)
    (round : ∀ x, I x → VW P n K c (thenV (fun s' => ∃ y, μ y < μ x ∧ I y ∧ Norm n K s' (F y)) Q) (F x)) {x : α} {s : FS} (h0 : I x) (hn : Norm n K s (F x)) : VW P n K (.loop c) Q s := by
  refine vw_loop (fun m s => ∃ x, μ x = m ∧ I x ∧ Norm n K s (F x)) (fun m s => ?_) ⟨x, rfl, h0, hn⟩
  rintro ⟨x, rfl, hx, hn⟩
  refine vw_norm hn (vw_mono (round x hx) fun e s' h => ?_)
  cases e with
  | normal =>
    obtain ⟨y, h1, h2, h3⟩ := h
    exact ⟨μ y, h1, y, rfl, h2, h3⟩
  | _ => exact h
/-! ### one operation of a region -/
theorem runL_op {P : Program} {ops : Array Oper} {nx i : Nat} {o : Oper} {l : List Oper} {env : Nat → VV} {st : St} {K : (Nat → VV) → St → Prop} {v : VV} {u : Ups} (hw : wantedV ops o env = some true) (hv : vop P (nx + 1024 * i) o env st = some ⟨v, u⟩)
    (h : runL P ops nx (i + 1) l (dstE env o.dst v) (st.ups u) K) : runL P ops nx i (o :: l) env st K := by
  simp only [runL,hw]
  exact ⟨_, vop_ok hv, h⟩
theorem runL_ok {P : Program} {ops : Array Oper} {nx i : Nat} {o : Oper} {l : List Oper} {env : Nat → VV} {st : St} {K : (Nat → VV) → St → Prop} {v : VV} {u : Ups} (hw : wantedV ops o env = some true) (hv : OpOk P (nx + 1024 * i) o env st ⟨v, u⟩)
    (h : runL P ops nx (i + 1) l (dstE env o.dst v) (st.ups u) K) : runL P ops nx i (o :: l) env st K := by
  simp only [runL,hw]
  exact ⟨_, hv, h⟩
theorem runL_no {P : Program} {ops : Array Oper} {nx i : Nat} {o : Oper} {l : List Oper} {env : Nat → VV} {st : St} {K : (Nat → VV) → St → Prop} (hw : wantedV ops o env = some false)
    (h : runL P ops nx (i + 1) l (dstE env o.dst (.tup [])) st K) : runL P ops nx i (o :: l) env st K := by
  simp only [runL,hw]
  exact h
end Go.VM
/- Regions by reckoning: what a region's operations come to, one behind the other, stopping at calls. -/
namespace Go.VM
def isCall (o : Oper) : Bool :=
  match o.op with
  | .call c => (match c.callee with | .value _ => true | _ => false)
  | .makeFunc _ _ _ => true
  | _ => false
def runV (P : Program) (ops : Array Oper) (nx : Nat) : Nat → List Oper → (Nat → VV) → St → ((Nat → VV) → St → Prop) → Prop
  | _, [], env, st, K => K env st
  | i, o :: l, env, st, K =>
    match wantedV ops o env with
    | some true =>
      match isCall o with
      | true => ∃ v u, OpOk P (nx + 1024 * i) o env st ⟨v, u⟩ ∧ runV P ops nx (i + 1) l (dstE env o.dst v) (st.ups u) K
      | false =>
        match vop P (nx + 1024 * i) o env st with
        | some ⟨v, u⟩ => runV P ops nx (i + 1) l (dstE env o.dst v) (st.ups u) K
        | none => ∃ v u, OpOk P (nx + 1024 * i) o env st ⟨v, u⟩ ∧ runV P ops nx (i + 1) l (dstE env o.dst v) (st.ups u) K
    | some false => runV P ops nx (i + 1) l (dstE env o.dst (.tup [])) st K
    | none => False
theorem runV_runL {P : Program} {ops : Array Oper} {nx : Nat} : ∀ {l : List Oper} {i : Nat} {env : Nat → VV} {st : St} {K : (Nat → VV) → St → Prop}, runV P ops nx i l env st K → runL P ops nx i l env st K
  | [], i, env, st, K, h => h
  | o :: l, i, env, st, K, h => by
    simp only [runV] at h
    cases hw : wantedV ops o env with
    | none => rw [hw] at h; exact h.elim
    | some t =>
      rw [hw] at h
      cases t with
      | false => exact runL_no hw (runV_runL h)
      | true =>
        cases hc : isCall o with
        | true =>
          simp only [hc] at h
          obtain ⟨v, u, h1, h2⟩ := h
          exact runL_ok hw h1 (runV_runL h2)
        | false =>
          simp only [hc] at h
          split at h
          · rename_i v u hv
            exact runL_op hw hv (runV_runL h)
          · obtain ⟨v, u, h1, h2⟩ := h
            exact runL_ok hw h1 (runV_runL h2)
theorem runV_mono {P : Program} {ops : Array Oper} {nx : Nat} : ∀ {l : List Oper} {i : Nat} {env : Nat → VV} {st : St} {K K' : (Nat → VV) → St → Prop}, (∀ env st, K env st → K' env st) → runV P ops nx i l env st K → runV P ops nx i l env st K'
  | [], i, env, st, K, K', hk, h => hk _ _ h
  | o :: l, i, env, st, K, K', hk, h => by
    simp only [runV] at h ⊢
    split at h
    · split at h
      · obtain ⟨v, u, h1, h2⟩ := h
        exact ⟨v, u, h1, runV_mono hk h2⟩
      · split at h
        · exact runV_mono hk h
        · obtain ⟨v, u, h1, h2⟩ := h
          exact ⟨v, u, h1, runV_mono hk h2⟩
    · exact runV_mono hk h
    · exact h.elim
/-- The same, held back. -/
def runH (P : Program) (ops : Array Oper) (nx : Nat) (i : Nat) (l : List Oper) (env : Nat → VV) (st : St) (K : (Nat → VV) → St → Prop) : Prop := runV P ops nx i l env st K
/-- An operation that is not reckoned: what it does is told by hand. -/
def stuckV (P : Program) (ops : Array Oper) (nx : Nat) (i : Nat) (o : Oper) (l : List Oper) (env : Nat → VV) (st : St) (K : (Nat → VV) → St → Prop) : Prop :=
  ∃ v u, OpOk P (nx + 1024 * i) o env st ⟨v, u⟩ ∧ runH P ops nx (i + 1) l (dstE env o.dst v) (st.ups u) K
theorem stuckV_congr {P : Program} {ops : Array Oper} {nx i : Nat} {o : Oper} {l : List Oper} {env : Nat → VV} {st : St} {K : (Nat → VV) → St → Prop} : stuckV P ops nx i o l env st K = stuckV P ops nx i o l env st K := rfl
theorem runV_nil (P : Program) (ops : Array Oper) (nx i : Nat) (env : Nat → VV) (st : St) (K : (Nat → VV) → St → Prop) : runV P ops nx i [] env st K = K env st := rfl
/-- A step, as a rule to turn terms by: the guard first, then calls held back, then reckoning. -/
theorem runV_cons (P : Program) (ops : Array Oper) (nx i : Nat) (o : Oper) (l : List Oper) (env : Nat → VV) (st : St) (K : (Nat → VV) → St → Prop) :
    runV P ops nx i (o :: l) env st K =
      match wantedV ops o env with
      | some true =>
        (match isCall o with
        | true => ∃ v u, OpOk P (nx + 1024 * i) o env st ⟨v, u⟩ ∧ runH P ops nx (i + 1) l (dstE env o.dst v) (st.ups u) K
        | false => match vop P (nx + 1024 * i) o env st with
          | some e => runV P ops nx (i + 1) l (dstE env o.dst e.v) (st.ups e.ups) K
          | none => stuckV P ops nx i o l env st K)
      | some false => runV P ops nx (i + 1) l (dstE env o.dst (.tup [])) st K
      | none => False := by
  rw [runV]
  cases wantedV ops o env with
  | none => rfl
  | some t => cases t with
    | false => rfl
    | true =>
      cases isCall o with
      | true => rfl
      | false =>
        simp only
        cases vop P (nx + 1024 * i) o env st with
        | none => rfl
        | some e => cases e; rfl
theorem vw_reg {P : Program} {n K id : Nat} {ops : Array Oper} {l : List Oper} {Q : Exit → FS → Prop} {env : Nat → VV} {st : St} {nx N : Nat} (hl : ops.toList = l) (hd : dstOk n l = true) (hN : nx + 1024 * l.length = N)
    (h : runV P ops nx 0 l env st (fun env st => Q .normal ⟨env, st, N⟩)) : VW P n K (.region id ops false) Q ⟨env, st, nx⟩ := by
  subst hl
  refine vw_region hd ?_
  have hs : ops.size = ops.toList.length := by simp
  simp only [hs]
  rw [hN]
  exact runV_runL h
/-- A function's results, and nothing given back. -/
theorem ret_of {P : Program} {fn : Func} {outs : List RT} {K : Nat} {s : FS} {rs : List ResultVar} {vs : List VV} {u : Ups} (hrs : fn.results.toList = rs) (h1 : resV P s rs = some vs) (h2 : s.nx ≤ RB) (h3 : shapes vs outs = true) (h4 : takeCs s.st (vs.flatMap VV.cells) = some (rcells outs, u)) :
    retV P fn outs [] K s := ⟨vs, by rw [hrs]; exact h1, h2, h3, u, h4, fun p hp => by cases hp⟩
/-- Begin: the parameters by a table. -/
theorem runs_tab {P : Program} {f : FuncId} {fn : Func} {c : Code} {args outs : List RT} {n k : Nat} {tab : List (Nat × VV)} {rts : List (Nat × Option Root)} (hf : P.funcs[f]? = some fn) (hb : fn.body = some c) (hnt : fn.ntmps = n) (hn : args.length ≤ n)
    (hk : (rcells args).length = k) (hE : ∀ t, envOf (rvv 0 args) t = tabE tab t) (hS : st0.ups (cups 0 (rcells args)) = tabS rts)
    (h : VW P n k c (endV P fn outs [] k) ⟨tabE tab, tabS rts, k⟩) : Runs P f args outs [] := by
  subst hnt
  subst hk
  refine runs_of_vw hf hb hn ?_
  rw [hS, show envOf (rvv 0 args) = tabE tab from funext hE]
  exact h
/-! ### calls that only read -/
theorem handCs_ro (st : St) : ∀ (l : List VV), handCs st (l.map fun y => (Md.ro, y)) = some (l.map fun _ => none, [], l.map fun _ => none)
  | [] => rfl
  | x :: xs => by simp [handCs,handC,handCs_ro st xs,St.ups]
def lendAll (st : St) : List VV → Option (List CT)
  | [] => some []
  | x :: xs => match lendC st x with | some c => (lendAll st xs).map (c :: ·) | none => none
theorem merge_ro (st : St) : ∀ (l : List VV), mergeCs st (l.map fun _ => (none : Option CT)) l = lendAll st l
  | [] => rfl
  | x :: xs => by simp [mergeCs,lendAll,merge_ro st xs]; rfl
/-- A call that only reads what it is handed. -/
theorem call_ro {P : Program} {fid : Nat} {o : Oper} {env : Nat → VV} {st : St} {c : Call} {g : Operand} {f : FuncId} {fn : Func} {caps : List (List T)} {ts : List TypeId} {xs : List VV} {cs : List CT}
    {args outs : List RT} (hop : o.op = .call c) (hcal : c.callee = .value g) (hg : ev P env 0 g = .fn f caps) (hf : P.funcs[f]? = some fn) (hbody : fn.body.isNone = false) (hname : (fn.name == "runtime.NumGoroutine") = false)
    (hts : ts.length = c.args.size) (hxs : (c.args.toList.zip ts).map (fun p => ev P env p.2 p.1) ++ caps.map VV.rop = xs) (hl : lendAll st (xs.flatMap VV.cells) = some cs)
    (hcs : cs = rcells args) (hshape : shapes xs args = true) (hruns : Runs P f args outs []) (hc1 : (rcells outs).all CT.clean = true) (hm : (rcells outs).length ≤ 1024) (hn : (rcells args).length ≤ 1024) :
    OpOk P fid o env st ⟨outL (rvv fid outs), cups fid (rcells outs)⟩ := by
  subst hcs
  have hflat : (((xs.map fun _ => Md.ro).zip xs).flatMap fun p => p.2.cells.map fun y => (p.1, y)) = (xs.flatMap VV.cells).map fun y => (Md.ro, y) := by
    clear hl hshape hxs
    induction xs with
    | nil => rfl
    | cons x xs ih => simp only [List.map_cons,List.zip_cons_cons,List.flatMap_cons,List.map_append,ih]
  have h := call_ok (P := P) (fid := fid) (o := o) (env := env) (st := st) (ms := xs.map fun _ => Md.ro) (ys := (xs.flatMap VV.cells).map fun _ => none) (u := []) (bk := (xs.flatMap VV.cells).map fun _ => none) (cs := rcells args) (B := []) (bu := []) (ts := ts) (xs := xs)
    hop hcal hg hf hbody hname hxs.symm hts (by simp) (by rw [hflat]; exact handCs_ro st _) (by simp only [St.ups]; rw [merge_ro]; exact hl) hshape rfl (fun b hb => by cases hb) (by simp) (by simp) rfl hruns hc1 rfl hm hn
  simpa using h
end Go.VM
namespace Go.VM
theorem vw_congr {P : Program} {n K : Nat} {c : Code} {Q : Exit → FS → Prop} {s s' : FS} (h : s = s') : VW P n K c Q s = VW P n K c Q s' := by rw [h]
theorem runV_congr {P : Program} {ops : Array Oper} {nx nx' i i' : Nat} {l : List Oper} {env env' : Nat → VV} {st st' : St} {K : (Nat → VV) → St → Prop} (h0 : nx = nx') (h1 : i = i') (h2 : env = env') (h3 : st = st') : runV P ops nx i l env st K = runV P ops nx' i' l env' st' K := by rw [h0, h1, h2, h3]
theorem runH_congr {P : Program} {ops : Array Oper} {nx nx' i i' : Nat} {l : List Oper} {env env' : Nat → VV} {st st' : St} {K : (Nat → VV) → St → Prop} (h0 : nx = nx') (h1 : i = i') (h2 : env = env') (h3 : st = st') : runH P ops nx i l env st K = runH P ops nx' i' l env' st' K := by rw [h0, h1, h2, h3]
end Go.VM
namespace Go.VM
theorem dstE_none (env : Nat → VV) (v : VV) : dstE env none v = env := rfl
theorem ups_nil (st : St) : st.ups [] = st := rfl
end Go.VM
namespace Go.VM
theorem tabE_cons (k : Nat) (v : VV) (l : List (Nat × VV)) (t : Nat) : tabE ((k, v) :: l) t = if t = k then v else tabE l t := rfl
theorem tabE_nil (t : Nat) : tabE [] t = .undef := rfl
theorem tabS_cons (k : Nat) (R : Option Root) (l : List (Nat × Option Root)) (t : Nat) : tabS ((k, R) :: l) t = if t = k then R else tabS l t := rfl
theorem tabS_nil (t : Nat) : tabS [] t = none := rfl
end Go.VM
namespace Go.VM
def regOk (n : Nat) (l : List Oper) : Bool := dstOk n l && decide (l.length ≤ 64)
theorem At.more {n K : Nat} {s : FS} {N : Nat} {w ow bs a} (h : At n K s w ow bs a) (hN : s.nx ≤ N) : At n K { s with nx := N } w ow bs a :=
  ⟨h.rel.shrink (fun x hx => Nat.le_trans hN hx), h.env.mono (Kept.refl _ _) (Quiet.shrink (fun x hx => Nat.le_trans hN hx)), h.size, h.defers, Nat.le_trans h.old hN⟩
theorem norm_more {n K : Nat} {s : FS} {N : Nat} (hN : s.nx ≤ N) : Norm n K s { s with nx := N } := fun w ow bs a ha => ⟨ow, bs, Since.refl _ _ _ _, ha.more hN⟩
/-- A region, and what comes next; numbers are spent in great steps. -/
theorem vw_go {P : Program} {n K id : Nat} {l : List Oper} {y : Code} {Q : Exit → FS → Prop} {env : Nat → VV} {st : St} {nx : Nat} (hd : regOk n l = true)
    (h : runV P l.toArray nx 0 l env st (fun env st => VW P n K y Q ⟨env, st, nx + 65536⟩)) : VW P n K (.seq (.region id l.toArray false) y) Q ⟨env, st, nx⟩ := by
  simp only [regOk,Bool.and_eq_true,decide_eq_true_eq] at hd
  refine vw_seq (vw_reg (by simp) hd.1 rfl ?_)
  refine runV_mono (fun env st hk => ?_) h
  exact vw_norm (norm_more (s := ⟨env, st, nx + 1024 * l.length⟩) (N := nx + 65536) (by simp only; omega)) hk
end Go.VM
namespace Go.VM
theorem call_ro_at {P : Program} {fid : Nat} {o : Oper} {env : Nat → VV} {st : St} {rd : List Nat} {c : Call} {g : Operand} {f : FuncId} {fn : Func} {caps : List (List T)} {ts : List TypeId} {xs : List VV} {cs : List CT}
    {args outs : List RT} (hop : o.op = .call c) (hcal : c.callee = .value g) (hg : ev P env 0 g = .fn f caps) (hf : P.funcs[f]? = some fn) (hbody : fn.body.isNone = false) (hname : (fn.name == "runtime.NumGoroutine") = false)
    (hts : ts.length = c.args.size) (hxs : (c.args.toList.zip ts).map (fun p => ev P env p.2 p.1) ++ caps.map VV.rop = xs) (hl : ∀ st' : St, (∀ r ∈ rd, st' r = st r) → lendAll st' (xs.flatMap VV.cells) = some cs)
    (hcs : cs = rcells args) (hshape : shapes xs args = true) (hruns : Runs P f args outs []) (hc1 : (rcells outs).all CT.clean = true) (hm : (rcells outs).length ≤ 1024) (hn : (rcells args).length ≤ 1024) :
    OpAt P fid o rd env st ⟨outL (rvv fid outs), cups fid (rcells outs)⟩ := by
  intro env' st' he hs
  have hmem : ∀ t, (.tmp t : Operand) ∈ c.operands → t ∈ tmpsOf o := by
    intro t ht
    simp only [tmpsOf,hop,Op.operands,List.mem_filterMap]
    exact ⟨.tmp t, by simpa using ht, rfl⟩
  have hg' : ev P env' 0 g = ev P env 0 g := ev_congr (fun i e => he i (hmem i (by subst e; simp [Call.operands,hcal])))
  refine call_ro hop hcal (hg'.trans hg) hf hbody hname hts ?_ (hl st' hs) hcs hshape hruns hc1 hm hn
  rw [← hxs]
  congr 1
  refine List.map_congr_left (fun p hp => ev_congr (fun i e => he i (hmem i ?_)))
  have := (List.of_mem_zip hp).1
  rw [e] at this
  simp [Call.operands,hcal]
  exact .inr (by simpa using this)
end Go.VM
namespace Go.VM
/-! ### regions of open order, by reckoning -/
def runW (P : Program) (ops : Array Oper) (nx : Nat) : Nat → List Oper → (Nat → VV) → St → List It → (List It → (Nat → VV) → St → Prop) → Prop
  | _, [], env, st, acc, K => K acc env st
  | i, o :: l, env, st, acc, K =>
    match wantedV ops o env with
    | some true =>
      match isCall o with
      | true => ∃ v u rd, OpAt P (nx + 1024 * i) o rd env st ⟨v, u⟩ ∧ runW P ops nx (i + 1) l (dstE env o.dst v) (st.ups u) (acc ++ [⟨o.dst, v, u, o.looksAt ops, rd⟩]) K
      | false =>
        match vop P (nx + 1024 * i) o env st with
        | some e => runW P ops nx (i + 1) l (dstE env o.dst e.v) (st.ups e.ups) (acc ++ [⟨o.dst, e.v, e.ups, o.looksAt ops, readsOf env o⟩]) K
        | none => ∃ v u rd, OpAt P (nx + 1024 * i) o rd env st ⟨v, u⟩ ∧ runW P ops nx (i + 1) l (dstE env o.dst v) (st.ups u) (acc ++ [⟨o.dst, v, u, o.looksAt ops, rd⟩]) K
    | some false => runW P ops nx (i + 1) l (dstE env o.dst (.tup [])) st (acc ++ [⟨o.dst, .tup [], [], o.looksAt ops, []⟩]) K
    | none => False
theorem runW_runD {P : Program} {ops : Array Oper} {nx : Nat} : ∀ {l : List Oper} {i : Nat} {env : Nat → VV} {st : St} {acc : List It} {K : List It → (Nat → VV) → St → Prop}, runW P ops nx i l env st acc K → runD P ops nx i l env st acc K
  | [], i, env, st, acc, K, h => h
  | o :: l, i, env, st, acc, K, h => by
    simp only [runW] at h
    simp only [runD]
    cases hw : wantedV ops o env with
    | none => rw [hw] at h; exact h.elim
    | some t =>
      rw [hw] at h
      cases t with
      | false => exact runW_runD h
      | true =>
        cases hc : isCall o with
        | true =>
          simp only [hc] at h
          obtain ⟨v, u, rd, h1, h2⟩ := h
          exact ⟨⟨v, u⟩, rd, h1, runW_runD h2⟩
        | false =>
          simp only [hc] at h
          split at h
          · rename_i e hv
            exact ⟨e, _, vop_at hv, runW_runD h⟩
          · obtain ⟨v, u, rd, h1, h2⟩ := h
            exact ⟨⟨v, u⟩, rd, h1, runW_runD h2⟩
def runX (P : Program) (ops : Array Oper) (nx : Nat) (i : Nat) (l : List Oper) (env : Nat → VV) (st : St) (acc : List It) (K : List It → (Nat → VV) → St → Prop) : Prop := runW P ops nx i l env st acc K
def stuckX (P : Program) (ops : Array Oper) (nx : Nat) (i : Nat) (o : Oper) (l : List Oper) (env : Nat → VV) (st : St) (acc : List It) (K : List It → (Nat → VV) → St → Prop) : Prop :=
  ∃ v u rd, OpAt P (nx + 1024 * i) o rd env st ⟨v, u⟩ ∧ runX P ops nx (i + 1) l (dstE env o.dst v) (st.ups u) (acc ++ [⟨o.dst, v, u, o.looksAt ops, rd⟩]) K
theorem stuckX_congr {P : Program} {ops : Array Oper} {nx i : Nat} {o : Oper} {l : List Oper} {env : Nat → VV} {st : St} {acc : List It} {K : List It → (Nat → VV) → St → Prop} : stuckX P ops nx i o l env st acc K = stuckX P ops nx i o l env st acc K := rfl
theorem runW_nil (P : Program) (ops : Array Oper) (nx i : Nat) (env : Nat → VV) (st : St) (acc : List It) (K : List It → (Nat → VV) → St → Prop) : runW P ops nx i [] env st acc K = K acc env st := rfl
theorem runW_cons (P : Program) (ops : Array Oper) (nx i : Nat) (o : Oper) (l : List Oper) (env : Nat → VV) (st : St) (acc : List It) (K : List It → (Nat → VV) → St → Prop) :
    runW P ops nx i (o :: l) env st acc K =
      match wantedV ops o env with
      | some true =>
        (match isCall o with
        | true => ∃ v u rd, OpAt P (nx + 1024 * i) o rd env st ⟨v, u⟩ ∧ runX P ops nx (i + 1) l (dstE env o.dst v) (st.ups u) (acc ++ [⟨o.dst, v, u, o.looksAt ops, rd⟩]) K
        | false => match vop P (nx + 1024 * i) o env st with
          | some e => runW P ops nx (i + 1) l (dstE env o.dst e.v) (st.ups e.ups) (acc ++ [⟨o.dst, e.v, e.ups, o.looksAt ops, readsOf env o⟩]) K
          | none => stuckX P ops nx i o l env st acc K)
      | some false => runW P ops nx (i + 1) l (dstE env o.dst (.tup [])) st (acc ++ [⟨o.dst, .tup [], [], o.looksAt ops, []⟩]) K
      | none => False := rfl
theorem runW_congr {P : Program} {ops : Array Oper} {nx nx' i i' : Nat} {l : List Oper} {env env' : Nat → VV} {st st' : St} {acc : List It} {K : List It → (Nat → VV) → St → Prop} (h0 : nx = nx') (h1 : i = i') (h2 : env = env') (h3 : st = st') :
    runW P ops nx i l env st acc K = runW P ops nx' i' l env' st' acc K := by rw [h0, h1, h2, h3]
theorem runX_congr {P : Program} {ops : Array Oper} {nx nx' i i' : Nat} {l : List Oper} {env env' : Nat → VV} {st st' : St} {acc : List It} {K : List It → (Nat → VV) → St → Prop} (h0 : nx = nx') (h1 : i = i') (h2 : env = env') (h3 : st = st') :
    runX P ops nx i l env st acc K = runX P ops nx' i' l env' st' acc K := by rw [h0, h1, h2, h3]
theorem runW_mono {P : Program} {ops : Array Oper} {nx : Nat} : ∀ {l : List Oper} {i : Nat} {env : Nat → VV} {st : St} {acc : List It} {K K' : List It → (Nat → VV) → St → Prop}, (∀ acc env st, K acc env st → K' acc env st) → runW P ops nx i l env st acc K → runW P ops nx i l env st acc K'
  | [], i, env, st, acc, K, K', hk, h => hk _ _ _ h
  | o :: l, i, env, st, acc, K, K', hk, h => by
    simp only [runW] at h ⊢
    split at h
    · split at h
      · obtain ⟨v, u, rd, h1, h2⟩ := h
        exact ⟨v, u, rd, h1, runW_mono hk h2⟩
      · split at h
        · exact runW_mono hk h
        · obtain ⟨v, u, rd, h1, h2⟩ := h
          exact ⟨v, u, rd, h1, runW_mono hk h2⟩
    · exact runW_mono hk h
    · exact h.elim
/-- All pairs of items: ordered, or apart. -/
def allOk (l : List Oper) (its : List It) : Prop := pairsOk (precs l []) its = true
theorem vw_draw {P : Program} {n K id : Nat} {l : List Oper} {y : Code} {Q : Exit → FS → Prop} {env : Nat → VV} {st : St} {nx : Nat} (hm : P.follows .mixedOrders = true) (hd : regOk n l = true) (he : edgesOk l.toArray = true)
    (h : runW P l.toArray nx 0 l env st [] (fun its env st => allOk l its ∧ VW P n K y Q ⟨env, st, nx + 65536⟩)) : VW P n K (.seq (.region id l.toArray true) y) Q ⟨env, st, nx⟩ := by
  simp only [regOk,Bool.and_eq_true,decide_eq_true_eq] at hd
  refine vw_seq (vw_region_draw hm (by simpa using hd.1) he (runW_runD ?_))
  have e : l.toArray.toList = l := by simp
  rw [e]
  refine runW_mono (fun its env st hk => ?_) h
  refine ⟨hk.1, ?_⟩
  exact vw_norm (norm_more (s := ⟨env, st, nx + 1024 * l.toArray.size⟩) (N := nx + 65536) (by simp; omega)) hk.2
end Go.VM
