/- An operation does the same wherever what it looks at is the same. -/
import Derived.Test.YtcdgdiheoejjgaaVLocal
namespace Go.VM
set_option linter.unusedSimpArgs false
set_option linter.unusedVariables false

theorem fillV_roots {place : Nat → Option (Nat × Nat)} : ∀ {parts : List (Nat × VV)} {cells cs : List VV}, fillV place cells parts = some cs → ∀ r ∈ cs.flatMap VV.root1, r ∈ cells.flatMap VV.root1 ∨ ∃ q ∈ parts, r ∈ q.2.roots
  | [], cells, cs, h, r, hr => by
    simp only [fillV, Option.some.injEq] at h
    subst h; exact .inl hr
  | (i, v) :: parts, cells, cs, h, r, hr => by
    simp only [fillV] at h
    split at h
    · cases h
    · split at h
      · cases h
      · rcases fillV_roots h r hr with h1 | ⟨q, h1, h2⟩
        · simp only [List.flatMap_append, List.mem_append] at h1
          rcases h1 with (h1 | h1) | h1
          · obtain ⟨y, hy, h3⟩ := List.mem_flatMap.1 h1
            exact .inl (List.mem_flatMap.2 ⟨y, List.mem_of_mem_take hy, h3⟩)
          · exact .inr ⟨(i, v), by simp, h1⟩
          · obtain ⟨y, hy, h3⟩ := List.mem_flatMap.1 h1
            exact .inl (List.mem_flatMap.2 ⟨y, List.mem_of_mem_drop hy, h3⟩)
        · exact .inr ⟨q, List.mem_cons_of_mem _ h1, h2⟩

theorem vop_local {P : Program} {fid : Nat} {o : Oper} {env env' : Nat → VV} {st st' : St} (he : ∀ t ∈ tmpsOf o, env' t = env t) (hs : ∀ r ∈ readsOf env o, st' r = st r) : vop P fid o env' st' = vop P fid o env st := by
  have E : ∀ x ∈ o.op.operands, ∀ t, ev P env' t x = ev P env t x := by
    intro x hx t
    refine ev_congr (fun i e => he i ?_)
    subst e
    exact List.mem_filterMap.2 ⟨.tmp i, by simpa using hx, rfl⟩
  have R : (∀ t : Tmp, t ∈ tmpsOf o → ∀ r ∈ (env t).roots, r ∈ readsOf env o) → ∀ x ∈ o.op.operands, ∀ t, ∀ r ∈ (ev P env t x).roots, st' r = st r := by
    intro h x hx t r hr
    obtain ⟨i, rfl, h2⟩ := ev_roots hr
    exact hs r (h i (List.mem_filterMap.2 ⟨.tmp i, by simpa using hx, rfl⟩) r h2)
  have parts : ∀ (ps : Array (Nat × Operand)) (f : Nat × Operand → TypeId), (∀ x ∈ (ps.toList.map (·.2)).toArray, ∀ t, ev P env' t x = ev P env t x) → (ps.toList.map fun q => (q.1, ev P env' (f q) q.2)) = (ps.toList.map fun q => (q.1, ev P env (f q) q.2)) := by
    intro ps f h
    refine List.map_congr_left (fun q hq => ?_)
    rw [h q.2 (by simp only [List.mem_toArray]; exact List.mem_map.2 ⟨q, hq, rfl⟩)]
  obtain ⟨dst, op, type, pos, after, guard⟩ := o
  have full : ∀ op', (readsOf env ⟨dst, op', type, pos, after, guard⟩ = (tmpsOf ⟨dst, op', type, pos, after, guard⟩).flatMap fun t => (env t).roots) → ∀ t : Tmp, t ∈ tmpsOf ⟨dst, op', type, pos, after, guard⟩ → ∀ r ∈ (env t).roots, r ∈ readsOf env ⟨dst, op', type, pos, after, guard⟩ := by
    intro op' h t ht r hr
    rw [h]
    exact List.mem_flatMap.2 ⟨t, ht, hr⟩
  cases op <;> simp only [Op.operands] at E R <;> unfold vop <;> simp only
  case move x => rw [E x (by simp)]
  case assign x => rw [E x (by simp)]
  case pick c a b => rw [E c (by simp), E a (by simp), E b (by simp)]
  case nilCheck x => rw [E x (by simp)]
  case box e x =>
    have r := R (full _ rfl) x (by simp) e
    rw [E x (by simp), takeVs_congr r]
  case build t ps =>
    cases zeroT P t with
    | none => rfl
    | some z =>
      cases placesT P t with
      | none => rfl
      | some pl =>
        simp only
        rw [parts ps (fun q => ((pl[q.1]?).map fun q => q.2.2).getD 0) E]
  case buildSlice t n ps =>
    have r := R (full _ rfl)
    cases ht : elemT P t with
    | none => rfl
    | some e =>
      simp only
      rw [parts ps (fun _ => e) E]
      cases hz : zeroT P e with
      | none => rfl
      | some z =>
        simp only
        split
        · rfl
        · cases hf : fillV (fun i => some (i * P.cellsOf e, P.cellsOf e)) ((List.replicate n (z.map zeroV)).flatten) (ps.toList.map fun q => (q.1, ev P env e q.2)) with
          | none => rfl
          | some cs =>
            simp only
            rw [takeVs_congr (fun x hx => ?_)]
            rcases fillV_roots hf x hx with h1 | ⟨q, h1, h2⟩
            · exfalso
              obtain ⟨y, hy, h3⟩ := List.mem_flatMap.1 h1
              obtain ⟨l, hl, h4⟩ := List.mem_flatten.1 hy
              rw [List.mem_replicate] at hl
              rw [hl.2] at h4
              obtain ⟨t0, _, rfl⟩ := List.mem_map.1 h4
              have : (zeroV t0).root1 = [] := by
                cases t0 with
                | list o sz es => cases o <;> cases es <;> rfl
                | _ => rfl
              rw [this] at h3; cases h3
            · obtain ⟨p, hp, rfl⟩ := List.mem_map.1 h1
              exact r p.2 (by simp only [List.mem_toArray]; exact List.mem_map.2 ⟨p, hp, rfl⟩) e x h2
  case load t x =>
    have r := R (full _ rfl) x (by simp) 0
    rw [E x (by simp), loadV_congr r]
  case store t x y =>
    have r1 := R (full _ rfl) x (by simp) 0
    have r2 := R (full _ rfl) y (by simp) t
    rw [E x (by simp), E y (by simp)]
    cases hx : ev P env 0 x with
    | ptr r p m i j =>
      rw [hx] at r1
      simp only [storeV_congr (r1 r (by simp [VV.roots, VV.cells, VV.root1])) r2]
    | _ => rfl
  case binOp op t x y yt => rw [E x (by simp), E y (by simp)]
  case unOp op t x => rw [E x (by simp)]
  case convert s t x =>
    have r := R (full _ rfl) x (by simp) s
    have e := rowsOf_congr r
    rw [E x (by simp)]
    generalize ev P env s x = z at e ⊢
    cases z with
    | c x => cases x <;> first | rfl | simp only [e]
    | _ => simp only [e]
  case makeSlice t l c => rw [E l (by simp), E c (by simp)]
  case slice t x lo hi mx =>
    cases mx with
    | some m => rfl
    | none =>
      cases lo <;> cases hi <;> simp_all
  case fieldAddr t x f => rw [E x (by simp)]
  case field t x f => rw [E x (by simp)]
  case indexAddr t x i => rw [E x (by simp), E i (by simp)]
  case index t x i => rw [E x (by simp), E i (by simp)]
  case extract x i => rw [E x (by simp)]
  case call c =>
    have r := R (full _ rfl)
    unfold builtinV
    obtain ⟨callee, args, argTypes⟩ := c
    simp only
    cases callee with
    | builtin b =>
      simp only [Call.operands, Array.empty_append] at E r
      have E' : ∀ x ∈ args.toList, ∀ t, ev P env' t x = ev P env t x := fun x hx => E x (by simpa using hx)
      have r' : ∀ x ∈ args.toList, ∀ t, ∀ q ∈ (ev P env t x).roots, st' q = st q := fun x hx => r x (by simpa using hx)
      simp only
      generalize args.toList = l at E' r'
      generalize argTypes.toList = k
      split
      · rename_i x t
        rw [E' x (by simp)]
      · rename_i x y t1 t2
        rw [E' x (by simp), E' y (by simp), appendV_congr (r' x (by simp) _) (r' y (by simp) _)]
      · rename_i x y
        rw [E' x (by simp), E' y (by simp)]
      · rename_i x y
        rw [E' x (by simp), E' y (by simp)]
      · rfl
    | _ => rfl

end Go.VM
