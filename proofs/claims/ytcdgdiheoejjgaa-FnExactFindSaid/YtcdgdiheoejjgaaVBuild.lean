/- Struct values, literal slices, made slices, bytes and strings. -/
import Derived.Test.YtcdgdiheoejjgaaVHeap
namespace Go.VM
set_option linter.unusedSimpArgs false
set_option linter.unusedVariables false

/-- Cells, one by one. -/
def Each (R : VV → Value → Prop) (xs : List VV) (vs : Array Value) : Prop := xs.length = vs.size ∧ ∀ (k : Nat) (x : VV), xs[k]? = some x → R x (vs.getD k undef)

theorem solid_cells {w ow bs st fr} {x : VV} {v : Value} (rx : RelV w ow bs st fr x v) (hs : x.solid = true) : Each (RelV w ow bs st fr) x.cells v.cells := by
  have one : x.cells = [x] → v.cells = #[v] → Each (RelV w ow bs st fr) x.cells v.cells := by
    intro h1 h2
    rw [h1, h2]
    refine ⟨rfl, fun k y hy => ?_⟩
    cases k with
    | zero => simp at hy; subst hy; exact rx
    | succ k => simp at hy
  cases rx with
  | @agg cs vs hl h => exact ⟨hl, h⟩
  | c h =>
    cases h with
    | dead => simp [VV.solid] at hs
    | int => exact one rfl rfl
    | bool => exact one rfl rfl
    | str => exact one rfl rfl
    | nil => exact one rfl rfl
    | list => exact one rfl rfl
  | nils => exact one rfl rfl
  | al hn hs hv hm => obtain ⟨a, cap, rfl, _⟩ := hv; exact one rfl rfl
  | ptr hn hs hv hm => obtain ⟨a, rfl, _⟩ := hv; exact one rfl rfl
  | tup => simp [VV.solid] at hs
  | rop => exact one rfl rfl
  | fn => exact one rfl rfl
  | undef => simp [VV.solid] at hs

theorem setFold_get (off : Nat) : ∀ (l : List Value) (k0 : Nat) (vs : Array Value) (m : Nat), ((l.zipIdx k0).foldl (fun cs (x : Value × Nat) => cs.setIfInBounds (off + x.2) x.1) vs)[m]? =
    if off + k0 ≤ m ∧ m < off + k0 + l.length ∧ m < vs.size then l[m - (off + k0)]? else vs[m]?
  | [], k0, vs, m => by simp; intro h1 h2; omega
  | x :: l, k0, vs, m => by
    simp only [List.zipIdx_cons, List.foldl_cons]
    rw [setFold_get off l (k0 + 1)]
    simp only [Array.size_setIfInBounds, List.length_cons]
    by_cases h0 : m = off + k0
    · subst h0
      rw [if_neg (by omega)]
      by_cases hs : off + k0 < vs.size
      · rw [if_pos (by omega), Array.getElem?_setIfInBounds_self_of_lt hs]; simp
      · rw [if_neg (by omega), Array.setIfInBounds_eq_of_size_le (by omega)]
    · by_cases h1 : off + (k0 + 1) ≤ m ∧ m < off + (k0 + 1) + l.length ∧ m < vs.size
      · rw [if_pos h1, if_pos (by omega)]
        rw [show m - (off + k0) = m - (off + (k0 + 1)) + 1 from by omega]
        simp
      · rw [if_neg h1, if_neg (by omega), Array.getElem?_setIfInBounds_ne (by omega)]

theorem setFold_size (off : Nat) : ∀ (l : List Value) (k0 : Nat) (vs : Array Value), ((l.zipIdx k0).foldl (fun cs (x : Value × Nat) => cs.setIfInBounds (off + x.2) x.1) vs).size = vs.size
  | [], k0, vs => by simp
  | x :: l, k0, vs => by simp only [List.zipIdx_cons, List.foldl_cons]; rw [setFold_size off l]; simp

theorem fill_rel {R : VV → Value → Prop} {place place' : Nat → Option (Nat × Nat)} (hp : ∀ i, place' i = place i) : ∀ (parts : List (Nat × VV)) (vparts : List (Nat × Value)) (cs : List VV) (vs : Array Value) (cs' : List VV),
    Each R cs vs → parts.length = vparts.length → (∀ (k : Nat) (x : Nat × VV) (v : Nat × Value), parts[k]? = some x → vparts[k]? = some v → x.1 = v.1 ∧ (x.2.solid = true → Each R x.2.cells v.2.cells)) →
    fillV place cs parts = some cs' → ∃ vs', Instr.fill place' vs vparts = some vs' ∧ Each R cs' vs'
  | [], vparts, cs, vs, cs', he, hl, hr, hf => by
    cases vparts with
    | cons v vp => simp at hl
    | nil =>
      simp only [fillV, Option.some.injEq] at hf
      subst hf
      exact ⟨vs, rfl, he⟩
  | (i, x) :: parts, vparts, cs, vs, cs', he, hl, hr, hf => by
    cases vparts with
    | nil => simp at hl
    | cons v vp =>
      obtain ⟨i', v⟩ := v
      obtain ⟨e1, e2⟩ := hr 0 (i, x) (i', v) (by simp) (by simp)
      simp only at e1 e2
      subst e1
      simp only [fillV] at hf
      cases hpl : place i with
      | none => rw [hpl] at hf; cases hf
      | some os =>
        obtain ⟨off, size⟩ := os
        rw [hpl] at hf
        simp only at hf
        split at hf
        · cases hf
        · rename_i hc
          simp only [not_or, Decidable.not_not, Bool.not_eq_false] at hc
          obtain ⟨c1, c2, c3⟩ := hc
          obtain ⟨hl2, hx2⟩ := e2 c3
          obtain ⟨hl1, hx1⟩ := he
          simp only [Instr.fill, hp, hpl]
          rw [if_neg (by simp only [ne_eq, Bool.or_eq_true, decide_eq_true_eq, not_or, Decidable.not_not]; omega)]
          refine fill_rel hp parts vp _ _ cs' ⟨?_, fun k y hy => ?_⟩ (by simpa using hl) (fun k x' v' hx' hv' => hr (k + 1) x' v' (by simpa using hx') (by simpa using hv')) hf
          · rw [← Array.foldl_toList, Array.toList_zipIdx, setFold_size]
            simp; omega
          · rw [Array.getD_eq_getD_getElem?, ← Array.foldl_toList, Array.toList_zipIdx, setFold_get]
            simp only [Nat.add_zero, Array.length_toList]
            rw [List.append_assoc] at hy
            by_cases h0 : k < off
            · rw [List.getElem?_append_left (by simp; omega), List.getElem?_take, if_pos h0] at hy
              rw [if_neg (by omega), ← Array.getD_eq_getD_getElem?]
              exact hx1 k y hy
            · rw [List.getElem?_append_right (by simp; omega)] at hy
              simp only [List.length_take, Nat.min_eq_left (show off ≤ cs.length by omega)] at hy
              by_cases h1 : k < off + x.cells.length
              · rw [List.getElem?_append_left (by omega)] at hy
                rw [if_pos (by omega)]
                have := hx2 _ y hy
                rw [Array.getD_eq_getD_getElem?, ← Array.getElem?_toList] at this
                exact this
              · rw [List.getElem?_append_right (by omega), List.getElem?_drop] at hy
                rw [if_neg (by omega), ← Array.getD_eq_getD_getElem?]
                have := hx1 _ y hy
                rwa [show off + x.cells.length + (k - off - x.cells.length) = k from by omega] at this

theorem zeroV_rel {w ow bs st fr} {x : T} {v : Value} (h : sameZero x v = true) : RelV w ow bs st fr (zeroV x) v := by
  rcases sameZero_rel (w := w) (ow := ow) h with hr | ⟨s, rfl, rfl⟩
  · cases hr with
    | dead => simp [sameZero] at h
    | int => exact .c .int
    | bool => exact .c .bool
    | str => exact .c .str
    | nil => exact .c .nil
    | list spot own blk hlen hcap fits rows cells => exact .c (.list spot own blk hlen hcap fits rows cells)
  · exact .nils

theorem zeros_each {P : Program} {w ow bs st fr} {t : TypeId} {zs : List T} {z : Value} (hl : zs.length = z.cells.size) (h : ∀ (k : Nat) (x : T), zs[k]? = some x → sameZero x (z.cells.getD k undef) = true) : Each (RelV w ow bs st fr) (zs.map zeroV) z.cells := by
  refine ⟨by simpa using hl, fun k x hx => ?_⟩
  rw [List.getElem?_map] at hx
  obtain ⟨y, hy, rfl⟩ := Option.map_eq_some_iff.1 hx
  exact zeroV_rel (h k y hy)

theorem mapM_fields {P : Program} (w : World) : ∀ (fs : List Field), fs.all (fun f => (P.info? f.type).isSome) = true →
    (fs.mapM (fun f => do pure (f.offset, ← sizeOf f.type) : Field → Sem (Nat × Nat))).run P w = .ok (fs.map fun f => (f.offset, P.cellsOf f.type)) w
  | [], _ => rfl
  | f :: fs, h => by
    simp only [List.all_cons, Bool.and_eq_true] at h
    obtain ⟨i, hi⟩ := Option.isSome_iff_exists.1 h.1
    have ih := mapM_fields w fs h.2
    simp at ih
    simp [List.mapM_cons, run_sizeOf w hi, ih]

theorem build_sound {P : Program} {w ow bs st} {fr : Nat → Prop} {env : Nat → VV} {a : Act} (he : RelE w ow bs st fr env a) {t : TypeId} {parts : Array (Nat × Operand)} {z : List T} {pl cs} (hz : zeroT P t = some z) (hpl : placesT P t = some pl)
    (hf : fillV (fun i => (pl[i]?).map fun q => (q.1, q.2.1)) (z.map zeroV) (parts.toList.map fun q => (q.1, ev P env (((pl[q.1]?).map fun q => q.2.2).getD 0) q.2)) = some cs) :
    ∃ v, (Instr.build t (parts.map fun (i, x) => (i, a.eval x))).run P w = .ok v w ∧ RelV w ow bs st fr (.agg cs) v := by
  obtain ⟨zv, hz1, hz2, hz3, hz4⟩ := zeroT_some hz w
  unfold placesT at hpl
  split at hpl
  · rename_i fs hu
    split at hpl
    · rename_i hall
      simp only [Option.some.injEq] at hpl
      subst hpl
      have hm : (fs.mapM (fun f => do pure (f.offset, ← sizeOf f.type) : Field → Sem (Nat × Nat))).run P w = .ok (fs.map fun f => (f.offset, P.cellsOf f.type)) w := by
        rw [Array.mapM_eq_mapM_toList]
        simp only [Sem.run_map, mapM_fields w fs.toList hall, Result.andThen_ok]
        congr 1
        apply Array.ext'
        simp
      obtain ⟨vs', h1, h2⟩ := fill_rel (R := RelV w ow bs st fr) (place' := fun i => (fs.map fun f => (f.offset, P.cellsOf f.type))[i]?) (fun i => by simp [List.getElem?_map, Array.getElem?_map]; cases fs[i]? <;> rfl)
        _ (parts.map fun (i, x) => (i, a.eval x)).toList (z.map zeroV) zv.cells cs (zeros_each (P := P) (t := t) hz2 hz4) (by simp) (fun k x v hx hv => by
          simp only [List.getElem?_map] at hx
          obtain ⟨q, hq, rfl⟩ := Option.map_eq_some_iff.1 hx
          simp only [Array.toList_map, List.getElem?_map] at hv
          obtain ⟨q', hq', rfl⟩ := Option.map_eq_some_iff.1 hv
          rw [hq] at hq'
          cases hq'
          exact ⟨rfl, fun hs => solid_cells (ev_rel he _ _) hs⟩) hf
      refine ⟨.agg vs', ?_, .agg h2.1 h2.2⟩
      simp only [Instr.build, Sem.run_bind, hz1, Result.andThen_ok, run_underlying hu, hm, h1]
      simp [h1]
    · cases hpl
  · cases hpl

theorem flatten_get {α : Type} (l : List α) (n m : Nat) (h : m < n * l.length) : ((List.replicate n l).flatten)[m]? = l[m % l.length]? := by
  induction n generalizing m with
  | zero => omega
  | succ n ih =>
    rw [List.replicate_succ, List.flatten_cons]
    by_cases hm : m < l.length
    · rw [List.getElem?_append_left hm, Nat.mod_eq_of_lt hm]
    · rw [List.getElem?_append_right (by omega), ih _ (by rw [Nat.add_mul] at h; omega), ← Nat.mod_eq_sub_mod (by omega)]

theorem zrange_get (z : Array Value) (n k : Nat) (h : k < n) (hz : k % z.size < z.size) : ((Array.range n).map (fun i => z[i % z.size]!)).getD k undef = z.getD (k % z.size) undef := by
  rw [Array.getD_eq_getD_getElem?, Array.getD_eq_getD_getElem?, Array.getElem?_map, Array.getElem?_range]
  simp [h, hz]

theorem buildSlice_sound {P : Program} {w ow bs st} {fr : Nat → Prop} {fid : Nat} {env : Nat → VV} {a : Act} (h : Rel w ow bs st fr) (hroom : Room fr fid) (he : RelE w ow bs st fr env a) {t e : TypeId} {len : Nat} {parts : Array (Nat × Operand)} {z : List T} {cs ys u}
    (ht : elemT P t = some e) (hz : zeroT P e = some z) (hmax : len * P.cellsOf e ≤ 1000)
    (hf : fillV (fun i => some (i * P.cellsOf e, P.cellsOf e)) ((List.replicate len (z.map zeroV)).flatten) (parts.toList.map fun q => (q.1, ev P env e q.2)) = some cs) (hx : takeVs st cs = some (ys, u)) :
    Does w ow bs st fr (fun y => fr y ∧ ¬ Mine fid y) ((do pure (Next.value (← Instr.buildSlice t len (parts.map fun (i, x) => (i, a.eval x)))) : Sem Next).run P w) (.al fid [] 0 (P.cellsOf e) 0 len)
      (st.ups (u ++ [(fid, some ⟨false, P.cellsOf e, (List.range len).map fun i => (ys.drop (i * P.cellsOf e)).take (P.cellsOf e), []⟩)])) := by
  obtain ⟨zv, hz1, hz2, hz3, hz4⟩ := zeroT_some hz w
  obtain ⟨hu, hne⟩ := elemT_some ht
  generalize hsz : P.cellsOf e = sz at *
  have hzs : zv.cells.size = sz := by omega
  generalize hzero : (if len * sz = 0 then #[] else zv.cells : Array Value) = zc
  have hzc : ∀ m, m < len * sz → zc = zv.cells := fun m hm => by rw [← hzero, if_neg (by omega)]
  have each0 : Each (RelV w ow bs st fr) ((List.replicate len (z.map zeroV)).flatten) ((Array.range (len * sz)).map (fun i => zc[i % zc.size]!)) := by
    refine ⟨by simp [hz3], fun k x hx => ?_⟩
    have hk : k < len * sz := by have := lt_of_getl hx; simp at this; rw [hz3] at this; exact this
    rw [flatten_get _ _ _ (by simpa [hz3] using hk)] at hx
    have hzck := hzc k hk
    rw [hzck]
    have hlt : k % zv.cells.size < zv.cells.size := Nat.mod_lt _ (by omega)
    rw [zrange_get _ _ _ hk hlt]
    rw [List.getElem?_map] at hx
    obtain ⟨y, hy, rfl⟩ := Option.map_eq_some_iff.1 hx
    simp only [List.length_map] at hy
    rw [show z.length = zv.cells.size from by omega] at hy
    exact zeroV_rel (hz4 _ y hy)
  obtain ⟨vs', h1, h2⟩ := fill_rel (R := RelV w ow bs st fr) (place' := fun i => some (i * sz, sz)) (fun i => rfl) _ (parts.map fun (i, x) => (i, a.eval x)).toList _ _ cs each0 (by simp) (fun k x v hx hv => by
      simp only [List.getElem?_map] at hx
      obtain ⟨q, hq, rfl⟩ := Option.map_eq_some_iff.1 hx
      simp only [Array.toList_map, List.getElem?_map] at hv
      obtain ⟨q', hq', rfl⟩ := Option.map_eq_some_iff.1 hv
      rw [hq] at hq'
      cases hq'
      exact ⟨rfl, fun hs => solid_cells (ev_rel he _ _) hs⟩) hf
  have hcl : cs.length = len * sz := by
    have : ∀ (parts : List (Nat × VV)) (cs cs' : List VV) (place : Nat → Option (Nat × Nat)), fillV place cs parts = some cs' → cs'.length = cs.length := by
      intro parts
      induction parts with
      | nil => intro cs cs' place h; simp only [fillV, Option.some.injEq] at h; rw [h]
      | cons p parts ih =>
        obtain ⟨i, x⟩ := p
        intro cs cs' place h
        simp only [fillV] at h
        split at h
        · cases h
        · split at h
          · cases h
          · rename_i hc
            simp only [not_or] at hc
            rw [ih _ _ _ h]
            simp; omega
    rw [this _ _ _ _ hf]
    simp [hz3]
  have hvl : vs'.toList.length = cs.length := by rw [h2.1]; simp
  obtain ⟨ow', bs', g1, g2, g3, g4⟩ := newRow_sound (fid := fid) (n := len) (sz := sz) (cap := len) (vs := vs'.toList) h hx hvl.symm (fun k x v hx' hv => by
      have := h2.2 k x hx'
      rw [Array.getD_eq_getD_getElem?, ← Array.getElem?_toList, hv] at this
      exact this) (fun c hc => hroom c (by omega)) (fr' := fun y => fr y ∧ ¬ Mine fid y) (fun y hy => ⟨hy.1, fun e => hy.2 ⟨e.1, by omega⟩⟩) hcl e (0, 0) vs'
    (fun k v hv => by rw [Array.getD_eq_getD_getElem?, ← Array.getElem?_toList, hv]; rfl) (Nat.le_refl _) (by rw [← h2.1]; omega) (fun k _ hk => by omega) false (fun hb => by cases hb)
  refine ⟨.slice (some ⟨w.heap.size, 0, none⟩) len len, _, ow', bs', .inl ?_, g1, ?_, g2, g3⟩
  · simp only [Instr.buildSlice, Sem.run_bind, run_underlying hu, Result.andThen_ok, sizeOf_run (by rw [hsz]; exact hne) w, hsz]
    rw [if_neg (by omega)]
    by_cases hl0 : len * sz = 0
    · rw [if_pos hl0] at hzero ⊢
      subst hzero
      simp only [Sem.run_bind, Sem.run_pure, Result.andThen_ok]
      rw [h1]
      simp [newRow]
    · rw [if_neg hl0] at hzero ⊢
      subst hzero
      simp only [Sem.run_bind, Sem.run_pure, Result.andThen_ok, hz1]
      rw [h1]
      simp [newRow]
  · exact .al (fun e => e.2 ⟨Nat.le_refl _, by omega⟩) (fun _ => ⟨by rw [g4], by rw [g4]; exact .inl ⟨_, _, _, 0, len, rfl, rfl, .inr (by simp), by simp, Nat.le_refl _⟩⟩)
      ⟨_, _, rfl, Nat.le_refl _, (fun e => by cases e), (fun b e => by cases e; rfl)⟩ (fun R hR => Nat.zero_le _)

end Go.VM
