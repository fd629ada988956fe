/- Variables, rows, stores: the operations that turn memory. -/
import Derived.Test.YtcdgdiheoejjgaaVNew
namespace Go.VM
set_option linter.unusedSimpArgs false
set_option linter.unusedVariables false

/-- The ids that an operation may use. -/
def Mine (fid : Nat) (x : Nat) : Prop := fid ≤ x ∧ x < fid + 1024
def Room (fr : Nat → Prop) (fid : Nat) : Prop := ∀ c, c < 1024 → fr (fid + c)

theorem takeVs_length : ∀ {st : St} {xs : List VV} {ys u}, takeVs st xs = some (ys, u) → ys.length = xs.length
  | st, [], ys, u, h => by simp only [takeVs, Option.some.injEq, Prod.mk.injEq] at h; rw [← h.1]; rfl
  | st, x :: xs, ys, u, h => by
    simp only [takeVs] at h
    split at h
    · split at h
      · rename_i h2
        simp only [Option.some.injEq, Prod.mk.injEq] at h
        rw [← h.1]; simp [takeVs_length h2]
      · cases h
    · cases h

/-- The cells of a value that goes into memory. -/
theorem cells_rel {w ow bs st fr} {x : VV} {v : Value} (rx : RelV w ow bs st fr x v) {stV : St} {ys u} (hx : takeVs stV x.cells = some (ys, u)) :
    x.cells.length = v.cells.toList.length ∧ ∀ (k : Nat) (y : VV) (z : Value), x.cells[k]? = some y → v.cells.toList[k]? = some z → RelV w ow bs st fr y z := by
  have one : x.cells = [x] → v.cells = #[v] → x.cells.length = v.cells.toList.length ∧ ∀ (k : Nat) (y : VV) (z : Value), x.cells[k]? = some y → v.cells.toList[k]? = some z → RelV w ow bs st fr y z := by
    intro h1 h2
    rw [h1, h2]
    refine ⟨rfl, fun k y z hy hz => ?_⟩
    cases k with
    | zero => simp at hy hz; subst hy; subst hz; exact rx
    | succ k => simp at hy
  cases rx with
  | @agg cs vs hl h =>
    refine ⟨by simpa [VV.cells, Value.cells] using hl, fun k y z hy hz => ?_⟩
    have := h k y hy
    rw [Array.getD_eq_getD_getElem?] at this
    simp only [Value.cells, Array.getElem?_toList] at hz
    rw [hz] at this
    exact this
  | c h => 
    cases h with
    | dead => simp [VV.cells, takeVs, takeV] at hx
    | int => exact one rfl rfl
    | bool => exact one rfl rfl
    | str => exact one rfl rfl
    | nil => exact one rfl rfl
    | list => exact one rfl rfl
  | nils => exact one rfl rfl
  | al hn hs hv hm => obtain ⟨a, cap, rfl, _⟩ := hv; exact one rfl rfl
  | ptr => simp [VV.cells, takeVs, takeV] at hx
  | tup => simp [VV.cells, takeVs, takeV] at hx
  | rop => simp [VV.cells, takeVs, takeV] at hx
  | fn => simp [VV.cells, takeVs, takeV] at hx
  | undef => simp [VV.cells, takeVs, takeV] at hx

theorem chunks_one (ys : List T) : chunks ys ys.length 1 = [ys] := by
  simp [chunks, chunk, List.range_succ]

theorem box_sound {P : Program} {w ow bs st} {fr : Nat → Prop} {fid : Nat} {e : TypeId} {x : VV} {v : Value} {ys u} (h : Rel w ow bs st fr) (hroom : Room fr fid) (rx : RelV w ow bs st fr x v) (hx : takeVs st x.cells = some (ys, u)) (hlen : ys.length ≤ 1000) :
    Does w ow bs st fr (fun y => fr y ∧ ¬ Mine fid y) ((do pure (Next.value (← Instr.box e v)) : Sem Next).run P w) (.ptr fid [] 0 0 0) (st.ups (u ++ [(fid, some ⟨true, ys.length, [ys], []⟩)])) := by
  have hl := takeVs_length hx
  obtain ⟨h1, h2⟩ := cells_rel rx hx
  obtain ⟨ow', bs', g1, g2, g3, g4⟩ := newRow_sound (fid := fid) (n := 1) (sz := ys.length) (cap := 1) h hx h1 h2 (fun c hc => hroom c (by omega)) (fr' := fun y => fr y ∧ ¬ Mine fid y) (fun y hy => ⟨hy.1, fun e => hy.2 ⟨e.1, by omega⟩⟩) (by omega) e (0, 0) v.cells
    (fun k z hz => by rw [Array.getD_eq_getD_getElem?, ← Array.getElem?_toList, hz]; rfl) (Nat.le_refl _) (by simp at h1; omega) (fun k _ hk => by omega) true (fun _ => ⟨rfl, rfl⟩)
  rw [chunks_one] at g1 g3
  refine ⟨.pointer (some ⟨w.heap.size, 0, none⟩), _, ow', bs', .inl ?_, g1, ?_, g2, g3⟩
  · simp [Instr.box, newVar, newRow]
  · refine .ptr (fun e => e.2 ⟨Nat.le_refl _, by omega⟩) (fun _ => ⟨_, _, _, by rw [g4], by simp⟩) ⟨_, rfl, rfl⟩ (fun R hR => Nat.zero_le _)

/-! ### zero values -/

theorem sameZero_rel {w ow} {x : T} {v : Value} (h : sameZero x v = true) : RepR w ow x v ∨ (∃ s, x = .list true s [] ∧ v = .slice none 0 0) := by
  cases x <;> cases v <;> simp only [sameZero, Bool.false_eq_true] at h <;> try (cases h; done)
  · rename_i k n k' n'
    simp only [Bool.and_eq_true, beq_iff_eq] at h
    obtain ⟨rfl, rfl⟩ := h
    exact .inl .int
  · rename_i a b
    simp only [beq_iff_eq] at h
    subst h
    exact .inl .bool
  · rename_i a b
    simp only [beq_iff_eq] at h
    obtain ⟨a⟩ := a
    obtain ⟨b⟩ := b
    simp only at h
    subst h
    exact .inl .str
  · rename_i o s es a l c
    split at h
    · rename_i heq1 heq2; cases heq1
    · rename_i heq1 heq2; cases heq1
    · rename_i heq1 heq2; cases heq1
    · rename_i heq1 heq2
      cases heq1; cases heq2
      exact .inr ⟨_, rfl, rfl⟩
    · cases h

theorem zeroT_some {P : Program} {t : TypeId} {zs : List T} (h : zeroT P t = some zs) (w : World) : ∃ z, (zeroValue t).run P w = .ok z w ∧ zs.length = z.cells.size ∧ zs.length = P.cellsOf t ∧
    ∀ (k : Nat) (x : T), zs[k]? = some x → sameZero x (z.cells.getD k undef) = true := by
  unfold zeroT at h
  split at h
  · rename_i cs z h1 h2
    split at h
    · rename_i hc
      simp only [Option.some.injEq] at h
      subst h
      simp only [Bool.and_eq_true, beq_iff_eq, List.all_eq_true] at hc
      obtain ⟨⟨hc1, hc2⟩, hc3⟩ := hc
      cases hi : P.info? t with
      | none => rw [hi] at h2; simp at h2
      | some i =>
        rw [hi] at h2
        simp only [Option.bind_some] at h2
        refine ⟨z, by simp [zeroValue, run_typeInfo w hi, h2], hc1, hc3, fun k x hx => ?_⟩
        have hk := lt_of_getl hx
        have hz : z.cells.toList[k]? = some (z.cells.getD k undef) := by
          rw [Array.getElem?_toList, Array.getD_eq_getD_getElem?, Array.getElem?_eq_getElem (by omega)]; rfl
        refine hc2 (x, z.cells.getD k undef) ?_
        refine List.mem_of_getElem? (i := k) ?_
        rw [List.getElem?_zip_eq_some]
        exact ⟨hx, hz⟩
    · cases h
  · cases h

/-- A new row of zero values. -/
theorem zeros_sound {w : World} {ow bs st} {fr : Nat → Prop} {fid : Nat} (h : Rel w ow bs st fr) (hroom : Room fr fid) {zs : List T} {n cap : Nat} {c : Array Value} {e : TypeId}
    (hc : ∀ (i k : Nat) (x : T), i < n → zs[k]? = some x → sameZero x (c.getD (i * zs.length + k) undef) = true) (hcap : n ≤ cap) (hsz : cap * zs.length ≤ c.size) (box : Bool) (hbox : box = true → n = 1 ∧ cap = 1) :
    ∃ ow' bs', Rel (w.alloc (.cells c e)) ow' bs' (st.ups [(fid, some ⟨box, zs.length, List.replicate n zs, []⟩)]) (fun y => fr y ∧ ¬ Mine fid y) ∧ Steady w ow (w.alloc (.cells c e)) ow' ∧
      Quiet bs st fr bs' (st.ups [(fid, some ⟨box, zs.length, List.replicate n zs, []⟩)]) (fun y => fr y ∧ ¬ Mine fid y) ∧ bs' (fid, []) = (zs.length, .slice (some ⟨w.heap.size, 0, none⟩) n cap) := by
  have hf0 : fr fid := by have := hroom 0 (by omega); simpa using this
  obtain ⟨k1, k2, k3⟩ := h.alloc (r := fid) hf0 (sz := zs.length) (rows := List.replicate n zs) (cap := cap) (c := c) (e := e) (z := (0, 0)) box hsz (fun k _ hk => by omega) (by simpa using hcap)
    (fun i row hi => by
      rw [List.getElem?_replicate] at hi
      split at hi
      · simp only [Option.some.injEq] at hi; rw [← hi]
      · cases hi)
    (fun i row j x hi hj => by
      rw [List.getElem?_replicate] at hi
      split at hi
      · rename_i hin
        simp only [Option.some.injEq] at hi
        subst hi
        exact sameZero_rel (hc i j x hin hj)
      · cases hi)
    (fun hb => by simpa using hbox hb)
  have hsub : ∀ x, (fr x ∧ ¬ Mine fid x) → fr x ∧ x ≠ fid := fun x hx => ⟨hx.1, fun e => hx.2 (by rw [e]; exact ⟨Nat.le_refl _, by omega⟩)⟩
  refine ⟨_, _, k1.shrink hsub, k2, k3.trans (Quiet.shrink hsub), by simp [newBase]⟩

theorem alloc_sound {P : Program} {w ow bs st} {fr : Nat → Prop} {fid : Nat} {e : TypeId} {zs : List T} (h : Rel w ow bs st fr) (hroom : Room fr fid) (hz : zeroT P e = some zs) :
    Does w ow bs st fr (fun y => fr y ∧ ¬ Mine fid y) ((do pure (Next.value (← Instr.alloc e true (.tuple #[]))) : Sem Next).run P w) (.ptr fid [] 0 0 0) (st.ups [(fid, some ⟨true, zs.length, [zs], []⟩)]) := by
  obtain ⟨z, hz1, hz2, hz3, hz4⟩ := zeroT_some hz w
  obtain ⟨ow', bs', g1, g2, g3, g4⟩ := zeros_sound (fid := fid) h hroom (zs := zs) (n := 1) (cap := 1) (c := z.cells) (e := e) (fun i k x hi hx => by
    have : i = 0 := by omega
    subst this
    simpa using hz4 k x hx) (Nat.le_refl _) (by omega) true (fun _ => ⟨rfl, rfl⟩)
  refine ⟨.pointer (some ⟨w.heap.size, 0, none⟩), _, ow', bs', .inl ?_, g1, ?_, g2, g3⟩
  · simp [Instr.alloc, hz1, newVar, newRow]
  · exact .ptr (fun e => e.2 ⟨Nat.le_refl _, by omega⟩) (fun _ => ⟨_, _, _, by rw [g4], by simp⟩) ⟨_, rfl, rfl⟩ (fun R hR => Nat.zero_le _)

/-! ### a store -/

theorem store_op_sound {P : Program} {w ow bs st} {fr : Nat → Prop} {fid : Nat} {t : TypeId} {r p m i j} {x : VV} {va vx : Value} {u : Ups} (h : Rel w ow bs st fr) (hroom : Room fr fid) (ra : RelV w ow bs st fr (.ptr r p m i j) va) (rx : RelV w ow bs st fr x vx)
    (hlen : x.cells.length = P.cellsOf t) (hpos : P.cellsOf t ≠ 0) (hmax : x.cells.length ≤ 1000) (hs : storeV st r p m i j x.cells = some u) :
    Does w ow bs st fr (fun y => fr y ∧ ¬ Mine fid y) ((do Instr.storeAt t va vx; pure Next.skip : Sem Next).run P w) .undef (st.ups u) := by
  unfold storeV at hs
  split at hs
  · rename_i R0 hs0
    obtain ⟨R0, sz0, rows0⟩ := R0
    split at hs
    · rename_i ys u1 hx
      split at hs
      · rename_i R sz rows hs1
        split at hs
        · rename_i hfit
          simp only [Option.some.injEq] at hs
          subst hs
          obtain ⟨h1, h2⟩ := cells_rel rx hx
          have hyl := takeVs_length hx
          obtain ⟨owB, bsB, stB, g1, g2, g3, g4, g5, g6, g7, g8⟩ := takeVs_sound x.cells vx.cells.toList ys u1 (fid + 1) h (fun k hk => by have := hroom (k + 1) (by omega); rwa [show fid + (k + 1) = fid + 1 + k from by omega] at this) (fun _ _ => rfl) (Quiet.refl _ _ _) (Kept.refl _ _) hx h1 h2
          cases ra with
          | @ptr _ _ _ _ _ _ hnf hp hv hm =>
          obtain ⟨a, l, cap, hb, rfl⟩ := hp (seek_still hs0)
          obtain ⟨hr1, hf1, hn1⟩ := seek_some hs1
          have hrB : stB r = some R := (g4 r hnf).trans hr1
          obtain ⟨_, hbeq⟩ := g3.at hnf hm (.inr ⟨R, hrB, hf1⟩)
          have hrow : rows[i]? = some (rows.getD i []) := by rw [List.getD_eq_getElem?_getD, List.getElem?_eq_getElem hfit.1]; rfl
          have hj0 : j < (rows.getD i []).length := by omega
          obtain ⟨a', len', cap', c, e, z, hbs, spot, own, blk, free, hlen', hcap', fits, hrl, hlt, hxx⟩ := g1.place hrB hn1 hrow (List.getElem?_eq_getElem hj0)
          have hsz : (bs (r, p)).1 = sz := by rw [← hbeq, hbs]
          have hbB : (bsB (r, p)).2 = .slice (some a) l cap := by rw [hbeq]; exact hb
          have ht0 : ∀ k, k < ys.length → fid + 1 + k ≠ r := fun k hk e => hnf (by
            have := hroom (k + 1) (by omega)
            rw [← e]; rwa [show fid + (k + 1) = fid + 1 + k from by omega] at this)
          obtain ⟨w', ow', bs', st', q1, q2, q3, q4, q5, q6, q7⟩ := store_sound (P := P) ⟨a.block, a.off + i * (bs (r, p)).1 + j, none⟩ rfl ys vx.cells.toList 0 (fid + 1) g1 hrB hn1 hrow (j0 := j) (by omega) hbB rfl (by rw [hsz]) (by omega) ht0
            (fun k y v hy hv => g6 k y v hy hv)
          have hV : ∀ y R1, ¬ fr y → (st.ups (u1 ++ [(r, some { R with rows := modAt (setCells i j ys) R.rows p, log := R.log ++ filled p i j ys })])) y = some R1 → st' y = some R1 := by
            intro y R1 hfy hR1
            rw [St.ups_append, St.ups_cons, St.ups_nil] at hR1
            by_cases e : y = r
            · subst e
              rw [St.put_eq] at hR1
              rw [q5]; simpa using hR1
            · rw [St.put_ne _ _ e] at hR1
              rw [q6 y e (fun e' => hfy (by have := hroom (y - fid) (by omega); rwa [show fid + (y - fid) = y from by omega] at this)), g4 y hfy]
              exact hR1
          have hfree : ∀ y, fr y → (st.ups (u1 ++ [(r, some { R with rows := modAt (setCells i j ys) R.rows p, log := R.log ++ filled p i j ys })])) y = none := by
            intro y hfy
            rw [ups_other, h.free y hfy]
            intro r' R' hm' e
            rcases List.mem_append.1 hm' with hm' | hm'
            · exact g8 r' R' hm' (by rw [e]; exact hfy)
            · simp only [List.mem_singleton, Prod.mk.injEq] at hm'
              rw [hm'.1] at e
              exact hnf (by rw [e]; exact hfy)
          have hsubV : ∀ y R1, (st.ups (u1 ++ [(r, some { R with rows := modAt (setCells i j ys) R.rows p, log := R.log ++ filled p i j ys })])) y = some R1 → st' y = some R1 := by
            intro y R1 hR1
            refine hV y R1 (fun hfy => ?_) hR1
            rw [hfree y hfy] at hR1; cases hR1
          have hshrink : ∀ y, (fr y ∧ ¬ Mine fid y) → (fr y ∧ ¬ (fid + 1 ≤ y ∧ y < fid + 1 + x.cells.length)) := fun y hy => ⟨hy.1, fun e => hy.2 ⟨by omega, by omega⟩⟩
          refine ⟨undef, w', ow', bs', .inr ⟨?_, rfl⟩, (q2.sub hsubV).shrink hshrink, .undef, ?_, ?_⟩
          · have hc : vx.cells.size = P.cellsOf t := by rw [← hlen, h1]; simp
            simp only [Instr.storeAt, Instr.sureAddr, pure_bind, storeVar, Sem.run_bind, sizeOf_run hpos, Result.andThen_ok, hc, ne_eq, not_true_eq_false, if_false]
            rw [q1]; rfl
          · exact ⟨fun b hb0 hlt => by
              have e1 := g2 b hb0 hlt
              have e2 := q3.kept b e1.2 hlt
              exact ⟨e2.1, e2.2⟩, q3.size, q3.os, q3.tape, q3.output⟩
          · exact (g3.trans q4).to hV (fun y hy => hy.1)
        · cases hs
      · cases hs
    · cases hs
  · cases hs

end Go.VM
