/- The operations that read memory, and those that reckon with places. -/
import Derived.Test.YtcdgdiheoejjgaaVPure
namespace Go.VM
set_option linter.unusedSimpArgs false
set_option linter.unusedVariables false

theorem seek_some {st : St} {r p m R sz rows} (h : seek st r p m = some (R, sz, rows)) : st r = some R ∧ fresh R m p = true ∧ nav R.sz R.rows p = some (sz, rows) := by
  simp only [seek] at h
  split at h
  · rename_i R' hr
    split at h
    · rename_i hf
      split at h
      · rename_i sz' rows' hn
        simp only [Option.some.injEq, Prod.mk.injEq] at h
        obtain ⟨rfl, rfl, rfl⟩ := h
        exact ⟨hr, hf, hn⟩
      · cases h
    · cases h
  · cases h

theorem seek_still {st : St} {r p m R sz rows} (h : seek st r p m = some (R, sz, rows)) : Still st r p m :=
  .inr ⟨R, (seek_some h).1, (seek_some h).2.1⟩

theorem Rel.notfree {w ow bs st fr} (h : Rel w ow bs st fr) {r R} (hr : st r = some R) : ¬ fr r := by
  intro hf; rw [h.free r hf] at hr; cases hr

theorem RepT.slice {w ow bs ℓ sz es v} (h : RepT w ow bs ℓ (.list true sz es) v) : SliceOf es.length v ∧ Sub sz v 0 es.length v := by
  cases h with
  | ro h => cases h
  | nil base => exact ⟨⟨_, _, rfl, Nat.le_refl _, fun _ => ⟨rfl, rfl⟩, fun b hb => by cases hb⟩, .inr ⟨0, 0, rfl, rfl, rfl⟩⟩
  | @list _ a _ _ len cap c e fr base spot own blk free hlen hcap fits rows cells =>
    subst hlen
    refine ⟨⟨_, _, rfl, hcap, fun hb => by (cases hb), fun b hb => by (cases hb; exact spot)⟩, .inl ⟨a, _, cap, a.off, cap, rfl, ?_, .inr (by omega), Nat.le_refl _, hcap⟩⟩
    cases a; simp only at spot; subst spot; rfl

theorem cellV_rel {w ow bs st fr} (h : Rel w ow bs st fr) {r R p i j x v} (hr : st r = some R) (hx : RepT w ow bs (r, p ++ [(i, j)]) x v) : RelV w ow bs st fr (cellV r p R.log.length i j x) v := by
  have plain : RepR w ow x v → RelV w ow bs st fr (cellV r p R.log.length i j x) v := by
    intro hx
    cases hx with
    | dead => exact .undef
    | int => exact .c .int
    | bool => exact .c .bool
    | str => exact .c .str
    | nil => exact .c .nil
    | list spot own blk hlen hcap fits rows cells => exact .c (.list spot own blk hlen hcap fits rows cells)
  have owned : ∀ sz es, x = .list true sz es → RelV w ow bs st fr (cellV r p R.log.length i j x) v := by
    intro sz es e
    subst e
    have hb := hx.base
    have hs := hx.slice
    simp only [cellV]
    refine .al (h.notfree hr) (fun _ => ?_) hs.1 (fun R' h' => by rw [hr] at h'; cases h'; exact Nat.le_refl _)
    rw [hb]
    exact ⟨rfl, hs.2⟩
  cases hx with
  | ro hx => exact plain hx
  | nil base => exact owned _ _ rfl
  | list => exact owned _ _ rfl

theorem cell_of {w : World} {b o : Nat} {c : Array Value} {e z} (hb : w.heap[b]? = some (.cells c e z)) (h : o < c.size) : w.cell? ⟨b, o, none⟩ = some (c.getD o undef) := by
  simp [World.cell?, hb, Array.getElem?_eq_getElem h]

theorem add_eq (a : Addr) (k : Nat) (h : a.spot = none) : a.add k = ⟨a.block, a.off + k, none⟩ := by
  obtain ⟨b, o, s⟩ := a
  simp only at h
  subst h
  unfold Addr.add
  split
  · rename_i hk; subst hk; rfl
  · rfl

theorem rowV_get (r : Nat) (p : Path) (m i : Nat) : ∀ (xs : List T) (j k : Nat) (y : VV), (rowV r p m i j xs)[k]? = some y → ∃ x, xs[k]? = some x ∧ y = cellV r p m i (j + k) x
  | [], j, k, y, h => by simp [rowV] at h
  | x :: xs, j, 0, y, h => by
    simp only [rowV, List.getElem?_cons_zero, Option.some.injEq] at h
    exact ⟨x, by simp, by simpa using h.symm⟩
  | x :: xs, j, k + 1, y, h => by
    simp only [rowV, List.getElem?_cons_succ] at h
    obtain ⟨x', h1, h2⟩ := rowV_get r p m i xs (j + 1) k y h
    exact ⟨x', by simpa using h1, by rw [h2, show j + 1 + k = j + (k + 1) from by omega]⟩

theorem rowV_length (r : Nat) (p : Path) (m i : Nat) : ∀ (xs : List T) (j : Nat), (rowV r p m i j xs).length = xs.length
  | [], j => rfl
  | x :: xs, j => by simp [rowV, rowV_length r p m i xs]

theorem getD_toArray_map (f : Nat → Value) (n k : Nat) (h : k < n) : (((List.range n).map f).toArray).getD k undef = f k := by
  simp [Array.getD_eq_getD_getElem?, List.getElem?_map, List.getElem?_range h]

theorem roV_rel {w ow bs st fr x v} (h : RepR w ow x v) : RelV w ow bs st fr (roV x) v := by
  cases h with
  | dead => exact .undef
  | int => exact .c .int
  | bool => exact .c .bool
  | str => exact .c .str
  | nil => exact .c .nil
  | list spot own blk hlen hcap fits rows cells => exact .c (.list spot own blk hlen hcap fits rows cells)

theorem loadV_run {P : Program} {w ow bs st fr} (h : Rel w ow bs st fr) {t : TypeId} {x z : VV} {v : Value} (rx : RelV w ow bs st fr x v) (hl : loadV P st t x = some z) :
    ∃ u, (Instr.loadAt t v).run P w = .ok u w ∧ RelV w ow bs st fr z u := by
  unfold loadV at hl
  split at hl
  · rename_i r p m i j
    split at hl
    · rename_i R sz rows hs
      obtain ⟨hr, hf, hn⟩ := seek_some hs
      split at hl
      · rename_i hi
        obtain ⟨row, hrow⟩ : ∃ row, rows[i]? = some row := ⟨_, List.getElem?_eq_getElem hi⟩
        simp only [getD_of hrow] at hl
        cases rx with
        | @ptr _ _ _ _ _ _ hnf hp hv hm =>
        obtain ⟨a, l, cap, hb, rfl⟩ := hp (seek_still hs)
        cases ht : aggT P t with
        | none => rw [ht] at hl; cases hl
        | some b =>
          rw [ht] at hl
          cases b with
          | true =>
            simp only at hl
            split at hl
            · rename_i hfit
              simp only [Option.some.injEq] at hl
              subst hl
              obtain ⟨hagg, hne⟩ := isAgg_true ht w
              have cellk : ∀ k, k < P.cellsOf t → ∃ c e z', w.heap[a.block]? = some (.cells c e z') ∧ a.off + i * sz + (j + k) < c.size ∧ bs (r, p) = (sz, .slice (some a) l cap) ∧ a.spot = none ∧
                  RepT w ow bs (r, p ++ [(i, j + k)]) (row.getD (j + k) .dead) (c.getD (a.off + i * sz + (j + k)) undef) := by
                intro k hk
                have hjl : j + k < row.length := by omega
                obtain ⟨a', l', cap', c, e, z', hbs, spot, own, blk, _, _, _, _, _, hlt, hx⟩ := h.place hr hn hrow (List.getElem?_eq_getElem hjl)
                rw [hbs] at hb
                simp only [Value.slice.injEq, Option.some.injEq] at hb
                obtain ⟨rfl, rfl, rfl⟩ := hb
                refine ⟨c, e, z', blk, hlt, hbs, spot, ?_⟩
                rw [getD_of (List.getElem?_eq_getElem hjl)]
                exact hx
              obtain ⟨c, e, z', blk, _, hbs, spot, _⟩ := cellk 0 (by omega)
              rw [hbs]
              simp only
              refine ⟨.agg ((List.range (P.cellsOf t)).map fun k => c.getD (a.off + i * sz + (j + k)) undef).toArray, ?_, ?_⟩
              · have hlc := run_loadCells (P := P) w ⟨a.block, a.off + i * sz + j, none⟩ (P.cellsOf t) (fun k => c.getD (a.off + i * sz + (j + k)) undef) (fun k hk => by
                  obtain ⟨c', e', z'', blk', hlt, _, _, _⟩ := cellk k hk
                  rw [blk] at blk'
                  simp only [Option.some.injEq, Obj.cells.injEq] at blk'
                  obtain ⟨rfl, rfl, rfl⟩ := blk'
                  rw [add_eq _ _ rfl]
                  simp only
                  rw [show a.off + i * sz + j + k = a.off + i * sz + (j + k) from by omega]
                  exact cell_of blk hlt)
                simp [Instr.loadAt, Instr.sureAddr, loadVar, hagg, sizeOf_run hne, hlc]
              · refine .agg (by simp [rowV_length]; omega) (fun k y hk => ?_)
                obtain ⟨x, hx, rfl⟩ := rowV_get _ _ _ _ _ _ _ _ hk
                have hkl : k < P.cellsOf t := by
                  have := lt_of_getl hx
                  simp only [List.length_take, List.length_drop] at this; omega
                rw [List.getElem?_take, if_pos hkl, List.getElem?_drop] at hx
                obtain ⟨c', e', z'', blk', hlt, _, _, hrep⟩ := cellk k hkl
                rw [blk] at blk'
                simp only [Option.some.injEq, Obj.cells.injEq] at blk'
                obtain ⟨rfl, rfl, rfl⟩ := blk'
                rw [getD_of hx] at hrep
                rw [getD_toArray_map _ _ _ hkl]
                exact cellV_rel h hr hrep
            · cases hl
          | false =>
            simp only at hl
            split at hl
            · rename_i hj
              simp only [Option.some.injEq] at hl
              subst hl
              have hjg := List.getElem?_eq_getElem hj
              obtain ⟨a', l', cap', c, e, z', hbs, spot, own, blk, _, _, _, _, _, hlt, hx⟩ := h.place hr hn hrow hjg
              rw [hbs] at hb
              simp only [Value.slice.injEq, Option.some.injEq] at hb
              obtain ⟨rfl, rfl, rfl⟩ := hb
              rw [hbs]
              simp only
              refine ⟨c.getD (a'.off + i * sz + j) undef, ?_, ?_⟩
              · simp [Instr.loadAt, Instr.sureAddr, loadVar, isAgg_false ht w, cell_of blk hlt]
              · rw [getD_of hjg]
                exact cellV_rel h hr hx
            · cases hl
      · cases hl
    · cases hl
  · rename_i cs
    cases rx with
    | @rop _ a c e z' spot own blk fits cells =>
    cases ht : aggT P t with
    | none => rw [ht] at hl; cases hl
    | some b =>
      rw [ht] at hl
      cases b with
      | true =>
        simp only at hl
        split at hl
        · rename_i hfit
          simp only [Option.some.injEq] at hl
          subst hl
          obtain ⟨hagg, hne⟩ := isAgg_true ht w
          refine ⟨.agg ((List.range (P.cellsOf t)).map fun k => c.getD (a.off + k) undef).toArray, ?_, ?_⟩
          · have hlc := run_loadCells (P := P) w a (P.cellsOf t) (fun k => c.getD (a.off + k) undef) (fun k hk => by
              rw [add_eq _ _ spot]
              exact cell_of blk (by omega))
            simp [Instr.loadAt, Instr.sureAddr, loadVar, hagg, sizeOf_run hne, hlc]
          · refine .agg (by simp; omega) (fun k y hk => ?_)
            have hkl : k < P.cellsOf t := by have := lt_of_getl hk; simp at this; omega
            rw [List.getElem?_map, List.getElem?_take, if_pos hkl] at hk
            obtain ⟨x, hx, rfl⟩ := Option.map_eq_some_iff.1 hk
            rw [getD_toArray_map _ _ _ hkl]
            exact roV_rel (cells k x hx)
        · cases hl
      | false =>
        simp only at hl
        split at hl
        · rename_i x xs
          simp only [Option.some.injEq] at hl
          subst hl
          simp only [List.length_cons] at fits
          have hc := cells 0 x (by simp)
          simp only [Nat.add_zero] at hc
          refine ⟨c.getD a.off undef, ?_, roV_rel hc⟩
          have : w.cell? a = some (c.getD a.off undef) := by
            have := cell_of (w := w) (b := a.block) (o := a.off) blk (by omega)
            obtain ⟨b, o, s⟩ := a
            simp only at spot
            subst spot
            exact this
          simp [Instr.loadAt, Instr.sureAddr, loadVar, isAgg_false ht w, this]
        · cases hl
  · cases hl

end Go.VM
