/- Made slices, bytes and strings, and what grows. -/
import Derived.Test.YtcdgdiheoejjgaaVBuild
import Derived.Laws.BytesString
import Derived.IntWalk
namespace Go.VM
set_option linter.unusedSimpArgs false
set_option linter.unusedVariables false

theorem Kept.heap {w w' : World} {ow : Own} (hw : w'.heap = w.heap) : Kept w ow w' ow := fun b hb _ => ⟨by rw [hw], hb⟩

theorem Rel.heap {w w' ow bs st fr} (h : Rel w ow bs st fr) (hw : w'.heap = w.heap) : Rel w' ow bs st fr :=
  ⟨fun r R hr => (h.root r R hr).move (Kept.heap hw) ⟨fun b q hq => ⟨by rw [hw], hq⟩, fun _ => rfl⟩, h.box, fun b ℓ hb => ⟨(h.own b ℓ hb).1, by rw [hw]; exact (h.own b ℓ hb).2⟩, h.free⟩

theorem makeSlice_sound {P : Program} {w ow bs st} {fr : Nat → Prop} {fid : Nat} (h : Rel w ow bs st fr) (hroom : Room fr fid) {t e : TypeId} {n k : Int} {z : List T} {q1 q2 : IntKind}
    (ht : elemT P t = some e) (hz : zeroT P e = some z) (h0 : 0 ≤ n) (hnk : n ≤ k) (hmax : k * (P.bytesOf e + 1) ≤ bigRow) :
    Does w ow bs st fr (fun y => fr y ∧ ¬ Mine fid y) ((do pure (Next.value (← Instr.makeSlice t (.int q1 n) (.int q2 k))) : Sem Next).run P w) (.al fid [] 0 (P.cellsOf e) 0 n.toNat)
      (st.ups [(fid, some ⟨false, P.cellsOf e, List.replicate n.toNat z, []⟩)]) := by
  obtain ⟨zv, hz1, hz2, hz3, hz4⟩ := zeroT_some hz w
  obtain ⟨hu, hne⟩ := elemT_some ht
  obtain ⟨i, hi⟩ := info_of_cells hne
  have hbytes : P.bytesOf e = i.bytes := by simp [Program.bytesOf, hi]
  have hk0 : 0 ≤ k := by omega
  have hb0 : (0 : Int) ≤ (P.bytesOf e : Int) := Int.natCast_nonneg _
  have hkb : k ≤ bigRow := by
    have : k * 1 ≤ k * (P.bytesOf e + 1) := Int.mul_le_mul_of_nonneg_left (by omega) hk0
    omega
  have hkb2 : (P.bytesOf e : Int) * k ≤ bigRow := by
    have : k * P.bytesOf e ≤ k * (P.bytesOf e + 1) := Int.mul_le_mul_of_nonneg_left (by omega) hk0
    rw [Int.mul_comm]; omega
  have hwrap : ∀ m : Int, 0 ≤ m → m ≤ k → IntKind.i64.wrap m = m := by
    intro m h1 h2
    unfold bigRow at hkb
    exact IntWalk.i64_in m (by omega)
  generalize hzero : (if k.toNat * P.cellsOf e = 0 then #[] else zv.cells : Array Value) = zc
  have hzc : ∀ m, m < k.toNat * P.cellsOf e → zc = zv.cells := fun m hm => by rw [← hzero, if_neg (by omega)]
  obtain ⟨ow', bs', g1, g2, g3, g4⟩ := zeros_sound (fid := fid) h hroom (zs := z) (n := n.toNat) (cap := k.toNat) (c := (Array.range (k.toNat * P.cellsOf e)).map (fun i => zc[i % zc.size]!)) (e := e) (fun a b x ha hx => by
      have hbl := lt_of_getl hx
      have hfit : (a + 1) * z.length ≤ k.toNat * z.length := Nat.mul_le_mul_right _ (by omega)
      rw [Nat.add_mul] at hfit
      have hlt : a * z.length + b < k.toNat * P.cellsOf e := by rw [← hz3]; omega
      rw [hzc _ hlt]
      have hmod : (a * z.length + b) % zv.cells.size = b := by rw [← hz2, Nat.mul_comm, Nat.mul_add_mod, Nat.mod_eq_of_lt hbl]
      rw [zrange_get _ _ _ hlt (by rw [hmod]; omega), hmod]
      exact hz4 b x hx) (by omega) (by simp [hz3]) false (fun hb => by cases hb)
  rw [hz3] at g1 g3 g4
  refine ⟨.slice (some ⟨w.heap.size, 0, none⟩) n.toNat k.toNat, _, ow', bs', .inl ?_, g1, ?_, g2, g3⟩
  · have hz' : ((if k.toNat * P.cellsOf e = 0 then pure #[] else do pure (← zeroValue e).cells : Sem (Array Value))).run P w = .ok zc w := by
      rw [← hzero]
      split <;> simp [hz1]
    unfold bigRow at hkb2
    simp only [Instr.makeSlice, Sem.run_bind, run_underlying hu, Result.andThen_ok, asInt, asIntOf, Sem.run_pure, pure_bind, run_typeInfo w hi]
    rw [hwrap n h0 hnk, hwrap k hk0 (Int.le_refl _), ← hbytes]
    have c1 : ((decide (k < 0) || decide ((P.bytesOf e : Int) * k > 2 ^ 48)) || decide (n < 0) || decide (n > k)) = false := by
      simp only [Bool.or_eq_false_iff, decide_eq_false_iff_not]
      omega
    rw [c1]
    simp only [Bool.false_eq_true, if_false, Sem.run_bind, run_askRoom, Result.andThen_ok, sizeOf_run hne w]
    by_cases hl0 : k.toNat * P.cellsOf e = 0
    · rw [if_pos hl0] at hzero ⊢
      subst hzero
      simp [newRow]
    · rw [if_neg hl0] at hzero ⊢
      subst hzero
      simp [newRow, hz1]
  · exact .al (fun e => e.2 ⟨Nat.le_refl _, by omega⟩) (fun _ => ⟨by rw [g4], by rw [g4]; exact .inl ⟨_, _, _, 0, k.toNat, rfl, rfl, .inr (by simp), by simp, by omega⟩⟩)
      ⟨_, _, rfl, by omega, (fun e => by cases e), (fun b e => by cases e; rfl)⟩ (fun R hR => Nat.zero_le _)

/-! ### rows that are read -/

theorem rows_rel {w ow bs st fr} (h : Rel w ow bs st fr) {x : VV} {v : Value} {sz : Nat} {rows : List (List T)} (rx : RelV w ow bs st fr x v) (hx : rowsOf st x = some (sz, rows)) :
    ∃ a cap, v = .slice a rows.length cap ∧ rows.length ≤ cap ∧ (rows = [] ∨ ∃ b c e z, a = some b ∧ b.spot = none ∧ w.heap[b.block]? = some (.cells c e z) ∧ b.off + rows.length * sz ≤ c.size ∧ (∀ (i : Nat) (row : List T), rows[i]? = some row → row.length = sz) ∧
      ∀ (i : Nat) (row : List T) (j : Nat) (y : T), rows[i]? = some row → row[j]? = some y → isOwn y = false → RepR w ow y (c.getD (b.off + i * sz + j) undef)) := by
  unfold rowsOf at hx
  split at hx
  · simp only [Option.some.injEq, Prod.mk.injEq] at hx
    obtain ⟨rfl, rfl⟩ := hx
    cases rx
    exact ⟨none, 0, rfl, Nat.le_refl _, .inl rfl⟩
  · simp only [Option.some.injEq, Prod.mk.injEq] at hx
    obtain ⟨rfl, rfl⟩ := hx
    cases rx with
    | c rx =>
    cases rx with
    | nil => exact ⟨_, _, rfl, Nat.zero_le _, .inl rfl⟩
    | @list a _ _ len cap c e z spot own blk hlen hcap fits rows cells =>
      subst hlen
      exact ⟨_, _, rfl, hcap, .inr ⟨a, c, e, z, rfl, spot, blk, fits, rows, fun i row j y h1 h2 _ => cells i row j y h1 h2⟩⟩
  · rename_i r p m sz0 off len
    split at hx
    · rename_i R sz' rows0 hs
      split at hx
      · rename_i hc
        simp only [Option.some.injEq, Prod.mk.injEq] at hx
        obtain ⟨rfl, rfl⟩ := hx
        obtain ⟨hle, rfl⟩ := hc
        obtain ⟨hr, hf, hn⟩ := seek_some hs
        cases rx with
        | @al _ _ _ _ _ _ _ hnf hsub hv hm =>
        obtain ⟨a, cap, rfl, hcap, hnone, hspot⟩ := hv
        have hlen : ((rows0.drop off).take len).length = len := by simp; omega
        refine ⟨a, cap, by rw [hlen], by omega, ?_⟩
        by_cases hl0 : len = 0
        · exact .inl (by rw [hl0]; simp)
        · right
          obtain ⟨hb, hsb⟩ := hsub (seek_still hs)
          rcases hsb with ⟨b, l, capb, o, cap', hbv, hv, ho, hfit, hle'⟩ | ⟨l, capb, _, h0, _⟩
          · simp only [Value.slice.injEq] at hv
            obtain ⟨rfl, _, rfl⟩ := hv
            have hp := (h.root r R hr).nav hn
            simp only [List.nil_append] at hp
            have hpb := hp.base
            rw [hbv] at hp
            cases hp with
            | ro h => cases h
            | @list _ _ _ _ _ _ c e z base spot own blk free hlen0 hcap0 fits hrows cells =>
              have ho : o = b.off + off * sz0 := by
                rcases ho with h' | h'
                · omega
                · exact h'
              have hmul : (off + len) * sz0 ≤ capb * sz0 := Nat.mul_le_mul_right _ (by omega)
              rw [Nat.add_mul] at hmul
              refine ⟨⟨b.block, o, none⟩, c, e, z, rfl, rfl, blk, by simp only [hlen]; omega, fun i row hi => ?_, fun i row j y hi hj hy => ?_⟩
              · rw [List.getElem?_take] at hi
                split at hi
                · rw [List.getElem?_drop] at hi; exact hrows _ _ hi
                · cases hi
              · rw [List.getElem?_take] at hi
                split at hi
                · rw [List.getElem?_drop] at hi
                  have := cells _ _ j y hi hj
                  simp only
                  rw [show o + i * sz0 + j = b.off + (off + i) * sz0 + j from by rw [ho, Nat.add_mul]; omega]
                  generalize c.getD (b.off + (off + i) * sz0 + j) undef = cv at this ⊢
                  cases this with
                  | ro h => exact h
                  | nil => cases hy
                  | list => cases hy
                · cases hi
          · omega
      · cases hx
    · cases hx
  · cases hx

/-! ### what grows -/

theorem Rel.regrow {w w' ow bs st fr} (h : Rel w ow bs st fr) {r sz : Nat} {ys xs : List (List T)} {log : List Path} {v : Value} (hr : st r = some ⟨false, sz, ys, log⟩) (hv : (bs (r, [])).2 = v)
    {nb o cap : Nat} {c : Array Value} {e : TypeId} {z : Nat × Nat} (hnb : w'.heap[nb]? = some (.cells c e z)) (hsize : w.heap.size ≤ w'.heap.size) (hsame : ∀ b, b < w.heap.size → b ≠ nb → w'.heap[b]? = w.heap[b]?)
    (hown : nb < w.heap.size → ow nb = some (r, []) ∧ ∃ a l cap0, v = .slice (some a) l cap0 ∧ a.block = nb) (free : Unfrozen z c.size) (hcap : ys.length + xs.length ≤ cap) (hfit : o + cap * sz ≤ c.size)
    (hold : ∀ (a : Addr) (l cap0 : Nat) (c0 : Array Value) (e0 : TypeId) (z0 : Nat × Nat), v = .slice (some a) l cap0 → w.heap[a.block]? = some (.cells c0 e0 z0) → ∀ k, k < ys.length * sz → c.getD (o + k) undef = c0.getD (a.off + k) undef)
    (hrows : ∀ (i : Nat) (row : List T), xs[i]? = some row → row.length = sz) (hnew : ∀ (i : Nat) (row : List T) (j : Nat) (y : T), xs[i]? = some row → row[j]? = some y → RepR w ow y (c.getD (o + (ys.length + i) * sz + j) undef)) :
    ∃ ow', Rel w' ow' (fun ℓ => if ℓ = (r, []) then (sz, .slice (some ⟨nb, o, none⟩) (ys.length + xs.length) cap) else bs ℓ) (st.put r (some ⟨false, sz, ys ++ xs, []⟩)) fr ∧ Kept w ow w' ow' := by
  have hrf := h.notfree hr
  generalize how : (fun b => if b = nb then some (r, []) else if ow b = some (r, []) then none else ow b : Own) = ow'
  have how1 : ow' nb = some (r, []) := by rw [← how]; simp
  have how2 : ∀ b ℓ, ow b = some ℓ → ℓ ≠ (r, []) → ow' b = some ℓ := by
    intro b ℓ hb hne
    rw [← how]
    have hbn : b ≠ nb := by
      intro e
      subst e
      by_cases hlt : b < w.heap.size
      · rw [(hown hlt).1] at hb; cases hb; exact hne rfl
      · exact hlt (h.own b ℓ hb).2
    simp only [hbn, if_false]
    rw [if_neg (by rw [hb]; exact fun e => hne (Option.some.inj e))]
    exact hb
  have hkept : Kept w ow w' ow' := by
    intro b hb hlt
    have hbn : b ≠ nb := by intro e; subst e; rw [(hown hlt).1] at hb; cases hb
    refine ⟨hsame b hlt hbn, ?_⟩
    rw [← how]; simp [hbn, hb]
  have hheap : ∀ b ℓ, ow b = some ℓ → ℓ ≠ (r, []) → w'.heap[b]? = w.heap[b]? := by
    intro b ℓ hb hne
    have hlt := (h.own b ℓ hb).2
    refine hsame b hlt ?_
    intro e; subst e
    rw [(hown hlt).1] at hb; cases hb; exact hne rfl
  have helem : ∀ (i j : Nat) (x : T) (u : Value), RepT w ow bs (r, [(i, j)]) x u → RepT w' ow' (fun ℓ => if ℓ = (r, []) then (sz, .slice (some ⟨nb, o, none⟩) (ys.length + xs.length) cap) else bs ℓ) (r, [(i, j)]) x u := by
    intro i j x u hx
    refine hx.move hkept ⟨fun b q hq => ⟨hheap b _ hq (by simp), how2 b _ hq (by simp)⟩, fun q => by simp⟩
  refine ⟨ow', ⟨fun r' R' hR' => ?_, fun r' R' hR' hb => ?_, fun b ℓ hb => ?_, fun r' hf => ?_⟩, hkept⟩
  · by_cases er : r' = r
    · subst er
      simp only [St.put_eq, Option.some.injEq] at hR'
      subst hR'
      simp only [if_true]
      have hroot := h.root r' _ hr
      rw [hv] at hroot
      simp only at hroot
      refine .list (by simp) rfl how1 hnb free (by simp) hcap hfit (fun i row hi => ?_) (fun i row j x hi hj => ?_)
      · by_cases hlt : i < ys.length
        · rw [List.getElem?_append_left hlt] at hi
          cases hroot with
          | ro h => cases h
          | nil => simp at hlt
          | list base spot own blk free hlen hcap fits hrw cells => exact hrw i row hi
        · rw [List.getElem?_append_right (by omega)] at hi
          exact hrows _ row hi
      · simp only
        by_cases hlt : i < ys.length
        · rw [List.getElem?_append_left hlt] at hi
          cases hroot with
          | ro h => cases h
          | nil => simp at hlt
          | @list _ a _ _ len cap0 c0 e0 z0 base spot own blk free hlen hcap0 fits hrw cells =>
            have hrl := hrw i row hi
            have hjl := lt_of_getl hj
            have hmul : (i + 1) * sz ≤ ys.length * sz := Nat.mul_le_mul_right _ hlt
            rw [Nat.add_mul] at hmul
            have := hold a _ _ c0 e0 z0 rfl blk (i * sz + j) (by omega)
            rw [show o + i * sz + j = o + (i * sz + j) from by omega, this, show a.off + (i * sz + j) = a.off + i * sz + j from by omega]
            exact helem i j x _ (cells i row j x hi hj)
        · rw [List.getElem?_append_right (by omega)] at hi
          have := hnew _ row j x hi hj
          rw [show ys.length + (i - ys.length) = i from by omega] at this
          exact .ro (this.mono hkept)
    · rw [St.put_ne _ _ er] at hR'
      have hne : ∀ q, ((r', q) : Loc) ≠ (r, []) := fun q e => er (by cases e; rfl)
      rw [if_neg (hne _)]
      refine (h.root r' R' hR').move hkept ⟨fun b q hq => ⟨hheap b _ hq (hne _), how2 b _ hq (hne _)⟩, fun q => if_neg (hne _)⟩
  · by_cases er : r' = r
    · subst er
      simp only [St.put_eq, Option.some.injEq] at hR'
      subst hR'
      cases hb
    · rw [St.put_ne _ _ er] at hR'
      rw [if_neg (fun e => er (by cases e; rfl))]
      exact h.box r' R' hR' hb
  · rw [← how] at hb
    simp only at hb
    split at hb
    · rename_i e'
      simp only [Option.some.injEq] at hb
      subst hb
      rw [e']
      exact ⟨hrf, lt_of_get hnb⟩
    · split at hb
      · cases hb
      · exact ⟨(h.own b ℓ hb).1, Nat.lt_of_lt_of_le (h.own b ℓ hb).2 hsize⟩
  · have : r' ≠ r := fun e => hrf (by rw [← e]; exact hf)
    rw [St.put_ne _ _ this]
    exact h.free r' hf

/-- Cells stored one behind the other. -/
theorem storeCells_raw {P : Program} (A : Addr) (hA : A.spot = none) : ∀ (vs : List Value) (k0 : Nat) {w : World} {c : Array Value} {e : TypeId} {z : Nat × Nat}, w.heap[A.block]? = some (.cells c e z) → Unfrozen z c.size → A.off + k0 + vs.length ≤ c.size → (∀ v ∈ vs, v.oneCell' = true) →
    ∃ w' c', (storeCells A vs k0).run P w = .ok () w' ∧ w'.heap[A.block]? = some (.cells c' e z) ∧ c'.size = c.size ∧ w'.heap.size = w.heap.size ∧ (∀ b, b ≠ A.block → w'.heap[b]? = w.heap[b]?) ∧ w'.os = w.os ∧ w'.tape = w.tape ∧ w'.output = w.output ∧
      (∀ k, k < vs.length → c'.getD (A.off + k0 + k) undef = vs.getD k undef) ∧ (∀ m, m < A.off + k0 ∨ A.off + k0 + vs.length ≤ m → c'.getD m undef = c.getD m undef)
  | [], k0, w, c, e, z, hb, hu, hl, ho => ⟨w, c, rfl, hb, rfl, rfl, fun _ _ => rfl, rfl, rfl, rfl, fun k hk => by simp at hk, fun _ _ => rfl⟩
  | v :: vs, k0, w, c, e, z, hb, hu, hl, ho => by
    simp only [List.length_cons] at hl
    have hlt : A.off + k0 < c.size := by omega
    have hstore : (store (A.add k0) v).run P w = .ok () (w.setCell ⟨A.block, A.off + k0, none⟩ v) := by
      rw [run_store P w _ v _ (ho v (List.mem_cons_self ..)), add_eq _ _ hA, cell_of hb hlt]
      have hfz : w.frozen? ⟨A.block, A.off + k0, none⟩ = false := by
        have := hu _ hlt
        simp only [World.frozen?, hb]
        rw [Bool.eq_false_iff]
        intro hc
        simp only [Bool.and_eq_true, decide_eq_true_eq] at hc
        exact this hc
      simp [hfz]
    have hb1 := heap_setCell w A.block (A.off + k0) v hb
    obtain ⟨w', c', g1, g2, g3, g4, g5, g6, g7, g8, g9, g10⟩ := storeCells_raw (P := P) A hA vs (k0 + 1) hb1 (by simpa using hu) (by simp; omega) (fun v' hv => ho v' (List.mem_cons_of_mem _ hv))
    refine ⟨w', c', ?_, g2, by rw [g3]; simp, by rw [g4]; simp [World.setCell], fun b hne => (g5 b hne).trans (Go.RowKit.Below.heap_setCell _ _ _ _ hne), g6, g7, g8, fun k hk => ?_, fun m hm => ?_⟩
    · simp only [storeCells, Sem.run_bind, hstore, Result.andThen_ok]; exact g1
    · cases k with
      | zero =>
        rw [g10 _ (.inl (by omega))]
        simp only [Nat.add_zero, List.getD_cons_zero]
        rw [Array.getD_eq_getD_getElem?, Array.getElem?_setIfInBounds_self_of_lt hlt]; rfl
      | succ k =>
        have := g9 k (by simpa using hk)
        rw [show A.off + (k0 + 1) + k = A.off + k0 + (k + 1) from by omega] at this
        simpa using this
    · simp only [List.length_cons] at hm
      rw [g10 m (by omega), Array.getD_eq_getD_getElem?, Array.getElem?_setIfInBounds_ne (by omega), ← Array.getD_eq_getD_getElem?]

theorem growBy_le (n : Nat) : ∀ (r c : Nat), c ≤ 2 * n + 192 → Builtin.growBy n r c ≤ 2 * n + 192
  | 0, c, h => h
  | r + 1, c, h => by
    simp only [Builtin.growBy]
    split
    · exact h
    · exact growBy_le n r _ (by omega)

theorem nextcap_le {need old : Nat} (h : old < need) : Builtin.nextslicecap need old ≤ 3 * need := by
  unfold Builtin.nextslicecap
  split
  · omega
  · split
    · omega
    · have := growBy_le need 4 old (by omega)
      omega

/-- The cells that are appended. -/
theorem first_cells {P : Program} {w ow bs st fr} (h : Rel w ow bs st fr) {x : VV} {v : Value} {sz : Nat} {rows : List (List T)} (rx : RelV w ow bs st fr x v) (hx : rowsOf st x = some (sz, rows)) (hno : noOwn rows = true) :
    (∃ a cap, v = .slice a rows.length cap) ∧ ∃ nv : List Value, (∀ w' : World, w'.heap = w.heap → (Builtin.firstCells sz rows.length v).run P w' = .ok nv.toArray w') ∧ nv.length = rows.length * sz ∧ (∀ (i : Nat) (row : List T), rows[i]? = some row → row.length = sz) ∧
      ∀ (i : Nat) (row : List T) (j : Nat) (y : T), rows[i]? = some row → row[j]? = some y → RepR w ow y (nv.getD (i * sz + j) undef) := by
  obtain ⟨a, cap, rfl, hcap, hor⟩ := rows_rel h rx hx
  refine ⟨⟨a, cap, rfl⟩, ?_⟩
  rcases hor with h0 | ⟨b, c, e, z, rfl, hs, hb, hfit, hrows, hcells⟩
  · subst h0
    refine ⟨[], fun w' _ => ?_, by simp, by simp, by simp⟩
    cases a with
    | none => simp [Builtin.firstCells]
    | some a => simp [Builtin.firstCells, loadCells, loadCellsFrom]
  · refine ⟨(List.range (rows.length * sz)).map (fun k => c.getD (b.off + k) undef), fun w' hw' => ?_, by simp, hrows, fun i row j y hi hj => ?_⟩
    · have := run_loadCells (P := P) w' b (rows.length * sz) (fun k => c.getD (b.off + k) undef) (fun k hk => by
        rw [add_eq _ _ hs]; exact cell_of (by rw [hw']; exact hb) (by omega))
      simpa [Builtin.firstCells] using this
    · have hil := lt_of_getl hi
      have hjl := lt_of_getl hj
      have hrl := hrows i row hi
      have hmul : (i + 1) * sz ≤ rows.length * sz := Nat.mul_le_mul_right _ hil
      rw [Nat.add_mul] at hmul
      have hlt : i * sz + j < rows.length * sz := by omega
      rw [List.getD_eq_getElem?_getD, List.getElem?_map, List.getElem?_range hlt]
      simp only [Option.map_some, Option.getD_some]
      rw [show b.off + (i * sz + j) = b.off + i * sz + j from by omega]
      refine hcells i row j y hi hj ?_
      have h1 := List.all_eq_true.1 hno row (List.mem_of_getElem? hi)
      have h2 := List.all_eq_true.1 h1 y (List.mem_of_getElem? hj)
      cases y with
      | list o _ _ => cases o <;> simp_all [plainT, isOwn]
      | dead => rfl
      | _ => rfl

theorem first_string {P : Program} (w : World) (ow : Own) (s : ByteArray) :
    ∃ nv : List Value, (∀ w' : World, (Builtin.firstCells 1 s.size (.string s)).run P w' = .ok nv.toArray w') ∧ nv.length = (strRows s).length * 1 ∧ (∀ (i : Nat) (row : List T), (strRows s)[i]? = some row → row.length = 1) ∧
      ∀ (i : Nat) (row : List T) (j : Nat) (y : T), (strRows s)[i]? = some row → row[j]? = some y → RepR w ow y (nv.getD (i * 1 + j) undef) := by
  refine ⟨s.data.toList.map fun b => .int .u8 b.toNat, fun w' => ?_, by simp [strRows], fun i row hi => ?_, fun i row j y hi hj => ?_⟩
  · have : (s.extract 0 s.size) = s := by
      obtain ⟨⟨l⟩⟩ := s
      rw [ByteArray.extract_mk]
      simp [ByteArray.size]
    simp only [Builtin.firstCells, this, Sem.run_pure]
    congr 1
    apply Array.ext'
    simp
  · simp only [strRows, List.getElem?_map] at hi
    obtain ⟨b, _, rfl⟩ := Option.map_eq_some_iff.1 hi
    rfl
  · simp only [strRows, List.getElem?_map] at hi
    obtain ⟨b, hb, rfl⟩ := Option.map_eq_some_iff.1 hi
    cases j with
    | zero =>
      simp only [List.getElem?_cons_zero, Option.some.injEq] at hj
      subst hj
      simp only [Nat.mul_one, Nat.add_zero, List.getD_eq_getElem?_getD, List.getElem?_map, hb, Option.map_some, Option.getD_some]
      exact .int
    | succ j => simp at hj

theorem repr_oneCell {w ow y v} (h : RepR w ow y v) (hd : y ≠ .dead) : v.oneCell' = true := by
  cases h <;> first | rfl | exact absurd rfl hd

theorem noOwn_live {rows : List (List T)} (h : noOwn rows = true) {i : Nat} {row : List T} {j : Nat} {y : T} (hi : rows[i]? = some row) (hj : row[j]? = some y) : y ≠ .dead := by
  have h1 := List.all_eq_true.1 h row (List.mem_of_getElem? hi)
  have h2 := List.all_eq_true.1 h1 y (List.mem_of_getElem? hj)
  intro e
  subst e
  cases h2

/-- Rows, cell by cell: each value of the flat row is one of a cell. -/
theorem flat_cell {rows : List (List T)} {sz k : Nat} (hrows : ∀ (i : Nat) (row : List T), rows[i]? = some row → row.length = sz) (hk : k < rows.length * sz) : ∃ i row j y, rows[i]? = some row ∧ row[j]? = some y ∧ k = i * sz + j := by
  have hs : 0 < sz := by
    rcases Nat.eq_zero_or_pos sz with e | e
    · subst e; omega
    · exact e
  have hi : k / sz < rows.length := by rw [Nat.div_lt_iff_lt_mul hs]; exact hk
  have hrow := List.getElem?_eq_getElem hi
  have hrl := hrows _ _ hrow
  have hj : k % sz < (rows[k / sz]).length := by rw [hrl]; exact Nat.mod_lt _ hs
  exact ⟨k / sz, _, k % sz, _, hrow, List.getElem?_eq_getElem hj, by rw [Nat.mul_comm]; exact (Nat.div_add_mod k sz).symm⟩

theorem append_core {P : Program} {w ow bs st} {fr : Nat → Prop} (h : Rel w ow bs st fr) {r sz : Nat} {ys : List (List T)} {vs vx : Value} {sT xT ty e : TypeId} {xs : List (List T)} {nv : List Value} {z : List T}
    (hr : st r = some ⟨false, sz, ys, []⟩) (hv : (bs (r, [])).2 = vs) (ht : P.underlying sT = some (.slice e)) (hx : (∃ e', P.underlying xT = some (.slice e')) ∨ P.underlying xT = some .string) (hne : P.cellsOf e ≠ 0) (hsz : P.cellsOf e = sz) (hz : zeroT P e = some z)
    (hlen : (Builtin.lenOf vx).run P w = .ok xs.length w) (hfirst : ∀ w' : World, w'.heap = w.heap → (Builtin.firstCells sz xs.length vx).run P w' = .ok nv.toArray w') (hnl : nv.length = xs.length * sz) (hrows : ∀ (i : Nat) (row : List T), xs[i]? = some row → row.length = sz)
    (hcells : ∀ (i : Nat) (row : List T) (j : Nat) (y : T), xs[i]? = some row → row[j]? = some y → RepR w ow y (nv.getD (i * sz + j) undef) ∧ y ≠ .dead) (hmax : (ys.length + xs.length + 1) * (P.bytesOf e + 1) ≤ bigRow) :
    ∃ v w' ow' bs', (Builtin.append_ #[sT, xT] ty #[vs, vx]).run P w = .ok v w' ∧ Rel w' ow' bs' (st.put r (some ⟨false, sz, ys ++ xs, []⟩)) fr ∧ Steady w ow w' ow' ∧ (∀ ℓ, ℓ ≠ (r, []) → bs' ℓ = bs ℓ) ∧ bs' (r, []) = (sz, v) ∧
      SliceOf (ys.length + xs.length) v ∧ Sub sz v 0 (ys.length + xs.length) v := by
  obtain ⟨zv, hz1, hz2, hz3, hz4⟩ := zeroT_some hz w
  obtain ⟨i, hi⟩ := info_of_cells hne
  have hbytes : P.bytesOf e = i.bytes := by simp [Program.bytesOf, hi]
  have hone : ∀ v ∈ nv, v.oneCell' = true := by
    intro v hv
    obtain ⟨k, hk⟩ := List.getElem?_of_mem hv
    have hkl := lt_of_getl hk
    obtain ⟨i, row, j, y, h1, h2, h3⟩ := flat_cell hrows (k := k) (by omega)
    have := hcells i row j y h1 h2
    rw [← h3, getD_of hk] at this
    exact repr_oneCell this.1 this.2
  have hroot := h.root r _ hr
  have hrb := hroot.base
  rw [hv] at hroot hrb
  simp only at hroot hrb
  have hbig : ys.length + xs.length ≤ bigRow := by
    have : (ys.length + xs.length + 1) * 1 ≤ (ys.length + xs.length + 1) * (P.bytesOf e + 1) := Nat.mul_le_mul_left _ (by omega)
    omega
  have hbb : (ys.length + xs.length) * i.bytes ≤ bigRow := by
    rw [← hbytes]
    refine Nat.le_trans (Nat.mul_le_mul (by omega) (by omega)) hmax
  -- the slice that is grown
  obtain ⟨base, scap, rfl, hsc, hbase⟩ : ∃ base scap, vs = .slice base ys.length scap ∧ ys.length ≤ scap ∧ ((base = none ∧ ys = [] ∧ scap = 0) ∨ ∃ a c e0 z0, base = some a ∧ a.spot = none ∧ ow a.block = some (r, []) ∧ w.heap[a.block]? = some (.cells c e0 z0) ∧ Unfrozen z0 c.size ∧ a.off + scap * sz ≤ c.size) := by
    cases hroot with
    | ro h => cases h
    | nil => exact ⟨none, 0, rfl, Nat.le_refl _, .inl ⟨rfl, rfl, rfl⟩⟩
    | @list _ a _ _ len cap c e0 z0 base spot own blk free hlen hcap fits hrw cells =>
      subst hlen
      exact ⟨some a, cap, rfl, hcap, .inr ⟨a, c, e0, z0, rfl, spot, own, blk, free, fits⟩⟩
  have hpre : (Builtin.append_ #[sT, xT] ty #[.slice base ys.length scap, vx]).run P w =
      (if ys.length + xs.length ≤ scap then (do
          let new ← Builtin.firstCells sz xs.length vx
          if let some a := base then storeCells (a.add (ys.length * sz)) new.toList
          pure (.slice base (ys.length + xs.length) scap) : Sem Value)
        else (do
          let newCap ← choose (.appendCap (ys.length + xs.length) scap e)
          askRoom (newCap * (← typeInfo e).bytes)
          let old ← Builtin.firstCells sz ys.length (.slice base ys.length scap)
          let new ← Builtin.firstCells sz xs.length vx
          let rest := Builtin.zeroCells (← zeroValue e).cells (newCap - (ys.length + xs.length))
          pure (.slice (some (← newRow e (old ++ new ++ rest))) (ys.length + xs.length) newCap) : Sem Value)).run P w := by
    have h63 : ¬ ((ys.length + xs.length : Nat) : Int) > IntKind.i64.max := by
      rw [show IntKind.i64.max = 9223372036854775807 from rfl]; unfold bigRow at hbig; omega
    rcases hx with ⟨e', hx⟩ | hx
    all_goals
      by_cases hc : ys.length + xs.length ≤ scap
      · simp [Builtin.append_, run_underlying ht, run_underlying hx, sizeOf_run hne, hsz, hlen, hc]
        cases base <;> rfl
      · have hcapb : ¬ Builtin.nextslicecap (ys.length + xs.length) scap * i.bytes > 2 ^ 48 := by
          have := nextcap_le (need := ys.length + xs.length) (old := scap) (by omega)
          have h3 : Builtin.nextslicecap (ys.length + xs.length) scap * i.bytes ≤ 3 * (ys.length + xs.length) * i.bytes := Nat.mul_le_mul_right _ this
          rw [Nat.mul_assoc] at h3
          unfold bigRow at hbb
          omega
        have h63' : ¬ ((9223372036854775807 : Int) < ys.length + xs.length) := by unfold bigRow at hbig; omega
        have hcapb' : ¬ (281474976710656 < Builtin.nextslicecap (ys.length + xs.length) scap * i.bytes) := hcapb
        simp [Builtin.append_, run_underlying ht, run_underlying hx, sizeOf_run hne, hsz, hlen, hc, h63', run_typeInfo w hi, hcapb']
  rw [hpre]
  by_cases hc : ys.length + xs.length ≤ scap
  · rw [if_pos hc]
    rcases hbase with ⟨rfl, hy0, rfl⟩ | ⟨a, c, e0, z0, rfl, hs, ho, hb, hu, hfit⟩
    · have hx0 : xs = [] := List.eq_nil_of_length_eq_zero (by omega)
      subst hy0 hx0
      refine ⟨.slice none 0 0, w, ow, bs, ?_, ?_, Steady.refl _ _, fun _ _ => rfl, hrb, ⟨_, _, rfl, Nat.le_refl _, (fun _ => ⟨rfl, rfl⟩), (fun b hb => by cases hb)⟩, .inr ⟨0, 0, rfl, rfl, rfl⟩⟩
      · have hf0 := hfirst w rfl
        simp only [List.length_nil] at hf0
        simp [hf0]
      · refine h.sub (fun x R hR => ?_)
        by_cases e : x = r
        · subst e
          simp only [St.put_eq, Option.some.injEq] at hR
          rw [hr, ← hR]; rfl
        · rw [St.put_ne _ _ e] at hR; exact hR
    · have hmul : (ys.length + xs.length) * sz ≤ scap * sz := Nat.mul_le_mul_right _ hc
      rw [Nat.add_mul] at hmul
      obtain ⟨w', c', g1, g2, g3, g4, g5, g6, g7, g8, g9, g10⟩ := storeCells_raw (P := P) ⟨a.block, a.off + ys.length * sz, none⟩ rfl nv 0 hb hu (by simp only; omega) hone
      simp only [Nat.add_zero] at g9 g10
      obtain ⟨ow', k1, k2⟩ := h.regrow (w' := w') hr hv (nb := a.block) (o := a.off) (cap := scap) (c := c') (xs := xs) g2 (by omega) (fun b _ hne => g5 b hne) (fun _ => ⟨ho, a, _, _, rfl, rfl⟩) (by rw [g3]; exact hu) hc (by rw [g3]; exact hfit)
        (fun a1 l1 cap1 c1 e1 z1 hva hb1 k hk => by
          simp only [Value.slice.injEq, Option.some.injEq] at hva
          obtain ⟨rfl, _, _⟩ := hva
          rw [hb] at hb1
          simp only [Option.some.injEq, Obj.cells.injEq] at hb1
          obtain ⟨rfl, _, _⟩ := hb1
          exact g10 _ (.inl (by omega)))
        hrows (fun i row j y h1 h2 => by
          have hrl := hrows i row h1
          have hjl := lt_of_getl h2
          have hil := lt_of_getl h1
          have hm2 : (i + 1) * sz ≤ xs.length * sz := Nat.mul_le_mul_right _ hil
          rw [Nat.add_mul] at hm2
          have := g9 (i * sz + j) (by omega)
          rw [show a.off + (ys.length + i) * sz + j = a.off + ys.length * sz + (i * sz + j) from by rw [Nat.add_mul]; omega, this]
          exact (hcells i row j y h1 h2).1)
      have haddr : a.add (ys.length * sz) = ⟨a.block, a.off + ys.length * sz, none⟩ := add_eq _ _ hs
      refine ⟨.slice (some a) (ys.length + xs.length) scap, w', ow', _, ?_, k1, ⟨k2, by omega, g6, g7, g8⟩, fun ℓ hℓ => if_neg hℓ, ?_, ⟨_, _, rfl, hc, (fun e => by cases e), (fun b e => by cases e; exact hs)⟩, ?_⟩
      · simp [hfirst w rfl, haddr, g1]
      · rw [if_pos rfl]
        congr 2
        cases a; simp only at hs; subst hs; rfl
      · refine .inl ⟨a, _, scap, a.off, scap, rfl, ?_, .inr (by omega), Nat.le_refl _, hc⟩
        cases a; simp only at hs; subst hs; rfl
  · rw [if_neg hc]
    -- a new row
    generalize hq : (Question.appendCap (ys.length + xs.length) scap e).cut (w.tape w.drawn (.appendCap (ys.length + xs.length) scap e)) = ncap
    have hncap : ys.length + xs.length ≤ ncap := by rw [← hq]; simp only [Question.cut]; omega
    obtain ⟨ov, hov1, hov2, hov3⟩ : ∃ ov : List Value, (∀ w' : World, w'.heap = w.heap → (Builtin.firstCells sz ys.length (.slice base ys.length scap)).run P w' = .ok ov.toArray w') ∧ ov.length = ys.length * sz ∧
        ∀ (a : Addr) (l cap0 : Nat) (c0 : Array Value) (e0 : TypeId) (z0 : Nat × Nat), (Value.slice base ys.length scap) = .slice (some a) l cap0 → w.heap[a.block]? = some (.cells c0 e0 z0) → ∀ k, k < ys.length * sz → ov.getD k undef = c0.getD (a.off + k) undef := by
      rcases hbase with ⟨rfl, hy0, rfl⟩ | ⟨a, c, e0, z0, rfl, hs, ho, hb, hu, hfit⟩
      · subst hy0
        exact ⟨[], fun w' _ => by simp [Builtin.firstCells], by simp, fun a l cap0 c0 e0 z0 hva => by cases hva⟩
      · have hmul : ys.length * sz ≤ scap * sz := Nat.mul_le_mul_right _ hsc
        refine ⟨(List.range (ys.length * sz)).map (fun k => c.getD (a.off + k) undef), fun w' hw' => ?_, by simp, fun a1 l1 cap1 c1 e1 z1 hva hb1 k hk => ?_⟩
        · have := run_loadCells (P := P) w' a (ys.length * sz) (fun k => c.getD (a.off + k) undef) (fun k hk => by
            rw [add_eq _ _ hs]; exact cell_of (by rw [hw']; exact hb) (by omega))
          simpa [Builtin.firstCells] using this
        · simp only [Value.slice.injEq, Option.some.injEq] at hva
          obtain ⟨rfl, _, _⟩ := hva
          rw [hb] at hb1
          simp only [Option.some.injEq, Obj.cells.injEq] at hb1
          obtain ⟨rfl, _, _⟩ := hb1
          rw [List.getD_eq_getElem?_getD, List.getElem?_map, List.getElem?_range hk]; rfl
    generalize hrest : Builtin.zeroCells zv.cells (ncap - (ys.length + xs.length)) = rest
    have hrl : rest.size = (ncap - (ys.length + xs.length)) * sz := by rw [← hrest]; simp [Builtin.zeroCells]; rw [← hz2, hz3, hsz]
    generalize hcc : ov.toArray ++ nv.toArray ++ rest = cc
    have hccl : cc.size = ncap * sz := by
      rw [← hcc]
      simp only [Array.size_append, List.size_toArray, hov2, hnl, hrl]
      rw [← Nat.add_mul, ← Nat.add_mul]
      congr 1
      omega
    have hccv : ∀ k, k < ov.length + nv.length → cc.getD k undef = (ov ++ nv).getD k undef := by
      intro k hk
      rw [← hcc, Array.getD_eq_getD_getElem?, Array.getElem?_append_left (by simp; omega), List.getD_eq_getElem?_getD, ← Array.getElem?_toList]
      simp
    obtain ⟨ow', k1, k2⟩ := h.regrow (w' := w.drew.alloc (.cells cc e)) hr hv (nb := w.heap.size) (o := 0) (cap := ncap) (c := cc) (xs := xs) (e := e) (z := (0, 0)) (by show (w.heap.push _)[w.heap.size]? = _; simp) (by show w.heap.size ≤ (w.heap.push _).size; simp)
      (fun b hlt _ => by show (w.heap.push _)[b]? = _; rw [Array.getElem?_push, if_neg (by omega)]) (fun hlt => by omega) (fun k _ hk => by omega) hncap (by omega)
      (fun a1 l1 cap1 c1 e1 z1 hva hb1 k hk => by
        rw [Nat.zero_add, hccv k (by omega), List.getD_eq_getElem?_getD, List.getElem?_append_left (by omega), ← List.getD_eq_getElem?_getD]
        exact hov3 a1 l1 cap1 c1 e1 z1 hva hb1 k hk)
      hrows (fun i row j y h1 h2 => by
        have hrl := hrows i row h1
        have hjl := lt_of_getl h2
        have hil := lt_of_getl h1
        have hm2 : (i + 1) * sz ≤ xs.length * sz := Nat.mul_le_mul_right _ hil
        rw [Nat.add_mul] at hm2
        rw [Nat.zero_add, show (ys.length + i) * sz + j = ys.length * sz + (i * sz + j) from by rw [Nat.add_mul]; omega, hccv _ (by omega), List.getD_eq_getElem?_getD, List.getElem?_append_right (by omega), hov2]
        rw [show ys.length * sz + (i * sz + j) - ys.length * sz = i * sz + j from by omega, ← List.getD_eq_getElem?_getD]
        exact (hcells i row j y h1 h2).1)
    refine ⟨.slice (some ⟨w.heap.size, 0, none⟩) (ys.length + xs.length) ncap, _, ow', _, ?_, k1, ⟨k2, by show w.heap.size ≤ (w.heap.push _).size; simp, rfl, rfl, rfl⟩, fun ℓ hℓ => if_neg hℓ, if_pos rfl, ⟨_, _, rfl, hncap, (fun e => by cases e), (fun b e => by cases e; rfl)⟩, .inl ⟨_, _, ncap, 0, ncap, rfl, rfl, .inr (by simp), Nat.le_refl _, hncap⟩⟩
    have hzw : (zeroValue e).run P w.drew = .ok zv w.drew := by
      obtain ⟨zv', q1, _⟩ := zeroT_some hz w.drew
      have : zv' = zv := by
        simp only [zeroValue, Sem.run_bind, run_typeInfo _ hi, Result.andThen_ok] at q1 hz1
        cases hzz : i.zero with
        | none => rw [hzz] at hz1; simp [unsupported] at hz1
        | some v => rw [hzz] at q1 hz1; simp only [Sem.run_pure, Result.ok.injEq, and_true] at q1 hz1; rw [← q1, ← hz1]
      rw [this] at q1; exact q1
    simp only [Sem.run_bind, run_choose, Question.forced, Bool.false_eq_true, if_false, Result.andThen_ok, hq]
    rw [show ({ w with drawn := w.drawn + 1 } : World) = w.drew from rfl]
    simp only [run_typeInfo _ hi, run_askRoom, Result.andThen_ok, hov1 w.drew rfl, hfirst w.drew rfl, hzw, hrest, hcc]
    simp [newRow]

end Go.VM
