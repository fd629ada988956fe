/- The turns of memory, two: a new block, a list that is taken out of its place, a list that is laid into a place. -/
import Derived.Test.YtcdgdiheoejjgaaVState
namespace Go.VM
set_option linter.unusedSimpArgs false
set_option linter.unusedVariables false

def Own.put (ow : Own) (b : Nat) (ℓ : Option Loc) : Own := fun x => if x = b then ℓ else ow x

def newBase (bs : Base) (r sz : Nat) (rows : List (List T)) (cap b : Nat) : Base := fun ℓ =>
  if ℓ.1 = r then
    match ℓ.2 with
    | [] => (sz, .slice (some ⟨b, 0, none⟩) rows.length cap)
    | (i, j) :: _ => match (rows.getD i []).getD j .dead with | .list _ s _ => (s, .slice none 0 0) | _ => (0, undef)
  else bs ℓ

theorem newBase_ne (bs : Base) {r sz rows cap b} {ℓ : Loc} (h : ℓ.1 ≠ r) : newBase bs r sz rows cap b ℓ = bs ℓ := by simp [newBase, h]

/-- A new root. -/
theorem Quiet.new {bs bs' : Base} {st : St} {fr : Nat → Prop} {t : Nat} {R : Option Root} (ht : fr t) (hb : ∀ ℓ : Loc, ℓ.1 ≠ t → bs' ℓ = bs ℓ) : Quiet bs st fr bs' (st.put t R) (fun x => fr x ∧ x ≠ t) := by
  refine ⟨fun r hr => hb _ (fun e => hr (by simp only at e; rw [e]; exact ht)), fun r p m hr _ _ hs => ?_, fun r R' hr h' => ?_, fun _ h => h.1⟩
  rotate_left
  · have hne : r ≠ t := fun e => hr (by rw [e]; exact ht)
    rw [St.put_ne _ _ hne] at h'; exact ⟨R', h', Nat.le_refl _⟩
  have hne : r ≠ t := fun e => hr (by rw [e]; exact ht)
  refine ⟨?_, hb _ hne⟩
  rcases hs with h | ⟨R1, h, hf⟩
  · exact .inl h
  · rw [St.put_ne _ _ hne] at h; exact .inr ⟨R1, h, hf⟩

theorem Rel.alloc {w ow bs st fr} (h : Rel w ow bs st fr) {r : Nat} (hf : fr r) {sz : Nat} {rows : List (List T)} {cap : Nat} {c : Array Value} {e : TypeId} {z : Nat × Nat} (box : Bool)
    (hsz : cap * sz ≤ c.size) (free : Unfrozen z c.size) (hlen : rows.length ≤ cap) (hrows : ∀ (i : Nat) (row : List T), rows[i]? = some row → row.length = sz)
    (cells : ∀ (i : Nat) (row : List T) (j : Nat) (x : T), rows[i]? = some row → row[j]? = some x →
      RepR w ow x (c.getD (i * sz + j) undef) ∨ (∃ s, x = .list true s [] ∧ c.getD (i * sz + j) undef = .slice none 0 0))
    (hbox : box = true → rows.length = 1 ∧ cap = 1) :
    Rel (w.alloc (.cells c e z)) (ow.put w.heap.size (some (r, []))) (newBase bs r sz rows cap w.heap.size) (st.put r (some ⟨box, sz, rows, []⟩)) (fun x => fr x ∧ x ≠ r) ∧
    Steady w ow (w.alloc (.cells c e z)) (ow.put w.heap.size (some (r, []))) ∧
    Quiet bs st fr (newBase bs r sz rows cap w.heap.size) (st.put r (some ⟨box, sz, rows, []⟩)) (fun x => fr x ∧ x ≠ r) := by
  have hheap : (w.alloc (.cells c e z)).heap = w.heap.push (.cells c e z) := rfl
  have hold : ∀ b, b < w.heap.size → (w.alloc (.cells c e z)).heap[b]? = w.heap[b]? := fun b hb => Go.RowKit.Below.heap_alloc _ _ _ hb
  have hkept : Kept w ow (w.alloc (.cells c e z)) (ow.put w.heap.size (some (r, []))) := by
    intro b hnone hlt
    refine ⟨hold b hlt, ?_⟩
    simp only [Own.put]; rw [if_neg (by omega)]; exact hnone
  refine ⟨⟨?_, ?_, ?_, ?_⟩, ⟨hkept, by rw [hheap]; simp, rfl, rfl, rfl⟩, Quiet.new hf (fun ℓ h => newBase_ne bs h)⟩
  · intro r' R' hR'
    by_cases er : r' = r
    · subst er
      simp only [St.put_eq, Option.some.injEq] at hR'
      subst hR'
      have hb0 : newBase bs r' sz rows cap w.heap.size (r', []) = (sz, .slice (some ⟨w.heap.size, 0, none⟩) rows.length cap) := by simp [newBase]
      rw [hb0]
      refine .list (e := e) (fr := z) (c := c) hb0 rfl (by simp [Own.put]) (by rw [hheap]; simp) free rfl hlen (by simpa using hsz) hrows ?_
      intro i row j x hi hj
      simp only [Nat.zero_add]
      rcases cells i row j x hi hj with hx | ⟨s, rfl, hv⟩
      · exact .ro (hx.mono hkept)
      · rw [hv]
        refine .nil ?_
        simp only [newBase, Loc.at, List.nil_append, if_true]
        rw [getD_of hi, getD_of hj]
    · rw [St.put_ne _ _ er] at hR'
      have hb : ∀ p, newBase bs r sz rows cap w.heap.size (r', p) = bs (r', p) := fun p => newBase_ne _ er
      rw [hb]
      refine (h.root r' R' hR').move hkept ⟨fun b q hq => ?_, fun q => hb _⟩
      have := (h.own b _ hq).2
      refine ⟨hold b this, ?_⟩
      simp only [Own.put]; rw [if_neg (by omega)]; exact hq
  · intro r' R' hR' hbx
    by_cases er : r' = r
    · subst er
      simp only [St.put_eq, Option.some.injEq] at hR'
      subst hR'
      obtain ⟨h1, h2⟩ := hbox hbx
      exact ⟨_, by simp [newBase, h1, h2]; rfl⟩
    · rw [St.put_ne _ _ er] at hR'
      rw [newBase_ne _ er]
      exact h.box r' R' hR' hbx
  · intro b ℓ hb
    simp only [Own.put] at hb
    split at hb
    · simp only [Option.some.injEq] at hb
      subst hb
      refine ⟨fun x => x.2 rfl, ?_⟩
      rw [hheap]; simp; omega
    · have := h.own b ℓ hb
      refine ⟨fun x => this.1 x.1, ?_⟩
      rw [hheap]; simp; omega
  · intro r' hr'
    rw [St.put_ne _ _ hr'.2]
    exact h.free r' hr'.1

/-! ### taking -/

theorem dropLast_snoc {α : Type} {l : List α} {a : α} (h : l.getLast? = some a) : l.dropLast ++ [a] = l := by
  obtain ⟨ys, rfl⟩ := List.getLast?_eq_some_iff.1 h
  simp


def relab (ow : Own) (r t : Nat) (p : Path) (off len : Nat) : Own := fun b =>
  match ow b with
  | some (r', q) =>
    if r' = r ∧ p <+: q then
      match q.drop p.length with
      | [] => some (t, [])
      | (k, j) :: q' => if off ≤ k ∧ k < off + len then some (t, (k - off, j) :: q') else none
    else some (r', q)
  | none => none

def takenBase (bs : Base) (r t : Nat) (p : Path) (off sz : Nat) (v : Value) : Base := fun ℓ =>
  if ℓ.1 = t then
    match ℓ.2 with
    | [] => (sz, v)
    | (k, j) :: q => bs (r, p ++ (k + off, j) :: q)
  else bs ℓ

def takenSt (st : St) (r : Nat) (R : Root) (p : Path) : St :=
  match p.getLast? with
  | none => st.put r none
  | some (i, j) => st.put r (some { R with rows := modAt (setIn i j .dead) R.rows p.dropLast })

theorem takenSt_quiet {bs : Base} {st : St} {fr : Nat → Prop} {r : Nat} {R : Root} {p : Path} (hr : st r = some R) : Quiet bs st fr bs (takenSt st r R p) fr := by
  simp only [takenSt]
  cases p.getLast? with
  | none => exact Quiet.drop r
  | some ij => exact Quiet.same hr rfl

theorem nav_snoc : ∀ {p : Path} {sz rows i j s es}, nav sz rows (p ++ [(i, j)]) = some (s, es) → ∃ sz0 rows0, nav sz rows p = some (sz0, rows0) ∧ (rows0.getD i []).getD j .dead = .list true s es
  | [], sz, rows, i, j, s, es, h => by
    simp only [List.nil_append, nav] at h
    split at h
    · rename_i sz' es' hx
      simp only [Option.some.injEq, Prod.mk.injEq] at h
      obtain ⟨rfl, rfl⟩ := h
      exact ⟨sz, rows, rfl, hx⟩
    · cases h
  | (a, b) :: p, sz, rows, i, j, s, es, h => by
    simp only [List.cons_append, nav] at h ⊢
    split at h
    · exact nav_snoc h
    · cases h

theorem relab_other {ow : Own} {r t p off len} {b : Nat} {ℓ : Loc} (hb : ow b = some ℓ) (h : ¬ (ℓ.1 = r ∧ p <+: ℓ.2)) : relab ow r t p off len b = some ℓ := by
  obtain ⟨r', q⟩ := ℓ
  simp only [relab, hb]
  rw [if_neg h]

theorem relab_none {ow : Own} {r t p off len} {b : Nat} (hb : ow b = none) : relab ow r t p off len b = none := by simp [relab, hb]

/-- A cell of a root is told anew; memory stays. -/
theorem RepT.recell {w : World} {ow ow' : Own} {bs bs' : Base} {r : Nat} {sz rows p0 i j sz0 rows0} {y : T} (hk : Kept w ow w ow')
    (h : RepT w ow bs (r, []) (.list true sz rows) (bs (r, [])).2) (hn : VM.nav sz rows p0 = some (sz0, rows0))
    (how : ∀ b q, ow b = some (r, q) → ¬ (p0 ++ [(i, j)]) <+: q → ow' b = some (r, q)) (hbs : ∀ q, ¬ (p0 ++ [(i, j)]) <+: q → bs' (r, q) = bs (r, q))
    (hy : ∀ (a : Addr) (len cap : Nat) (c : Array Value) (e : TypeId) (z : Nat × Nat), (bs (r, p0)).2 = .slice (some a) len cap → w.heap[a.block]? = some (.cells c e z) →
      RepT w ow' bs' (r, p0 ++ [(i, j)]) y (c.getD (a.off + i * sz0 + j) undef)) :
    RepT w ow' bs' (r, []) (.list true sz (VM.modAt (setIn i j y) rows p0)) (bs (r, [])).2 := by
  have hpp : ∀ (q : Path), ¬ (p0 ++ [(i, j)]) <+: p0 ++ q ↔ ¬ [(i, j)] <+: q := fun q => by rw [List.prefix_append_right_inj]
  have hself : ¬ (p0 ++ [(i, j)]) <+: p0 := by have := (hpp []).2 (by simp); simpa using this
  refine RepT.modAt hk (setIn i j y) h hn ?_ (fun q hq => ?_) ?_
  · intro b q hq hpre
    simp only [List.nil_append] at hq
    refine ⟨rfl, (how b q hq ?_).trans hq.symm⟩
    intro hp; exact hpre ((List.prefix_append _ _).trans hp)
  · simp only [List.nil_append]
    refine hbs q (fun e => hq ⟨(List.prefix_append _ _).trans e, fun e' => ?_⟩)
    rw [← e'] at e
    exact hself e
  · simp only [List.nil_append]
    have hp := h.nav hn
    simp only [List.nil_append] at hp
    have hb := hp.base
    generalize hbv : (bs (r, p0)).2 = bv at hp hb hy ⊢
    cases hp with
    | ro h => cases h
    | nil base =>
      have : setIn i j y [] = [] := by simp [setIn]
      rw [this]
      exact .nil ((hbs _ hself).trans base)
    | @list _ a _ _ len cap c e z base spot own blk free hlen hcap fits hrows cells =>
      refine .list ((hbs _ hself).trans base) spot (how _ _ own hself) blk free (by simp [setIn, hlen]) hcap fits ?_ ?_
      · intro i' row' h'
        simp only [setIn, List.getElem?_set] at h'
        split at h'
        · split at h'
          · rename_i hi hlt
            simp only [Option.some.injEq] at h'
            subst h'
            subst i'
            have := hrows i (rows0.getD i []) (by rw [List.getD_eq_getElem?_getD, List.getElem?_eq_getElem hlt]; rfl)
            simpa using this
          · cases h'
        · exact hrows i' row' h'
      · intro i' row' j' x' h' hx'
        have keep : ∀ (i' j' : Nat) (row1 : List T) (x0 : T), rows0[i']? = some row1 → row1[j']? = some x0 → ¬ (i' = i ∧ j' = j) → RepT w ow' bs' (Loc.at (r, p0) i' j') x0 (c.getD (a.off + i' * sz0 + j') undef) := by
          intro i' j' row1 x0 h0 hx0 hne
          have hno : ∀ q, ¬ (p0 ++ [(i, j)]) <+: p0 ++ (i', j') :: q := by
            intro q
            refine (hpp _).2 ?_
            simp only [List.cons_prefix_cons, List.nil_prefix, and_true, Prod.mk.injEq]
            exact fun e => hne ⟨e.1.symm, e.2.symm⟩
          refine (cells i' row1 j' x0 h0 hx0).move hk ⟨fun b q hq => ⟨rfl, ?_⟩, fun q => ?_⟩
          · refine how b _ hq ?_
            simp only [Loc.at, List.append_assoc]
            exact hno q
          · refine hbs _ ?_
            simp only [Loc.at, List.append_assoc]
            exact hno q
        simp only [setIn, List.getElem?_set] at h'
        split at h'
        · subst i'
          split at h'
          · rename_i hlt
            simp only [Option.some.injEq] at h'
            subst h'
            have hrow : rows0[i]? = some (rows0.getD i []) := by rw [List.getD_eq_getElem?_getD, List.getElem?_eq_getElem hlt]; rfl
            rw [List.getElem?_set] at hx'
            split at hx'
            · split at hx'
              · simp only [Option.some.injEq] at hx'
                subst hx'
                subst j'
                exact hy a len cap c e z rfl blk
              · cases hx'
            · rename_i hne
              exact keep i j' _ x' hrow hx' (fun e => hne e.2.symm)
          · cases h'
        · rename_i hne
          exact keep i' j' row' x' h' hx' (fun e => hne e.1.symm)

/-- A root is told anew in one cell; memory stays. -/
theorem Rel.retype {w ow bs st fr} (h : Rel w ow bs st fr) {r R p sz rows i j} {y : T} (hr : st r = some R) (hn : nav R.sz R.rows p = some (sz, rows))
    (hy : ∀ (a : Addr) (len cap : Nat) (c : Array Value) (e : TypeId) (z : Nat × Nat), (bs (r, p)).2 = .slice (some a) len cap → w.heap[a.block]? = some (.cells c e z) →
      RepR w ow y (c.getD (a.off + i * sz + j) undef)) :
    Rel w ow bs (st.put r (some { R with rows := modAt (setIn i j y) R.rows p })) fr := by
  refine ⟨fun r' R' hR' => ?_, fun r' R' hR' hbx => ?_, h.own, fun r' hf => ?_⟩
  · by_cases er : r' = r
    · subst er
      simp only [St.put_eq, Option.some.injEq] at hR'
      subst hR'
      exact RepT.recell (Kept.refl _ _) (h.root r' R hr) hn (fun _ _ h _ => h) (fun _ _ => rfl) (fun a len cap c e z h1 h2 => .ro (hy a len cap c e z h1 h2))
    · rw [St.put_ne _ _ er] at hR'; exact h.root r' R' hR'
  · by_cases er : r' = r
    · subst er
      simp only [St.put_eq, Option.some.injEq] at hR'
      subst hR'
      exact h.box r' R hr hbx
    · rw [St.put_ne _ _ er] at hR'; exact h.box r' R' hR' hbx
  · by_cases er : r' = r
    · subst er; rw [h.free r' hf] at hr; cases hr
    · rw [St.put_ne _ _ er]; exact h.free r' hf

theorem Rel.take {w ow bs st fr} (h : Rel w ow bs st fr) {r R p sz rows} (hr : st r = some R) (hnb : p = [] → R.box = false) (hn : nav R.sz R.rows p = some (sz, rows))
    {t : Nat} (ht : fr t) {off len : Nat} {v : Value} (hv : Sub (bs (r, p)).1 (bs (r, p)).2 off len v) (hle : off + len ≤ rows.length) :
    Rel w (relab ow r t p off len) (takenBase bs r t p off sz v) ((takenSt st r R p).put t (some ⟨false, sz, (rows.drop off).take len, []⟩)) (fun x => fr x ∧ x ≠ t) ∧
    Kept w ow w (relab ow r t p off len) ∧ Quiet bs st fr (takenBase bs r t p off sz v) ((takenSt st r R p).put t (some ⟨false, sz, (rows.drop off).take len, []⟩)) (fun x => fr x ∧ x ≠ t) := by
  have hrt : r ≠ t := by intro e; rw [e, h.free t ht] at hr; cases hr
  have hkept : Kept w ow w (relab ow r t p off len) := fun b hb _ => ⟨rfl, relab_none hb⟩
  have hbs : ∀ ℓ : Loc, ℓ.1 ≠ t → takenBase bs r t p off sz v ℓ = bs ℓ := fun ℓ hne => by simp [takenBase, hne]
  have hp := (h.root r R hr).nav hn
  simp only [List.nil_append] at hp
  have hpb := hp.base
  refine ⟨⟨?_, ?_, ?_, ?_⟩, hkept, (takenSt_quiet hr).trans (Quiet.new ht hbs)⟩
  · intro r' R' hR'
    by_cases et : r' = t
    · subst et
      simp only [St.put_eq, Option.some.injEq] at hR'
      subst hR'
      have hb0 : takenBase bs r r' p off sz v (r', []) = (sz, v) := by simp [takenBase]
      rw [hb0]
      rw [hpb] at hp hv
      simp only at hp hv
      generalize hbv : (bs (r, p)).2 = bv at hp hv hpb
      cases hp with
      | ro h => cases h
      | nil base =>
        rcases hv with ⟨a, l, cap, o, cap', hx, _⟩ | ⟨l, cap, _, hl, rfl⟩
        · cases hx
        · simp only [List.drop_nil, List.take_nil]; exact .nil hb0
      | @list _ a _ _ len0 cap c e z base spot own blk free hlen hcap fits hrows cells =>
        rcases hv with ⟨a', l, cap1, o, cap', hx, rfl, ho, hfit, hle'⟩ | ⟨l, cap, hx, _⟩
        · simp only [Value.slice.injEq, Option.some.injEq] at hx
          obtain ⟨rfl, rfl, rfl⟩ := hx
          have hown : relab ow r r' p off len a.block = some (r', []) := by
            simp only [relab, own]
            rw [if_pos ⟨trivial, List.prefix_refl _⟩]
            simp
          have hget : ∀ (k : Nat) (row : List T), ((rows.drop off).take len)[k]? = some row → k < len ∧ rows[off + k]? = some row := by
            intro k row hk
            rw [List.getElem?_take] at hk
            split at hk
            · rename_i hlt
              rw [List.getElem?_drop] at hk
              exact ⟨hlt, hk⟩
            · cases hk
          refine .list hb0 rfl hown blk free (by simp; omega) hle' (by simp only; omega) ?_ ?_
          · intro k row hk
            exact hrows _ _ (hget k row hk).2
          · intro k row j x hk hj
            obtain ⟨hkl, hk'⟩ := hget k row hk
            have ho : o = a.off + off * sz := by
              rcases ho with h0 | h0
              · omega
              · exact h0
            have := cells (off + k) row j x hk' hj
            have haddr : o + k * sz + j = a.off + (off + k) * sz + j := by rw [ho, Nat.add_mul]; omega
            simp only
            rw [haddr]
            refine this.move hkept ⟨fun b q hq => ⟨rfl, ?_⟩, fun q => ?_⟩
            · simp only [Loc.at, List.append_assoc, List.cons_append, List.nil_append] at hq ⊢
              simp only [relab, hq]
              rw [if_pos ⟨trivial, List.prefix_append _ _⟩]
              simp only [List.drop_left]
              rw [if_pos (by omega)]
              simp
            · simp only [Loc.at, takenBase, List.nil_append, List.cons_append, if_true, List.append_assoc, Nat.add_comm k off]
        · cases hx
    · rw [St.put_ne _ _ et] at hR'
      have hb : ∀ q, takenBase bs r t p off sz v (r', q) = bs (r', q) := fun q => hbs _ et
      rw [hb]
      by_cases er : r' = r
      · subst er
        simp only [takenSt] at hR'
        cases hl : p.getLast? with
        | none => rw [hl] at hR'; simp at hR'
        | some ij =>
          obtain ⟨i, j⟩ := ij
          rw [hl] at hR'
          simp only [St.put_eq, Option.some.injEq] at hR'
          subst hR'
          have hpl : p = p.dropLast ++ [(i, j)] := (dropLast_snoc hl).symm
          rw [hpl] at hn
          obtain ⟨sz0, rows0, hn0, _⟩ := nav_snoc hn
          refine RepT.recell hkept (h.root r' R hr) hn0 (fun b q hq hpre => ?_) (fun q _ => hb q) (fun _ _ _ _ _ _ _ _ => .ro .dead)
          rw [← hpl] at hpre
          exact relab_other hq (fun e => hpre e.2)
      · have hst : takenSt st r R p r' = st r' := by
          simp only [takenSt]
          cases p.getLast? with
          | none => exact St.put_ne _ _ er
          | some ij => exact St.put_ne _ _ er
        rw [hst] at hR'
        refine (h.root r' R' hR').move hkept ⟨fun b q hq => ⟨rfl, relab_other hq (fun e => er e.1)⟩, fun q => hb _⟩
  · intro r' R' hR' hbx
    by_cases et : r' = t
    · subst et
      simp only [St.put_eq, Option.some.injEq] at hR'
      subst hR'
      cases hbx
    · rw [St.put_ne _ _ et] at hR'
      rw [hbs _ et]
      by_cases er : r' = r
      · subst er
        simp only [takenSt] at hR'
        cases hl : p.getLast? with
        | none => rw [hl] at hR'; simp at hR'
        | some ij =>
          rw [hl] at hR'
          simp only [St.put_eq, Option.some.injEq] at hR'
          subst hR'
          exact h.box r' R hr hbx
      · have hst : takenSt st r R p r' = st r' := by
          simp only [takenSt]
          cases p.getLast? with
          | none => exact St.put_ne _ _ er
          | some ij => exact St.put_ne _ _ er
        rw [hst] at hR'
        exact h.box r' R' hR' hbx
  · intro b ℓ hb
    have hsome : ∃ ℓ0, ow b = some ℓ0 := by
      cases ho : ow b with
      | none => rw [relab_none ho] at hb; cases hb
      | some ℓ0 => exact ⟨ℓ0, rfl⟩
    obtain ⟨ℓ0, ho⟩ := hsome
    have hold := h.own b ℓ0 ho
    refine ⟨?_, hold.2⟩
    by_cases hin : ℓ0.1 = r ∧ p <+: ℓ0.2
    · obtain ⟨r0, q0⟩ := ℓ0
      simp only [relab, ho] at hb
      rw [if_pos hin] at hb
      split at hb
      · simp only [Option.some.injEq] at hb; subst hb; exact fun x => x.2 rfl
      · split at hb
        · simp only [Option.some.injEq] at hb; subst hb; exact fun x => x.2 rfl
        · cases hb
    · rw [relab_other ho hin] at hb
      simp only [Option.some.injEq] at hb
      subst hb
      exact fun x => hold.1 x.1
  · intro r' hr'
    rw [St.put_ne _ _ hr'.2]
    have hne : r' ≠ r := by intro e; rw [← e, h.free r' hr'.1] at hr; cases hr
    have hst : takenSt st r R p r' = st r' := by
      simp only [takenSt]
      cases p.getLast? with
      | none => exact St.put_ne _ _ hne
      | some ij => exact St.put_ne _ _ hne
    rw [hst]
    exact h.free r' hr'.1

/-! ### laying a list into a place -/

def laidOw (ow : Own) (t r : Nat) (p : Path) : Own := fun b =>
  match ow b with
  | some (t', q) => if t' = t then some (r, p ++ q) else some (t', q)
  | none => none

def laidBase (bs : Base) (t r : Nat) (p : Path) : Base := fun ℓ => if ℓ.1 = r ∧ p <+: ℓ.2 then bs (t, ℓ.2.drop p.length) else bs ℓ

theorem Rel.install {w ow bs st fr} (h : Rel w ow bs st fr) {r R p sz rows i j} (hr : st r = some R) (hn : nav R.sz R.rows p = some (sz, rows))
    {t : Nat} {Rt : Root} (ht : st t = some Rt) (htr : t ≠ r) {a : Addr} {len cap} (hb : (bs (r, p)).2 = .slice (some a) len cap) {c : Array Value} {e z} (hblk : w.heap[a.block]? = some (.cells c e z))
    (hcell : c.getD (a.off + i * sz + j) undef = (bs (t, [])).2) :
    Rel w (laidOw ow t r (p ++ [(i, j)])) (laidBase bs t r (p ++ [(i, j)])) ((st.put r (some { R with rows := modAt (setIn i j (.list true Rt.sz Rt.rows)) R.rows p, log := R.log ++ [p ++ [(i, j)]] })).put t none) fr ∧
    Kept w ow w (laidOw ow t r (p ++ [(i, j)])) ∧
    Quiet bs st fr (laidBase bs t r (p ++ [(i, j)])) ((st.put r (some { R with rows := modAt (setIn i j (.list true Rt.sz Rt.rows)) R.rows p, log := R.log ++ [p ++ [(i, j)]] })).put t none) fr := by
  have hkept : Kept w ow w (laidOw ow t r (p ++ [(i, j)])) := fun b hb' _ => ⟨rfl, by simp [laidOw, hb']⟩
  have hbs : ∀ ℓ : Loc, ¬ (ℓ.1 = r ∧ (p ++ [(i, j)]) <+: ℓ.2) → laidBase bs t r (p ++ [(i, j)]) ℓ = bs ℓ := fun ℓ hne => by simp only [laidBase]; rw [if_neg hne]
  have how : ∀ b ℓ, ow b = some ℓ → ℓ.1 ≠ t → laidOw ow t r (p ++ [(i, j)]) b = some ℓ := by
    intro b ℓ ho hne
    obtain ⟨r', q⟩ := ℓ
    simp only [laidOw, ho]; rw [if_neg hne]
  refine ⟨⟨?_, ?_, ?_, ?_⟩, hkept, ?_⟩
  · intro r' R' hR'
    by_cases et : r' = t
    · subst et; simp at hR'
    rw [St.put_ne _ _ et] at hR'
    by_cases er : r' = r
    · subst er
      simp only [St.put_eq, Option.some.injEq] at hR'
      subst hR'
      have hbroot : laidBase bs t r' (p ++ [(i, j)]) (r', []) = bs (r', []) := hbs _ (by simp)
      rw [hbroot]
      refine RepT.recell hkept (h.root r' R hr) hn (fun b q hq _ => how b _ hq et) (fun q hq => hbs _ (fun e => hq e.2)) (fun a2 len2 cap2 c2 e2 z2 h1 h2 => ?_)
      rw [hb] at h1
      simp only [Value.slice.injEq, Option.some.injEq] at h1
      obtain ⟨rfl, rfl, rfl⟩ := h1
      rw [hblk] at h2
      simp only [Option.some.injEq, Obj.cells.injEq] at h2
      obtain ⟨rfl, rfl, rfl⟩ := h2
      rw [hcell]
      refine (h.root t Rt ht).move hkept ⟨fun b q hq => ⟨rfl, ?_⟩, fun q => ?_⟩
      · simp only [List.nil_append] at hq
        simp only [laidOw, hq, if_true]
      · simp only [laidBase]
        rw [if_pos ⟨trivial, List.prefix_append _ _⟩]
        simp
    · rw [St.put_ne _ _ er] at hR'
      have hb' : ∀ q, laidBase bs t r (p ++ [(i, j)]) (r', q) = bs (r', q) := fun q => hbs _ (fun e => er e.1)
      rw [hb']
      exact (h.root r' R' hR').move hkept ⟨fun b q hq => ⟨rfl, how b _ hq et⟩, fun q => hb' _⟩
  · intro r' R' hR' hbx
    by_cases et : r' = t
    · subst et; simp at hR'
    rw [St.put_ne _ _ et] at hR'
    by_cases er : r' = r
    · subst er
      simp only [St.put_eq, Option.some.injEq] at hR'
      subst hR'
      rw [hbs _ (by simp)]
      exact h.box r' R hr hbx
    · rw [St.put_ne _ _ er] at hR'
      rw [hbs _ (fun e => er e.1)]
      exact h.box r' R' hR' hbx
  · intro b ℓ hb'
    cases ho : ow b with
    | none => simp [laidOw, ho] at hb'
    | some ℓ0 =>
      have hold := h.own b ℓ0 ho
      refine ⟨?_, hold.2⟩
      obtain ⟨t0, q0⟩ := ℓ0
      simp only [laidOw, ho] at hb'
      split at hb'
      · simp only [Option.some.injEq] at hb'
        subst hb'
        intro hfr
        rw [h.free r hfr] at hr; cases hr
      · simp only [Option.some.injEq] at hb'
        subst hb'
        exact hold.1
  · intro r' hr'
    have h1 : r' ≠ t := by intro e; rw [← e, h.free r' hr'] at ht; cases ht
    have h2 : r' ≠ r := by intro e; rw [← e, h.free r' hr'] at hr; cases hr
    rw [St.put_ne _ _ h1, St.put_ne _ _ h2]
    exact h.free r' hr'
  · refine Quiet.trans ⟨fun x _ => hbs _ (by simp), fun x q m hx hq hm hs => ?_, fun x R' _ h' => ?_, fun _ h => h⟩ (Quiet.drop t)
    · have key : Still st x q m ∧ ¬ (x = r ∧ (p ++ [(i, j)]) <+: q) := by
        rcases hs with h0 | ⟨R1, h1, hf⟩
        · exact absurd h0 hq
        · by_cases e : x = r
          · subst e
            simp only [St.put_eq, Option.some.injEq] at h1
            subst h1
            have hml := hm R hr
            have hq' : q.isEmpty = false := by cases q <;> simp_all
            simp only [fresh, hq', Bool.false_or, List.drop_append_of_le_length hml, List.all_append, Bool.and_eq_true, List.all_cons, List.all_nil, Bool.and_true] at hf
            refine ⟨.inr ⟨R, hr, by simp only [fresh, hq', Bool.false_or]; exact hf.1⟩, fun e2 => ?_⟩
            have := hf.2
            rw [Bool.not_eq_true'] at this
            have h3 := List.isPrefixOf_iff_prefix.2 e2.2
            rw [this] at h3
            cases h3
          · rw [St.put_ne _ _ e] at h1
            exact ⟨.inr ⟨R1, h1, hf⟩, fun e2 => e e2.1⟩
      exact ⟨key.1, hbs _ key.2⟩
    · by_cases e : x = r
      · subst e
        simp only [St.put_eq, Option.some.injEq] at h'
        subst h'
        exact ⟨R, hr, by simp⟩
      · rw [St.put_ne _ _ e] at h'; exact ⟨R', h', Nat.le_refl _⟩

end Go.VM
