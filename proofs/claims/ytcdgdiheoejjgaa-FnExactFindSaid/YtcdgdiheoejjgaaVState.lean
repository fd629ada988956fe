/- What a frame knows of memory: values, roots (trees that nobody else owns), and the turns that memory takes under them. Nothing of a program stands here. -/
import Derived.Test.YtcdgdiheoejjgaaVTree
namespace Go.VM
set_option linter.unusedSimpArgs false
set_option linter.unusedVariables false

inductive VV where
  | c (x : T)
  | nils (sz : Nat)
  | al (r : Nat) (p : Path) (m sz off len : Nat)
  | ptr (r : Nat) (p : Path) (m i j : Nat)
  | agg (cs : List VV)
  | tup (cs : List VV)
  | rop (cs : List T)
  | fn (f : Nat) (caps : List (List T))
  | undef
  deriving Inhabited

/-- A tree of its own in memory: one variable ('box'), or a slice's row. 'log': the places that were filled anew. -/
structure Root where
  box : Bool
  sz : Nat
  rows : List (List T)
  log : List Path

abbrev St := Nat → Option Root
def St.put (st : St) (r : Nat) (R : Option Root) : St := fun x => if x = r then R else st x
@[simp] theorem St.put_eq (st : St) (r : Nat) (R) : st.put r R r = R := by simp [St.put]
theorem St.put_ne (st : St) {r x : Nat} (R) (h : x ≠ r) : st.put r R x = st x := by simp [St.put, h]

/-- What was told of a place when the log had 'm' rows is still so. -/
def fresh (R : Root) (m : Nat) (p : Path) : Bool := p.isEmpty || (R.log.drop m).all fun q => !q.isPrefixOf p

/-- A slice of a slice. -/
def Sub (sz : Nat) (bv : Value) (off len : Nat) (v : Value) : Prop :=
  (∃ (a : Addr) (l cap o cap' : Nat), bv = .slice (some a) l cap ∧ v = .slice (some ⟨a.block, o, none⟩) len cap' ∧ (len = 0 ∨ o = a.off + off * sz) ∧ o + cap' * sz ≤ a.off + cap * sz ∧ len ≤ cap') ∨
  (∃ l cap, bv = .slice none l cap ∧ len = 0 ∧ v = .slice none 0 0)

/-- Some slice of that length. -/
def SliceOf (len : Nat) (v : Value) : Prop := ∃ (a : Option Addr) (cap : Nat), v = .slice a len cap ∧ len ≤ cap ∧ (a = none → len = 0 ∧ cap = 0) ∧ ∀ b, a = some b → b.spot = none

/-- Is this place the one that it was? -/
def Still (st : St) (r : Nat) (p : Path) (m : Nat) : Prop := p = [] ∨ ∃ R, st r = some R ∧ fresh R m p = true

inductive RelV (w : World) (ow : Own) (bs : Base) (st : St) (fr : Nat → Prop) : VV → Value → Prop
  | c {x v} (h : RepR w ow x v) : RelV w ow bs st fr (.c x) v
  | nils {sz} : RelV w ow bs st fr (.nils sz) (.slice none 0 0)
  | al {r p m sz off len v} (hf : ¬ fr r) (h : Still st r p m → (bs (r, p)).1 = sz ∧ Sub sz (bs (r, p)).2 off len v) (hv : SliceOf len v) (hm : ∀ R, st r = some R → m ≤ R.log.length) : RelV w ow bs st fr (.al r p m sz off len) v
  | ptr {r p m i j v} (hf : ¬ fr r) (h : Still st r p m → ∃ (a : Addr) (l cap : Nat), (bs (r, p)).2 = .slice (some a) l cap ∧ v = .pointer (some ⟨a.block, a.off + i * (bs (r, p)).1 + j, none⟩))
      (hv : ∃ a, v = .pointer (some a) ∧ a.spot = none) (hm : ∀ R, st r = some R → m ≤ R.log.length) : RelV w ow bs st fr (.ptr r p m i j) v
  | agg {cs : List VV} {vs : Array Value} (hl : cs.length = vs.size) (h : ∀ (k : Nat) (x : VV), cs[k]? = some x → RelV w ow bs st fr x (vs.getD k undef)) : RelV w ow bs st fr (.agg cs) (.agg vs)
  | tup {cs : List VV} {vs : Array Value} (hl : cs.length = vs.size) (h : ∀ (k : Nat) (x : VV), cs[k]? = some x → RelV w ow bs st fr x (vs.getD k undef)) : RelV w ow bs st fr (.tup cs) (.tuple vs)
  | rop {cs : List T} {a : Addr} {c : Array Value} {e z} (spot : a.spot = none) (own : ow a.block = none) (blk : w.heap[a.block]? = some (.cells c e z)) (fits : a.off + cs.length ≤ c.size)
      (cells : ∀ (j : Nat) (x : T), cs[j]? = some x → RepR w ow x (c.getD (a.off + j) undef)) : RelV w ow bs st fr (.rop cs) (.pointer (some a))
  | fn {f : Nat} {caps : List (List T)} {vs : Array Value} (hl : caps.length = vs.size) (h : ∀ (k : Nat) (cs : List T), caps[k]? = some cs → RelV w ow bs st fr (.rop cs) (vs.getD k undef)) :
      RelV w ow bs st fr (.fn f caps) (.func (.func f) #[] vs)
  | undef {v} : RelV w ow bs st fr .undef v

/-- Nothing that a value tells of has turned. -/
structure Quiet (bs : Base) (st : St) (fr : Nat → Prop) (bs' : Base) (st' : St) (fr' : Nat → Prop) : Prop where
  base : ∀ r, ¬ fr r → bs' (r, []) = bs (r, [])
  still : ∀ r p m, ¬ fr r → p ≠ [] → (∀ R, st r = some R → m ≤ R.log.length) → Still st' r p m → Still st r p m ∧ bs' (r, p) = bs (r, p)
  log : ∀ r R', ¬ fr r → st' r = some R' → ∃ R, st r = some R ∧ R.log.length ≤ R'.log.length
  free : ∀ r, fr' r → fr r

theorem Quiet.refl (bs st fr) : Quiet bs st fr bs st fr := ⟨fun _ _ => rfl, fun _ _ _ _ _ _ h => ⟨h, rfl⟩, fun _ R' _ h => ⟨R', h, Nat.le_refl _⟩, fun _ h => h⟩
theorem Quiet.trans {bs st fr bs1 st1 fr1 bs2 st2 fr2} (h : Quiet bs st fr bs1 st1 fr1) (k : Quiet bs1 st1 fr1 bs2 st2 fr2) : Quiet bs st fr bs2 st2 fr2 :=
  ⟨fun r hr => (k.base r (fun x => hr (h.free _ x))).trans (h.base r hr),
   fun r p m hr hp hm hs => by
    have h2 := k.still r p m (fun x => hr (h.free _ x)) hp (fun R1 h1 => by
      obtain ⟨R0, h0, hle⟩ := h.log r R1 hr h1
      exact Nat.le_trans (hm R0 h0) hle) hs
    have h1 := h.still r p m hr hp hm h2.1
    exact ⟨h1.1, h2.2.trans h1.2⟩,
   fun r R' hr h' => by
    obtain ⟨R1, h1, l1⟩ := k.log r R' (fun x => hr (h.free _ x)) h'
    obtain ⟨R0, h0, l0⟩ := h.log r R1 hr h1
    exact ⟨R0, h0, Nat.le_trans l0 l1⟩, fun r hr => h.free r (k.free r hr)⟩

theorem Quiet.at {bs st fr bs' st' fr'} (h : Quiet bs st fr bs' st' fr') {r p m} (hr : ¬ fr r) (hm : ∀ R, st r = some R → m ≤ R.log.length) (hs : Still st' r p m) : Still st r p m ∧ bs' (r, p) = bs (r, p) := by
  by_cases hp : p = []
  · subst hp; exact ⟨.inl rfl, h.base r hr⟩
  · exact h.still r p m hr hp hm hs

theorem RelV.mono {w w' : World} {ow ow' : Own} {bs bs' : Base} {st st' : St} {fr fr' : Nat → Prop} (hk : Kept w ow w' ow') (hq : Quiet bs st fr bs' st' fr')
    {x : VV} {v : Value} (h : RelV w ow bs st fr x v) : RelV w' ow' bs' st' fr' x v := by
  induction h with
  | c h => exact .c (h.mono hk)
  | nils => exact .nils
  | al hn h hv hm =>
    refine .al (fun x => hn (hq.free _ x)) (fun hs => ?_) hv (fun R' h' => by obtain ⟨R, h0, hl⟩ := hq.log _ R' hn h'; exact Nat.le_trans (hm R h0) hl)
    obtain ⟨h1, h2⟩ := hq.at hn hm hs
    rw [h2]
    exact h h1
  | @ptr r p m i j v hn h hv hm =>
    refine .ptr (fun x => hn (hq.free _ x)) (fun hs => ?_) hv (fun R' h' => by obtain ⟨R, h0, hl⟩ := hq.log _ R' hn h'; exact Nat.le_trans (hm R h0) hl)
    obtain ⟨h1, h2⟩ := hq.at hn hm hs
    rw [h2]
    exact h h1
  | agg hl _ ih => exact .agg hl ih
  | tup hl _ ih => exact .tup hl ih
  | rop spot own blk fits cells =>
    have hb := hk _ own (lt_of_get blk)
    exact .rop spot hb.2 (hb.1.trans blk) fits (fun j x hx => (cells j x hx).mono hk)
  | fn hl _ ih => exact .fn hl ih
  | undef => exact .undef

/-- Memory stands for the roots. -/
structure Rel (w : World) (ow : Own) (bs : Base) (st : St) (fr : Nat → Prop) : Prop where
  root : ∀ r R, st r = some R → RepT w ow bs (r, []) (.list true R.sz R.rows) (bs (r, [])).2
  box : ∀ r R, st r = some R → R.box = true → ∃ a, (bs (r, [])).2 = .slice (some a) 1 1
  own : ∀ b ℓ, ow b = some ℓ → ¬ fr ℓ.1 ∧ b < w.heap.size
  free : ∀ r, fr r → st r = none

/-- Besides what is owned nothing turns, and no stream. -/
structure Steady (w : World) (ow : Own) (w' : World) (ow' : Own) : Prop where
  kept : Kept w ow w' ow'
  size : w.heap.size ≤ w'.heap.size
  os : w'.os = w.os
  tape : w'.tape = w.tape
  output : w'.output = w.output

theorem Steady.refl (w : World) (ow : Own) : Steady w ow w ow := ⟨Kept.refl _ _, Nat.le_refl _, rfl, rfl, rfl⟩
theorem Steady.trans {w w1 w2 : World} {ow ow1 ow2 : Own} (h : Steady w ow w1 ow1) (k : Steady w1 ow1 w2 ow2) : Steady w ow w2 ow2 :=
  ⟨fun b hb hlt => by
      have h1 := h.kept b hb hlt
      have h2 := k.kept b h1.2 (Nat.lt_of_lt_of_le hlt h.size)
      exact ⟨h2.1.trans h1.1, h2.2⟩, Nat.le_trans h.size k.size, k.os.trans h.os, k.tape.trans h.tape, k.output.trans h.output⟩

theorem Still.put_none {st : St} {r x : Nat} {p : Path} {m : Nat} (h : Still (st.put r none) x p m) : Still st x p m := by
  rcases h with h | ⟨R, h, hf⟩
  · exact .inl h
  · by_cases e : x = r
    · subst e; simp at h
    · rw [St.put_ne _ _ e] at h; exact .inr ⟨R, h, hf⟩

/-- A root whose log stays. -/
theorem Quiet.same {bs : Base} {st : St} {fr : Nat → Prop} {r : Nat} {R R' : Root} (hr : st r = some R) (hl : R'.log = R.log) : Quiet bs st fr bs (st.put r (some R')) fr := by
  refine ⟨fun _ _ => rfl, fun x p m _ _ _ hs => ⟨?_, rfl⟩, fun x R1 _ h1 => ?_, fun _ h => h⟩
  rotate_left
  · by_cases e : x = r
    · subst e
      simp only [St.put_eq, Option.some.injEq] at h1
      subst h1
      exact ⟨R, hr, by rw [hl]; exact Nat.le_refl _⟩
    · rw [St.put_ne _ _ e] at h1; exact ⟨R1, h1, Nat.le_refl _⟩
  rcases hs with h | ⟨R1, h, hf⟩
  · exact .inl h
  · by_cases e : x = r
    · subst e
      simp only [St.put_eq, Option.some.injEq] at h
      subst h
      exact .inr ⟨R, hr, by simpa [fresh, hl] using hf⟩
    · rw [St.put_ne _ _ e] at h; exact .inr ⟨R1, h, hf⟩

theorem Quiet.drop {bs : Base} {st : St} {fr : Nat → Prop} (r : Nat) : Quiet bs st fr bs (st.put r none) fr :=
  ⟨fun _ _ => rfl, fun _ _ _ _ _ _ hs => ⟨hs.put_none, rfl⟩, fun x R' _ h' => by
    by_cases e : x = r
    · subst e; simp at h'
    · rw [St.put_ne _ _ e] at h'; exact ⟨R', h', Nat.le_refl _⟩, fun _ h => h⟩

theorem Rel.drop {w ow bs st fr} (h : Rel w ow bs st fr) (r : Nat) : Rel w ow bs (st.put r none) fr := by
  refine ⟨fun x R hx => ?_, fun x R hx => ?_, h.own, fun x hx => ?_⟩
  · by_cases e : x = r
    · subst e; simp at hx
    · rw [St.put_ne _ _ e] at hx; exact h.root x R hx
  · by_cases e : x = r
    · subst e; simp at hx
    · rw [St.put_ne _ _ e] at hx; exact h.box x R hx
  · by_cases e : x = r
    · subst e; simp
    · rw [St.put_ne _ _ e]; exact h.free x hx

def setIn (i j : Nat) (y : T) (rows : List (List T)) : List (List T) := rows.set i ((rows.getD i []).set j y)

/-- Where a cell of a root lies. -/
theorem Rel.place {w ow bs st fr} (h : Rel w ow bs st fr) {r R p sz rows i row j x} (hr : st r = some R) (hn : nav R.sz R.rows p = some (sz, rows)) (hi : rows[i]? = some row) (hj : row[j]? = some x) :
    ∃ (a : Addr) (len cap : Nat) (c : Array Value) (e : TypeId) (z : Nat × Nat), bs (r, p) = (sz, .slice (some a) len cap) ∧ a.spot = none ∧ ow a.block = some (r, p) ∧ w.heap[a.block]? = some (.cells c e z) ∧
      Unfrozen z c.size ∧ len = rows.length ∧ len ≤ cap ∧ a.off + cap * sz ≤ c.size ∧ row.length = sz ∧ a.off + i * sz + j < c.size ∧ RepT w ow bs (r, p ++ [(i, j)]) x (c.getD (a.off + i * sz + j) undef) := by
  have hp := (h.root r R hr).nav hn
  simp only [List.nil_append] at hp
  have hb := hp.base
  generalize hbv : (bs (r, p)).2 = bv at hp hb
  cases hp with
  | ro h => cases h
  | nil => simp at hi
  | @list _ a _ _ len cap c e z base spot own blk free hlen hcap fits hrows cells =>
    have hrl := hrows i row hi
    have hil := lt_of_getl hi
    have hjl := lt_of_getl hj
    refine ⟨a, len, cap, c, e, z, hb, spot, own, blk, free, hlen, hcap, fits, hrl, ?_, cells i row j x hi hj⟩
    have : (i + 1) * sz ≤ cap * sz := Nat.mul_le_mul_right _ (by omega)
    rw [Nat.add_mul] at this
    omega

theorem heap_setCell (w : World) (b o : Nat) (v : Value) {c : Array Value} {e z} (hb : w.heap[b]? = some (.cells c e z)) : (w.setCell ⟨b, o, none⟩ v).heap[b]? = some (.cells (c.setIfInBounds o v) e z) := by
  simp only [World.setCell, Array.getElem?_modify, if_true, hb]
  simp

theorem Rel.set {w ow bs st fr} (h : Rel w ow bs st fr) {r R p sz rows i row j x} (hr : st r = some R) (hn : nav R.sz R.rows p = some (sz, rows)) (hi : rows[i]? = some row) (hj : row[j]? = some x)
    {y : T} {v : Value} (hy : RepR w ow y v) {a : Addr} {len cap} (hb : (bs (r, p)).2 = .slice (some a) len cap) :
    Rel (w.setCell ⟨a.block, a.off + i * sz + j, none⟩ v) ow bs (st.put r (some { R with rows := modAt (setIn i j y) R.rows p })) fr ∧
    Steady w ow (w.setCell ⟨a.block, a.off + i * sz + j, none⟩ v) ow ∧
    Quiet bs st fr bs (st.put r (some { R with rows := modAt (setIn i j y) R.rows p })) fr := by
  obtain ⟨a', len', cap', c, e, z, hbs, spot, own, blk, free, hlen, hcap, fits, hrl, hlt, hx⟩ := h.place hr hn hi hj
  rw [hbs] at hb
  simp only [Value.slice.injEq, Option.some.injEq] at hb
  obtain ⟨rfl, rfl, rfl⟩ := hb
  generalize hw' : w.setCell ⟨a'.block, a'.off + i * sz + j, none⟩ v = w'
  have hother : ∀ b, b ≠ a'.block → w'.heap[b]? = w.heap[b]? := by
    intro b hne; rw [← hw']; exact Go.RowKit.Below.heap_setCell _ _ _ _ hne
  have hself : w'.heap[a'.block]? = some (.cells (c.setIfInBounds (a'.off + i * sz + j) v) e z) := by rw [← hw']; exact heap_setCell _ _ _ _ blk
  have hkept : Kept w ow w' ow := by
    intro b hnone hlt
    refine ⟨hother b ?_, hnone⟩
    intro e; rw [e, own] at hnone; cases hnone
  refine ⟨⟨?_, ?_, ?_, ?_⟩, ⟨hkept, ?_, ?_, ?_, ?_⟩, Quiet.same hr rfl⟩
  · intro r' R' hR'
    by_cases er : r' = r
    · subst er
      simp only [St.put_eq, Option.some.injEq] at hR'
      subst hR'
      refine RepT.modAt hkept (setIn i j y) (h.root r' R hr) hn ?_ (fun _ _ => rfl) ?_
      · intro b q hq hpre
        refine ⟨hother b ?_, rfl⟩
        intro e; rw [e, own] at hq
        simp only [Option.some.injEq, Prod.mk.injEq, List.nil_append, true_and] at hq
        exact hpre (by rw [hq]; exact List.prefix_refl _)
      · simp only [List.nil_append]
        have hp := (h.root r' R hr).nav hn
        simp only [List.nil_append] at hp
        rw [hbs] at hp ⊢
        cases hp with
        | ro h => cases h
        | @list _ _ _ _ _ _ c2 e2 z2 base2 spot2 own2 blk2 free2 hlen2 hcap2 fits2 hrows2 cells2 =>
          rw [blk] at blk2
          simp only [Option.some.injEq, Obj.cells.injEq] at blk2
          obtain ⟨rfl, rfl, rfl⟩ := blk2
          have hrow : rows.getD i [] = row := getD_of hi
          have hil := lt_of_getl hi
          have hjl := lt_of_getl hj
          have hcell : ∀ (i' j' : Nat), i' < rows.length → j' < sz → ¬ (i' = i ∧ j' = j) → (c.setIfInBounds (a'.off + i * sz + j) v).getD (a'.off + i' * sz + j') undef = c.getD (a'.off + i' * sz + j') undef := by
            intro i' j' h1 h2 hne
            have : a'.off + i' * sz + j' ≠ a'.off + i * sz + j := by
              intro e
              apply hne
              have e : i' * sz + j' = i * sz + j := by omega
              have hs : 0 < sz := by omega
              have e1 : (i' * sz + j') / sz = i' := by rw [Nat.mul_comm, Nat.mul_add_div hs, Nat.div_eq_of_lt h2]; omega
              have e2 : (i * sz + j) / sz = i := by rw [Nat.mul_comm, Nat.mul_add_div hs, Nat.div_eq_of_lt (by omega)]; omega
              have : i' = i := by rw [← e1, ← e2, e]
              subst this
              exact ⟨rfl, by omega⟩
            simp only [Array.getD_eq_getD_getElem?, Array.getElem?_setIfInBounds_ne this.symm]
          refine .list hbs spot2 own2 hself (by simpa using free2) (by simp [setIn, hlen2]) hcap2 (by simpa using fits2) ?_ ?_
          · intro i' row' h'
            simp only [setIn, List.getElem?_set] at h'
            split at h'
            · simp only [hil, if_true, Option.some.injEq] at h'
              subst h'
              rw [hrow]; simpa using hrl
            · exact hrows2 i' row' h'
          · intro i' row' j' x' h' hx'
            have keep : ∀ (i' j' : Nat) (row0 : List T) (x0 : T), rows[i']? = some row0 → row0[j']? = some x0 → ¬ (i' = i ∧ j' = j) →
                RepT w' ow bs (Loc.at (r', p) i' j') x0 ((c.setIfInBounds (a'.off + i * sz + j) v).getD (a'.off + i' * sz + j') undef) := by
              intro i' j' row0 x0 h0 hx0 hne
              have hl0 := hrows2 i' row0 h0
              rw [hcell i' j' (lt_of_getl h0) (by have := lt_of_getl hx0; omega) hne]
              refine (cells2 i' row0 j' x0 h0 hx0).move hkept ⟨fun b q hq => ⟨hother b ?_, hq⟩, fun _ => rfl⟩
              intro e; rw [e, own] at hq
              simp [Loc.at] at hq
            simp only [setIn, List.getElem?_set] at h'
            split at h'
            · subst i'
              simp only [hil, if_true, Option.some.injEq] at h'
              subst h'
              rw [hrow, List.getElem?_set] at hx'
              split at hx'
              · subst j'
                simp only [hjl, if_true, Option.some.injEq] at hx'
                subst hx'
                rw [Array.getD_eq_getD_getElem?, Array.getElem?_setIfInBounds_self_of_lt hlt]
                exact .ro (hy.mono hkept)
              · rename_i hne
                exact keep i j' row x' hi hx' (fun e => hne e.2.symm)
            · rename_i hne
              exact keep i' j' row' x' h' hx' (fun e => hne e.1.symm)
    · rw [St.put_ne _ _ er] at hR'
      refine (h.root r' R' hR').move hkept ⟨fun b q hq => ⟨hother b ?_, hq⟩, fun _ => rfl⟩
      intro e; rw [e, own] at hq
      simp only [Option.some.injEq, Prod.mk.injEq] at hq
      exact er hq.1.symm
  · intro r' R' hR' hbox
    by_cases er : r' = r
    · subst er
      simp only [St.put_eq, Option.some.injEq] at hR'
      subst hR'
      exact h.box r' R hr hbox
    · rw [St.put_ne _ _ er] at hR'; exact h.box r' R' hR' hbox
  · intro b ℓ hb
    have := h.own b ℓ hb
    refine ⟨this.1, ?_⟩
    rw [← hw']; simpa [World.setCell] using this.2
  · intro r' hf
    by_cases er : r' = r
    · subst er; rw [h.free r' hf] at hr; cases hr
    · rw [St.put_ne _ _ er]; exact h.free r' hf
  · rw [← hw']; simp [World.setCell]
  · rw [← hw']; rfl
  · rw [← hw']; rfl
  · rw [← hw']; rfl

end Go.VM
