/- Trees of plain values, and when a value of the machine's memory represents one. Nothing of a program stands here. -/
import Derived.Calls
import Derived.Below
import Derived.Laws.Cells
import Derived.WalkKit
import Derived.Laws.StructEq
import Derived.MapKept
set_option linter.unusedSimpArgs false
set_option linter.unusedVariables false
namespace Go.VM
/-- A plain value: what one cell of memory stands for. A list is owned ('true') or only read ('false'); its elements are rows of 'sz' cells. -/
inductive T where
  | int (k : IntKind) (n : Int)
  | bool (b : Bool)
  | str (s : ByteArray)
  | list (o : Bool) (sz : Nat) (es : List (List T))
  | dead
  | held (v : Value) (sz : Nat) (es : List (List T))
  deriving Inhabited
mutual
def T.toRO : T → T
  | .list _ sz es => .list false sz (rosR es)
  | x => x
def roR : List T → List T
  | [] => []
  | x :: r => x.toRO :: roR r
def rosR : List (List T) → List (List T)
  | [] => []
  | r :: rs => roR r :: rosR rs
end
@[simp] theorem roR_eq (r : List T) : roR r = r.map T.toRO := by induction r <;> simp [roR, *]
@[simp] theorem rosR_eq (rs : List (List T)) : rosR rs = rs.map (List.map T.toRO) := by induction rs <;> simp [rosR, *]
@[simp] theorem toRO_int (k n) : (T.int k n).toRO = .int k n := by simp [T.toRO]
@[simp] theorem toRO_bool (b) : (T.bool b).toRO = .bool b := by simp [T.toRO]
@[simp] theorem toRO_str (s) : (T.str s).toRO = .str s := by simp [T.toRO]
@[simp] theorem toRO_dead : T.dead.toRO = .dead := by simp [T.toRO]
@[simp] theorem toRO_held (v sz es) : (T.held v sz es).toRO = .held v sz es := by simp [T.toRO]
@[simp] theorem toRO_list (o sz es) : (T.list o sz es).toRO = .list false sz (es.map (List.map T.toRO)) := by simp [T.toRO]
abbrev Path := List (Nat × Nat)
abbrev Loc := Nat × Path
abbrev Own := Nat → Option Loc
def Loc.at (ℓ : Loc) (i j : Nat) : Loc := (ℓ.1, ℓ.2 ++ [(i, j)])
def Unfrozen (fr : Nat × Nat) (n : Nat) : Prop := fr.1 ≤ fr.2 ∧ ∀ k, k < n → ¬ (fr.1 ≤ k ∧ k < fr.2)
/-- Read-only: 'v' stands for 'x' in memory that nobody here owns. -/
inductive RepR (w : World) (ow : Own) : T → Value → Prop
  | int {k n} : RepR w ow (.int k n) (.int k n)
  | bool {b} : RepR w ow (.bool b) (.bool b)
  | str {s} : RepR w ow (.str s) (.string s)
  | dead {v} : RepR w ow .dead v
  | nil {sz a cap} : RepR w ow (.list false sz []) (.slice a 0 cap)
  | list {a : Addr} {sz es len cap} {c : Array Value} {e fr} (spot : a.spot = none) (own : ow a.block = none) (blk : w.heap[a.block]? = some (.cells c e fr))
      (hlen : len = es.length) (hcap : len ≤ cap) (fits : a.off + len * sz ≤ c.size) (rows : ∀ (i : Nat) (row : List T), es[i]? = some row → row.length = sz)
      (cells : ∀ (i : Nat) (row : List T) (j : Nat) (x : T), es[i]? = some row → row[j]? = some x → RepR w ow x (c.getD (a.off + i * sz + j) undef)) :
      RepR w ow (.list false sz es) (.slice (some a) len cap)
  | held {v sz es} (h : RepR w ow (.list false sz es) v) : RepR w ow (.held v sz es) v
/-- The slice that stands at each place, and how many cells an element has. -/
abbrev Base := Loc → Nat × Value
/-- 'v' stands for 'x' at the place 'ℓ': an owned list's block is owned by that very place. -/
inductive RepT (w : World) (ow : Own) (bs : Base) : Loc → T → Value → Prop
  | ro {ℓ x v} (h : RepR w ow x v) : RepT w ow bs ℓ x v
  | nil {ℓ sz} (base : bs ℓ = (sz, .slice none 0 0)) : RepT w ow bs ℓ (.list true sz []) (.slice none 0 0)
  | list {ℓ : Loc} {a : Addr} {sz es len cap} {c : Array Value} {e fr} (base : bs ℓ = (sz, .slice (some a) len cap)) (spot : a.spot = none) (own : ow a.block = some ℓ)
      (blk : w.heap[a.block]? = some (.cells c e fr)) (free : Unfrozen fr c.size) (hlen : len = es.length) (hcap : len ≤ cap) (fits : a.off + cap * sz ≤ c.size)
      (rows : ∀ (i : Nat) (row : List T), es[i]? = some row → row.length = sz)
      (cells : ∀ (i : Nat) (row : List T) (j : Nat) (x : T), es[i]? = some row → row[j]? = some x → RepT w ow bs (ℓ.at i j) x (c.getD (a.off + i * sz + j) undef)) :
      RepT w ow bs ℓ (.list true sz es) (.slice (some a) len cap)
theorem RepT.base {w ow bs ℓ sz es v} (h : RepT w ow bs ℓ (.list true sz es) v) : bs ℓ = (sz, v) := by
  cases h with
  | ro h => cases h
  | nil base => exact base
  | list base => exact base
/-- What nobody owns is as it was, and still nobody's. -/
def Kept (w : World) (ow : Own) (w' : World) (ow' : Own) : Prop :=
  ∀ b, ow b = none → b < w.heap.size → w'.heap[b]? = w.heap[b]? ∧ ow' b = none
theorem Kept.refl (w : World) (ow : Own) : Kept w ow w ow := fun _ h _ => ⟨rfl, h⟩
theorem lt_of_get {α : Type} {a : Array α} {i : Nat} {x : α} (h : a[i]? = some x) : i < a.size := by
  rcases Nat.lt_or_ge i a.size with h' | h'
  · exact h'
  · simp [Array.getElem?_eq_none h'] at h
theorem RepR.mono {w w' : World} {ow ow' : Own} (k : Kept w ow w' ow') {x : T} {v : Value} (h : RepR w ow x v) : RepR w' ow' x v := by
  induction h with
  | int => exact .int
  | bool => exact .bool
  | str => exact .str
  | dead => exact .dead
  | nil => exact .nil
  | list spot own blk hlen hcap fits rows _ ih =>
    have hk := k _ own (lt_of_get blk)
    exact .list spot hk.2 (hk.1.trans blk) hlen hcap fits rows ih
  | held _ ih => exact .held ih
/-- What lies below the place 'ℓ' is as it was, and lies below 'ℓ'' now. -/
def Moved (w : World) (ow : Own) (bs : Base) (ℓ : Loc) (w' : World) (ow' : Own) (bs' : Base) (ℓ' : Loc) : Prop :=
  (∀ b p, ow b = some (ℓ.1, ℓ.2 ++ p) → w'.heap[b]? = w.heap[b]? ∧ ow' b = some (ℓ'.1, ℓ'.2 ++ p)) ∧ ∀ p, bs' (ℓ'.1, ℓ'.2 ++ p) = bs (ℓ.1, ℓ.2 ++ p)
theorem Moved.at {w w' : World} {ow ow' : Own} {bs bs' : Base} {ℓ ℓ' : Loc} (m : Moved w ow bs ℓ w' ow' bs' ℓ') (i j : Nat) : Moved w ow bs (ℓ.at i j) w' ow' bs' (ℓ'.at i j) := by
  refine ⟨fun b p h => ?_, fun p => ?_⟩
  · have := m.1 b ((i, j) :: p) (by simpa [Loc.at] using h)
    simpa [Loc.at] using this
  · have := m.2 ((i, j) :: p)
    simpa [Loc.at] using this
theorem RepT.move {w w' : World} {ow ow' : Own} {bs bs' : Base} (k : Kept w ow w' ow') {ℓ : Loc} {x : T} {v : Value} (h : RepT w ow bs ℓ x v) :
    ∀ {ℓ' : Loc}, Moved w ow bs ℓ w' ow' bs' ℓ' → RepT w' ow' bs' ℓ' x v := by
  induction h with
  | ro h => exact fun _ => .ro (h.mono k)
  | nil base => exact fun m => .nil (by have := m.2 []; simp at this; exact this.trans base)
  | @list ℓ a sz es len cap c e fr base spot own blk free hlen hcap fits rows _ ih =>
    intro ℓ' m
    have hk := m.1 a.block [] (by simpa using own)
    exact .list (by have := m.2 []; simp at this; exact this.trans base) spot (by simpa using hk.2) (hk.1.trans blk) free hlen hcap fits rows
      (fun i row j x h1 h2 => ih i row j x h1 h2 (m.at i j))
/-- What is only read, lent to be read. -/
theorem RepR.lend {w : World} {ow : Own} {x : T} {v : Value} (h : RepR w ow x v) : RepR w ow x.toRO v := by
  induction h with
  | int => simpa using RepR.int
  | bool => simpa using RepR.bool
  | str => simpa using RepR.str
  | dead => simpa using RepR.dead
  | nil => simpa using RepR.nil
  | held h _ => simpa using RepR.held h
  | list spot own blk hlen hcap fits rows _ ih =>
    rw [toRO_list]
    refine .list spot own blk (by simpa using hlen) hcap fits ?_ ?_
    · intro i row hr
      rw [List.getElem?_map] at hr
      obtain ⟨row0, h0, rfl⟩ := Option.map_eq_some_iff.1 hr
      simpa using rows i row0 h0
    · intro i row j x hr hx
      rw [List.getElem?_map] at hr
      obtain ⟨row0, h0, rfl⟩ := Option.map_eq_some_iff.1 hr
      rw [List.getElem?_map] at hx
      obtain ⟨x0, hx0, rfl⟩ := Option.map_eq_some_iff.1 hx
      exact ih i row0 j x0 h0 hx0
/-- Lent to be read. -/
theorem RepT.lend {w w' : World} {ow ow' : Own} {bs : Base} (k : Kept w ow w' ow') {ℓ : Loc} {x : T} {v : Value} (h : RepT w ow bs ℓ x v)
    (hl : ∀ b p, ow b = some (ℓ.1, ℓ.2 ++ p) → w'.heap[b]? = w.heap[b]? ∧ ow' b = none) : RepR w' ow' x.toRO v := by
  induction h with
  | ro h => exact (h.mono k).lend
  | nil => rw [toRO_list]; exact .nil
  | @list ℓ a sz es len cap c e fr base spot own blk free hlen hcap fits rows _ ih =>
    rw [toRO_list]
    have hk := hl a.block [] (by simpa using own)
    refine .list spot hk.2 (hk.1.trans blk) (by simpa using hlen) hcap ?_ ?_ ?_
    · have : len * sz ≤ cap * sz := Nat.mul_le_mul_right _ hcap
      omega
    · intro i row hr
      rw [List.getElem?_map] at hr
      obtain ⟨row0, h0, rfl⟩ := Option.map_eq_some_iff.1 hr
      simpa using rows i row0 h0
    · intro i row j x hr hx
      rw [List.getElem?_map] at hr
      obtain ⟨row0, h0, rfl⟩ := Option.map_eq_some_iff.1 hr
      rw [List.getElem?_map] at hx
      obtain ⟨x0, hx0, rfl⟩ := Option.map_eq_some_iff.1 hx
      exact ih i row0 j x0 h0 hx0 (fun b p hb => hl b ((i, j) :: p) (by simpa [Loc.at] using hb))
/-! ### places inside a tree -/
/-- The rows at a path. -/
def nav : Nat → List (List T) → Path → Option (Nat × List (List T))
  | sz, rows, [] => some (sz, rows)
  | _, rows, (i, j) :: p =>
    match (rows.getD i []).getD j .dead with
    | .list true sz' es => nav sz' es p
    | _ => none
def modAt (f : List (List T) → List (List T)) : List (List T) → Path → List (List T)
  | rows, [] => f rows
  | rows, (i, j) :: p =>
    match (rows.getD i []).getD j .dead with
    | .list true sz' es => rows.set i ((rows.getD i []).set j (.list true sz' (modAt f es p)))
    | _ => rows
theorem getD_some {α : Type} {l : List α} {i : Nat} {d x : α} (h : l.getD i d = x) (hne : x ≠ d) : l[i]? = some x := by
  rw [List.getD_eq_getElem?_getD] at h
  cases hi : l[i]? with
  | none => rw [hi] at h; exact absurd h.symm hne
  | some y => rw [hi] at h; simpa using h
theorem cell_some {rows : List (List T)} {i j : Nat} {x : T} (h : (rows.getD i []).getD j .dead = x) (hne : x ≠ .dead) :
    ∃ row, rows[i]? = some row ∧ row[j]? = some x := by
  have h1 := getD_some h hne
  refine ⟨rows.getD i [], ?_, h1⟩
  rw [List.getD_eq_getElem?_getD] at *
  cases hi : rows[i]? with
  | none => rw [hi] at h1; simp at h1
  | some row => simp
/-- Where the tree has rows, memory has them. -/
theorem RepT.nav {w : World} {ow : Own} {bs : Base} : ∀ {p : Path} {ℓ : Loc} {sz rows bv sz' rows'}, RepT w ow bs ℓ (.list true sz rows) bv → VM.nav sz rows p = some (sz', rows') →
    RepT w ow bs (ℓ.1, ℓ.2 ++ p) (.list true sz' rows') (bs (ℓ.1, ℓ.2 ++ p)).2
  | [], ℓ, sz, rows, bv, sz', rows', h, hn => by
    simp only [VM.nav,Option.some.injEq,Prod.mk.injEq] at hn
    obtain ⟨rfl, rfl⟩ := hn
    have := h.base
    simpa [this] using h
  | (i, j) :: p, ℓ, sz, rows, bv, sz', rows', h, hn => by
    simp only [VM.nav] at hn
    split at hn
    · rename_i sz1 es1 hx
      obtain ⟨row, hr, hj⟩ := cell_some hx (by simp)
      cases h with
      | ro h => cases h
      | nil => simp at hr
      | list base spot own blk free hlen hcap fits hrows cells =>
        have := RepT.nav (cells i row j _ hr hj) hn
        simpa [Loc.at] using this
    · simp at hn
theorem getD_of {α : Type} {l : List α} {i : Nat} {d x : α} (h : l[i]? = some x) : l.getD i d = x := by
  rw [List.getD_eq_getElem?_getD, h]; rfl
theorem lt_of_getl {α : Type} {l : List α} {i : Nat} {x : α} (h : l[i]? = some x) : i < l.length := by
  rcases Nat.lt_or_ge i l.length with h' | h'
  · exact h'
  · rw [List.getElem?_eq_none h'] at h; cases h
/-- One place of a tree is turned: where memory stands for what is there now, the whole does. -/
theorem RepT.modAt {w w' : World} {ow ow' : Own} {bs bs' : Base} (hk : Kept w ow w' ow') (f : List (List T) → List (List T)) : ∀ {p : Path} {ℓ : Loc} {sz rows bv sz' rows'},
    RepT w ow bs ℓ (.list true sz rows) bv → VM.nav sz rows p = some (sz', rows') →
    (∀ b q, ow b = some (ℓ.1, ℓ.2 ++ q) → ¬ p <+: q → w'.heap[b]? = w.heap[b]? ∧ ow' b = ow b) → (∀ q, ¬ (p <+: q ∧ p ≠ q) → bs' (ℓ.1, ℓ.2 ++ q) = bs (ℓ.1, ℓ.2 ++ q)) →
    RepT w' ow' bs' (ℓ.1, ℓ.2 ++ p) (.list true sz' (f rows')) (bs (ℓ.1, ℓ.2 ++ p)).2 → RepT w' ow' bs' ℓ (.list true sz (VM.modAt f rows p)) bv
  | [], ℓ, sz, rows, bv, sz', rows', h, hn, hoff, hbs, hnew => by
    simp only [VM.nav,Option.some.injEq,Prod.mk.injEq] at hn
    obtain ⟨rfl, rfl⟩ := hn
    have := h.base
    simpa [VM.modAt, this] using hnew
  | (i, j) :: p, ℓ, sz, rows, bv, sz', rows', h, hn, hoff, hbs, hnew => by
    simp only [VM.nav] at hn
    split at hn
    · rename_i sz1 es1 hx
      obtain ⟨row, hr, hj⟩ := cell_some hx (by simp)
      have hrow : rows.getD i [] = row := getD_of hr
      have hi := lt_of_getl hr
      have hjl := lt_of_getl hj
      cases h with
      | ro h => cases h
      | nil => simp at hr
      | @list _ a _ _ len cap c e fr base spot own blk free hlen hcap fits hrows cells =>
        have hself := hoff a.block [] (by simpa using own) (by simp)
        have hbself := hbs [] (by simp)
        simp only [List.append_nil] at hbself
        have ih := RepT.modAt hk f (p := p) (ℓ := ℓ.at i j) (cells i row j _ hr hj) hn
          (fun b q hb hq => hoff b ((i, j) :: q) (by simpa [Loc.at] using hb) (by simpa using hq))
          (fun q hq => by have := hbs ((i, j) :: q) (by simpa using hq); simpa [Loc.at] using this) (by simpa [Loc.at] using hnew)
        have hm : VM.modAt f rows ((i, j) :: p) = rows.set i (row.set j (.list true sz1 (VM.modAt f es1 p))) := by
          simp only [VM.modAt]; rw [hx]; simp only [hrow]
        rw [hm]
        refine .list (hbself.trans base) spot (hself.2.trans own) (hself.1.trans blk) free (by simpa using hlen) hcap fits ?_ ?_
        · intro i' row' h'
          rw [List.getElem?_set] at h'
          split at h'
          · subst i'
            simp only [hi,if_true,Option.some.injEq] at h'
            subst h'
            simpa using hrows i row hr
          · exact hrows i' row' h'
        · intro i' row' j' x' h' hx'
          have hmove : ∀ (i' j' : Nat) (row0 : List T) (x0 : T), rows[i']? = some row0 → row0[j']? = some x0 → ¬ (i = i' ∧ j = j') →
              RepT w' ow' bs' (ℓ.at i' j') x0 (c.getD (a.off + i' * sz + j') undef) := by
            intro i' j' row0 x0 h0 hx0 hne
            have hpre : ∀ q, ¬ (i, j) :: p <+: (i', j') :: q := by
              intro q; simp; intro e1 e2; exact absurd ⟨e1, e2⟩ hne
            refine (cells i' row0 j' x0 h0 hx0).move hk ⟨fun b q hb => ?_, fun q => ?_⟩
            · have := hoff b ((i', j') :: q) (by simpa [Loc.at] using hb) (hpre q)
              exact ⟨this.1, this.2.trans hb⟩
            · have := hbs ((i', j') :: q) (fun h => hpre q h.1)
              simpa [Loc.at] using this
          rw [List.getElem?_set] at h'
          split at h'
          · subst i'
            simp only [hi,if_true,Option.some.injEq] at h'
            subst h'
            rw [List.getElem?_set] at hx'
            split at hx'
            · subst j'
              simp only [hjl,if_true,Option.some.injEq] at hx'
              subst hx'
              exact ih
            · rename_i hne
              exact hmove i j' row x' hr hx' (fun e => hne e.2)
          · rename_i hne
            exact hmove i' j' row' x' h' hx' (fun e => hne e.1)
    · simp at hn
end Go.VM
/- What a frame knows of memory: values, roots (trees that nobody else owns), and the turns that memory takes under them. Nothing of a program stands here. -/
namespace Go.VM
inductive VV where
  | c (x : T)
  | nils (sz : Nat)
  | al (r : Nat) (p : Path) (m sz off len : Nat)
  | ptr (r : Nat) (p : Path) (m i j : Nat)
  | agg (cs : List VV)
  | tup (cs : List VV)
  | rop (cs : List T)
  | fn (f : Nat) (caps : List (List T))
  | bxv (cs : List VV)
  | undef
  deriving Inhabited
/-- A tree of its own in memory: one variable ('box'), or a slice's row. 'log': the places that were filled anew. -/
structure Root where
  box : Bool
  sz : Nat
  rows : List (List T)
  log : List Path
abbrev St := Nat → Option Root
def St.put (st : St) (r : Nat) (R : Option Root) : St := fun x => if x = r then R else st x
@[simp] theorem St.put_eq (st : St) (r : Nat) (R) : st.put r R r = R := by simp [St.put]
theorem St.put_ne (st : St) {r x : Nat} (R) (h : x ≠ r) : st.put r R x = st x := by simp [St.put,h]
/-- What was told of a place when the log had 'm' rows is still so. -/
def fresh (R : Root) (m : Nat) (p : Path) : Bool := p.isEmpty || (R.log.drop m).all fun q => !q.isPrefixOf p
/-- A slice of a slice. -/
def Sub (sz : Nat) (bv : Value) (off len : Nat) (v : Value) : Prop :=
  (∃ (a : Addr) (l cap o cap' : Nat), bv = .slice (some a) l cap ∧ v = .slice (some ⟨a.block, o, none⟩) len cap' ∧ (len = 0 ∨ o = a.off + off * sz) ∧ o + cap' * sz ≤ a.off + cap * sz ∧ len ≤ cap' ∧ off + cap' = cap ∧ (cap' = 0 ∨ o = a.off + off * sz)) ∨
  (∃ l cap, bv = .slice none l cap ∧ len = 0 ∧ v = .slice none 0 0)
/-- Some slice of that length. -/
def SliceOf (len : Nat) (v : Value) : Prop := ∃ (a : Option Addr) (cap : Nat), v = .slice a len cap ∧ len ≤ cap ∧ (a = none → len = 0 ∧ cap = 0) ∧ ∀ b, a = some b → b.spot = none
/-- Is this place the one that it was? -/
def Still (st : St) (r : Nat) (p : Path) (m : Nat) : Prop := p = [] ∨ ∃ R, st r = some R ∧ fresh R m p = true
inductive RelV (w : World) (ow : Own) (bs : Base) (st : St) (fr : Nat → Prop) : VV → Value → Prop
  | c {x v} (h : RepR w ow x v) : RelV w ow bs st fr (.c x) v
  | nils {sz} : RelV w ow bs st fr (.nils sz) (.slice none 0 0)
  | al {r p m sz off len v} (hf : ¬ fr r) (h : Still st r p m → (bs (r, p)).1 = sz ∧ Sub sz (bs (r, p)).2 off len v) (hv : SliceOf len v) (hm : ∀ R, st r = some R → m ≤ R.log.length) : RelV w ow bs st fr (.al r p m sz off len) v
  | ptr {r p m i j v} (hf : ¬ fr r) (h : Still st r p m → ∃ (a : Addr) (l cap : Nat), (bs (r, p)).2 = .slice (some a) l cap ∧ v = .pointer (some ⟨a.block, a.off + i * (bs (r, p)).1 + j, none⟩))
      (hv : ∃ a, v = .pointer (some a) ∧ a.spot = none) (hm : ∀ R, st r = some R → m ≤ R.log.length) : RelV w ow bs st fr (.ptr r p m i j) v
  | agg {cs : List VV} {vs : Array Value} (hl : cs.length = vs.size) (h : ∀ (k : Nat) (x : VV), cs[k]? = some x → RelV w ow bs st fr x (vs.getD k undef)) : RelV w ow bs st fr (.agg cs) (.agg vs)
  | tup {cs : List VV} {vs : Array Value} (hl : cs.length = vs.size) (h : ∀ (k : Nat) (x : VV), cs[k]? = some x → RelV w ow bs st fr x (vs.getD k undef)) : RelV w ow bs st fr (.tup cs) (.tuple vs)
  | rop {cs : List T} {a : Addr} {c : Array Value} {e z} (spot : a.spot = none) (own : ow a.block = none) (blk : w.heap[a.block]? = some (.cells c e z)) (fits : a.off + cs.length ≤ c.size)
      (cells : ∀ (j : Nat) (x : T), cs[j]? = some x → RepR w ow x (c.getD (a.off + j) undef)) : RelV w ow bs st fr (.rop cs) (.pointer (some a))
  | bxv {cs : List VV} {a : Addr} {c : Array Value} {e z} (spot : a.spot = none) (own : ow a.block = none) (blk : w.heap[a.block]? = some (.cells c e z)) (fits : a.off + cs.length ≤ c.size)
      (h : ∀ (j : Nat) (x : VV), cs[j]? = some x → RelV w ow bs st fr x (c.getD (a.off + j) undef)) : RelV w ow bs st fr (.bxv cs) (.pointer (some a))
  | fn {f : Nat} {caps : List (List T)} {vs : Array Value} (hl : caps.length = vs.size) (h : ∀ (k : Nat) (cs : List T), caps[k]? = some cs → RelV w ow bs st fr (.rop cs) (vs.getD k undef)) :
      RelV w ow bs st fr (.fn f caps) (.func (.func f) #[] vs)
  | undef {v} : RelV w ow bs st fr .undef v
/-- Nothing that a value tells of has turned. -/
structure Quiet (bs : Base) (st : St) (fr : Nat → Prop) (bs' : Base) (st' : St) (fr' : Nat → Prop) : Prop where
  base : ∀ r, ¬ fr r → bs' (r, []) = bs (r, [])
  still : ∀ r p m, ¬ fr r → p ≠ [] → (∀ R, st r = some R → m ≤ R.log.length) → Still st' r p m → Still st r p m ∧ bs' (r, p) = bs (r, p)
  log : ∀ r R', ¬ fr r → st' r = some R' → ∃ R, st r = some R ∧ R.log.length ≤ R'.log.length
  free : ∀ r, fr' r → fr r
theorem Quiet.refl (bs st fr) : Quiet bs st fr bs st fr := ⟨fun _ _ => rfl, fun _ _ _ _ _ _ h => ⟨h, rfl⟩, fun _ R' _ h => ⟨R', h, Nat.le_refl _⟩, fun _ h => h⟩
theorem Quiet.trans {bs st fr bs1 st1 fr1 bs2 st2 fr2} (h : Quiet bs st fr bs1 st1 fr1) (k : Quiet bs1 st1 fr1 bs2 st2 fr2) : Quiet bs st fr bs2 st2 fr2 :=
  ⟨fun r hr => (k.base r (fun x => hr (h.free _ x))).trans (h.base r hr),
   fun r p m hr hp hm hs => by
    have h2 := k.still r p m (fun x => hr (h.free _ x)) hp (fun R1 h1 => by
      obtain ⟨R0, h0, hle⟩ := h.log r R1 hr h1
      exact Nat.le_trans (hm R0 h0) hle) hs
    have h1 := h.still r p m hr hp hm h2.1
    exact ⟨h1.1, h2.2.trans h1.2⟩,
   fun r R' hr h' => by
    obtain ⟨R1, h1, l1⟩ := k.log r R' (fun x => hr (h.free _ x)) h'
    obtain ⟨R0, h0, l0⟩ := h.log r R1 hr h1
    exact ⟨R0, h0, Nat.le_trans l0 l1⟩, fun r hr => h.free r (k.free r hr)⟩
theorem Quiet.at {bs st fr bs' st' fr'} (h : Quiet bs st fr bs' st' fr') {r p m} (hr : ¬ fr r) (hm : ∀ R, st r = some R → m ≤ R.log.length) (hs : Still st' r p m) : Still st r p m ∧ bs' (r, p) = bs (r, p) := by
  by_cases hp : p = []
  · subst hp; exact ⟨.inl rfl, h.base r hr⟩
  · exact h.still r p m hr hp hm hs
theorem RelV.mono {w w' : World} {ow ow' : Own} {bs bs' : Base} {st st' : St} {fr fr' : Nat → Prop} (hk : Kept w ow w' ow') (hq : Quiet bs st fr bs' st' fr')
    {x : VV} {v : Value} (h : RelV w ow bs st fr x v) : RelV w' ow' bs' st' fr' x v := by
  induction h with
  | c h => exact .c (h.mono hk)
  | nils => exact .nils
  | al hn h hv hm =>
    refine .al (fun x => hn (hq.free _ x)) (fun hs => ?_) hv (fun R' h' => by obtain ⟨R, h0, hl⟩ := hq.log _ R' hn h'; exact Nat.le_trans (hm R h0) hl)
    obtain ⟨h1, h2⟩ := hq.at hn hm hs
    rw [h2]
    exact h h1
  | @ptr r p m i j v hn h hv hm =>
    refine .ptr (fun x => hn (hq.free _ x)) (fun hs => ?_) hv (fun R' h' => by obtain ⟨R, h0, hl⟩ := hq.log _ R' hn h'; exact Nat.le_trans (hm R h0) hl)
    obtain ⟨h1, h2⟩ := hq.at hn hm hs
    rw [h2]
    exact h h1
  | agg hl _ ih => exact .agg hl ih
  | tup hl _ ih => exact .tup hl ih
  | rop spot own blk fits cells =>
    have hb := hk _ own (lt_of_get blk)
    exact .rop spot hb.2 (hb.1.trans blk) fits (fun j x hx => (cells j x hx).mono hk)
  | bxv spot own blk fits _ ih =>
    have hb := hk _ own (lt_of_get blk)
    exact .bxv spot hb.2 (hb.1.trans blk) fits ih
  | fn hl _ ih => exact .fn hl ih
  | undef => exact .undef
/-- Memory stands for the roots. -/
structure Rel (w : World) (ow : Own) (bs : Base) (st : St) (fr : Nat → Prop) : Prop where
  root : ∀ r R, st r = some R → RepT w ow bs (r, []) (.list true R.sz R.rows) (bs (r, [])).2
  box : ∀ r R, st r = some R → R.box = true → ∃ a, (bs (r, [])).2 = .slice (some a) 1 1
  own : ∀ b ℓ, ow b = some ℓ → ¬ fr ℓ.1 ∧ b < w.heap.size
  free : ∀ r, fr r → st r = none
/-- Besides what is owned nothing turns, and no stream. -/
structure Steady (w : World) (ow : Own) (w' : World) (ow' : Own) : Prop where
  kept : Kept w ow w' ow'
  size : w.heap.size ≤ w'.heap.size
  os : w'.os = w.os
  tape : w'.tape = w.tape
  output : w'.output = w.output
theorem Steady.refl (w : World) (ow : Own) : Steady w ow w ow := ⟨Kept.refl _ _, Nat.le_refl _, rfl, rfl, rfl⟩
theorem Steady.trans {w w1 w2 : World} {ow ow1 ow2 : Own} (h : Steady w ow w1 ow1) (k : Steady w1 ow1 w2 ow2) : Steady w ow w2 ow2 :=
  ⟨fun b hb hlt => by
      have h1 := h.kept b hb hlt
      have h2 := k.kept b h1.2 (Nat.lt_of_lt_of_le hlt h.size)
      exact ⟨h2.1.trans h1.1, h2.2⟩, Nat.le_trans h.size k.size, k.os.trans h.os, k.tape.trans h.tape, k.output.trans h.output⟩
theorem Still.put_none {st : St} {r x : Nat} {p : Path} {m : Nat} (h : Still (st.put r none) x p m) : Still st x p m := by
  rcases h with h | ⟨R, h, hf⟩
  · exact .inl h
  · by_cases e : x = r
    · subst e; simp at h
    · rw [St.put_ne _ _ e] at h; exact .inr ⟨R, h, hf⟩
/-- A root whose log stays. -/
theorem Quiet.same {bs : Base} {st : St} {fr : Nat → Prop} {r : Nat} {R R' : Root} (hr : st r = some R) (hl : R'.log = R.log) : Quiet bs st fr bs (st.put r (some R')) fr := by
  refine ⟨fun _ _ => rfl, fun x p m _ _ _ hs => ⟨?_, rfl⟩, fun x R1 _ h1 => ?_, fun _ h => h⟩
  rotate_left
  · by_cases e : x = r
    · subst e
      simp only [St.put_eq,Option.some.injEq] at h1
      subst h1
      exact ⟨R, hr, by rw [hl]; exact Nat.le_refl _⟩
    · rw [St.put_ne _ _ e] at h1; exact ⟨R1, h1, Nat.le_refl _⟩
  rcases hs with h | ⟨R1, h, hf⟩
  · exact .inl h
  · by_cases e : x = r
    · subst e
      simp only [St.put_eq,Option.some.injEq] at h
      subst h
      exact .inr ⟨R, hr, by simpa [fresh, hl] using hf⟩
    · rw [St.put_ne _ _ e] at h; exact .inr ⟨R1, h, hf⟩
theorem Quiet.drop {bs : Base} {st : St} {fr : Nat → Prop} (r : Nat) : Quiet bs st fr bs (st.put r none) fr :=
  ⟨fun _ _ => rfl, fun _ _ _ _ _ _ hs => ⟨hs.put_none, rfl⟩, fun x R' _ h' => by
    by_cases e : x = r
    · subst e; simp at h'
    · rw [St.put_ne _ _ e] at h'; exact ⟨R', h', Nat.le_refl _⟩, fun _ h => h⟩
theorem Rel.drop {w ow bs st fr} (h : Rel w ow bs st fr) (r : Nat) : Rel w ow bs (st.put r none) fr := by
  refine ⟨fun x R hx => ?_, fun x R hx => ?_, h.own, fun x hx => ?_⟩
  · by_cases e : x = r
    · subst e; simp at hx
    · rw [St.put_ne _ _ e] at hx; exact h.root x R hx
  · by_cases e : x = r
    · subst e; simp at hx
    · rw [St.put_ne _ _ e] at hx; exact h.box x R hx
  · by_cases e : x = r
    · subst e; simp
    · rw [St.put_ne _ _ e]; exact h.free x hx
def setIn (i j : Nat) (y : T) (rows : List (List T)) : List (List T) := rows.set i ((rows.getD i []).set j y)
/-- Where a cell of a root lies. -/
theorem Rel.place {w ow bs st fr} (h : Rel w ow bs st fr) {r R p sz rows i row j x} (hr : st r = some R) (hn : nav R.sz R.rows p = some (sz, rows)) (hi : rows[i]? = some row) (hj : row[j]? = some x) :
    ∃ (a : Addr) (len cap : Nat) (c : Array Value) (e : TypeId) (z : Nat × Nat), bs (r, p) = (sz, .slice (some a) len cap) ∧ a.spot = none ∧ ow a.block = some (r, p) ∧ w.heap[a.block]? = some (.cells c e z) ∧
      Unfrozen z c.size ∧ len = rows.length ∧ len ≤ cap ∧ a.off + cap * sz ≤ c.size ∧ row.length = sz ∧ a.off + i * sz + j < c.size ∧ RepT w ow bs (r, p ++ [(i, j)]) x (c.getD (a.off + i * sz + j) undef) := by
  have hp := (h.root r R hr).nav hn
  simp only [List.nil_append] at hp
  have hb := hp.base
  generalize hbv : (bs (r, p)).2 = bv at hp hb
  cases hp with
  | ro h => cases h
  | nil => simp at hi
  | @list _ a _ _ len cap c e z base spot own blk free hlen hcap fits hrows cells =>
    have hrl := hrows i row hi
    have hil := lt_of_getl hi
    have hjl := lt_of_getl hj
    refine ⟨a, len, cap, c, e, z, hb, spot, own, blk, free, hlen, hcap, fits, hrl, ?_, cells i row j x hi hj⟩
    have : (i + 1) * sz ≤ cap * sz := Nat.mul_le_mul_right _ (by omega)
    rw [Nat.add_mul] at this
    omega
theorem heap_setCell (w : World) (b o : Nat) (v : Value) {c : Array Value} {e z} (hb : w.heap[b]? = some (.cells c e z)) : (w.setCell ⟨b, o, none⟩ v).heap[b]? = some (.cells (c.setIfInBounds o v) e z) := by
  simp only [World.setCell,Array.getElem?_modify,if_true,hb]
  simp
theorem Rel.set {w ow bs st fr} (h : Rel w ow bs st fr) {r R p sz rows i row j x} (hr : st r = some R) (hn : nav R.sz R.rows p = some (sz, rows)) (hi : rows[i]? = some row) (hj : row[j]? = some x)
    {y : T} {v : Value} (hy : RepR w ow y v) {a : Addr} {len cap} (hb : (bs (r, p)).2 = .slice (some a) len cap) :
    Rel (w.setCell ⟨a.block, a.off + i * sz + j, none⟩ v) ow bs (st.put r (some { R with rows := modAt (setIn i j y) R.rows p })) fr ∧
    Steady w ow (w.setCell ⟨a.block, a.off + i * sz + j, none⟩ v) ow ∧
    Quiet bs st fr bs (st.put r (some { R with rows := modAt (setIn i j y) R.rows p })) fr := by
  obtain ⟨a', len', cap', c, e, z, hbs, spot, own, blk, free, hlen, hcap, fits, hrl, hlt, hx⟩ := h.place hr hn hi hj
  rw [hbs] at hb
  simp only [Value.slice.injEq,Option.some.injEq] at hb
  obtain ⟨rfl, rfl, rfl⟩ := hb
  generalize hw' : w.setCell ⟨a'.block, a'.off + i * sz + j, none⟩ v = w'
  have hother : ∀ b, b ≠ a'.block → w'.heap[b]? = w.heap[b]? := by
    intro b hne; rw [← hw']; exact Go.RowKit.Below.heap_setCell _ _ _ _ hne
  have hself : w'.heap[a'.block]? = some (.cells (c.setIfInBounds (a'.off + i * sz + j) v) e z) := by rw [← hw']; exact heap_setCell _ _ _ _ blk
  have hkept : Kept w ow w' ow := by
    intro b hnone hlt
    refine ⟨hother b ?_, hnone⟩
    intro e; rw [e, own] at hnone; cases hnone
  refine ⟨⟨?_, ?_, ?_, ?_⟩, ⟨hkept, ?_, ?_, ?_, ?_⟩, Quiet.same hr rfl⟩
  · intro r' R' hR'
    by_cases er : r' = r
    · subst er
      simp only [St.put_eq,Option.some.injEq] at hR'
      subst hR'
      refine RepT.modAt hkept (setIn i j y) (h.root r' R hr) hn ?_ (fun _ _ => rfl) ?_
      · intro b q hq hpre
        refine ⟨hother b ?_, rfl⟩
        intro e; rw [e, own] at hq
        simp only [Option.some.injEq,Prod.mk.injEq,List.nil_append,true_and] at hq
        exact hpre (by rw [hq]; exact List.prefix_refl _)
      · simp only [List.nil_append]
        have hp := (h.root r' R hr).nav hn
        simp only [List.nil_append] at hp
        rw [hbs] at hp ⊢
        cases hp with
        | ro h => cases h
        | @list _ _ _ _ _ _ c2 e2 z2 base2 spot2 own2 blk2 free2 hlen2 hcap2 fits2 hrows2 cells2 =>
          rw [blk] at blk2
          simp only [Option.some.injEq,Obj.cells.injEq] at blk2
          obtain ⟨rfl, rfl, rfl⟩ := blk2
          have hrow : rows.getD i [] = row := getD_of hi
          have hil := lt_of_getl hi
          have hjl := lt_of_getl hj
          have hcell : ∀ (i' j' : Nat), i' < rows.length → j' < sz → ¬ (i' = i ∧ j' = j) → (c.setIfInBounds (a'.off + i * sz + j) v).getD (a'.off + i' * sz + j') undef = c.getD (a'.off + i' * sz + j') undef := by
            intro i' j' h1 h2 hne
            have : a'.off + i' * sz + j' ≠ a'.off + i * sz + j := by
              intro e
              apply hne
              have e : i' * sz + j' = i * sz + j := by omega
              have hs : 0 < sz := by omega
              have e1 : (i' * sz + j') / sz = i' := by rw [Nat.mul_comm, Nat.mul_add_div hs, Nat.div_eq_of_lt h2]; omega
              have e2 : (i * sz + j) / sz = i := by rw [Nat.mul_comm, Nat.mul_add_div hs, Nat.div_eq_of_lt (by omega)]; omega
              have : i' = i := by rw [← e1, ← e2, e]
              subst this
              exact ⟨rfl, by omega⟩
            simp only [Array.getD_eq_getD_getElem?,Array.getElem?_setIfInBounds_ne this.symm]
          refine .list hbs spot2 own2 hself (by simpa using free2) (by simp [setIn,hlen2]) hcap2 (by simpa using fits2) ?_ ?_
          · intro i' row' h'
            simp only [setIn,List.getElem?_set] at h'
            split at h'
            · simp only [hil,if_true,Option.some.injEq] at h'
              subst h'
              rw [hrow]; simpa using hrl
            · exact hrows2 i' row' h'
          · intro i' row' j' x' h' hx'
            have keep : ∀ (i' j' : Nat) (row0 : List T) (x0 : T), rows[i']? = some row0 → row0[j']? = some x0 → ¬ (i' = i ∧ j' = j) →
                RepT w' ow bs (Loc.at (r', p) i' j') x0 ((c.setIfInBounds (a'.off + i * sz + j) v).getD (a'.off + i' * sz + j') undef) := by
              intro i' j' row0 x0 h0 hx0 hne
              have hl0 := hrows2 i' row0 h0
              rw [hcell i' j' (lt_of_getl h0) (by have := lt_of_getl hx0; omega) hne]
              refine (cells2 i' row0 j' x0 h0 hx0).move hkept ⟨fun b q hq => ⟨hother b ?_, hq⟩, fun _ => rfl⟩
              intro e; rw [e, own] at hq
              simp [Loc.at] at hq
            simp only [setIn,List.getElem?_set] at h'
            split at h'
            · subst i'
              simp only [hil,if_true,Option.some.injEq] at h'
              subst h'
              rw [hrow, List.getElem?_set] at hx'
              split at hx'
              · subst j'
                simp only [hjl,if_true,Option.some.injEq] at hx'
                subst hx'
                rw [Array.getD_eq_getD_getElem?, Array.getElem?_setIfInBounds_self_of_lt hlt]
                exact .ro (hy.mono hkept)
              · rename_i hne
                exact keep i j' row x' hi hx' (fun e => hne e.2.symm)
            · rename_i hne
              exact keep i' j' row' x' h' hx' (fun e => hne e.1.symm)
    · rw [St.put_ne _ _ er] at hR'
      refine (h.root r' R' hR').move hkept ⟨fun b q hq => ⟨hother b ?_, hq⟩, fun _ => rfl⟩
      intro e; rw [e, own] at hq
      simp only [Option.some.injEq,Prod.mk.injEq] at hq
      exact er hq.1.symm
  · intro r' R' hR' hbox
    by_cases er : r' = r
    · subst er
      simp only [St.put_eq,Option.some.injEq] at hR'
      subst hR'
      exact h.box r' R hr hbox
    · rw [St.put_ne _ _ er] at hR'; exact h.box r' R' hR' hbox
  · intro b ℓ hb
    have := h.own b ℓ hb
    refine ⟨this.1, ?_⟩
    rw [← hw']; simpa [World.setCell] using this.2
  · intro r' hf
    by_cases er : r' = r
    · subst er; rw [h.free r' hf] at hr; cases hr
    · rw [St.put_ne _ _ er]; exact h.free r' hf
  · rw [← hw']; simp [World.setCell]
  · rw [← hw']; rfl
  · rw [← hw']; rfl
  · rw [← hw']; rfl
end Go.VM
/- The turns of memory, two: a new block, a list that is taken out of its place, a list that is laid into a place. -/
namespace Go.VM
def Own.put (ow : Own) (b : Nat) (ℓ : Option Loc) : Own := fun x => if x = b then ℓ else ow x
def newBase (bs : Base) (r sz : Nat) (rows : List (List T)) (cap b : Nat) : Base := fun ℓ =>
  if ℓ.1 = r then
    match ℓ.2 with
    | [] => (sz, .slice (some ⟨b, 0, none⟩) rows.length cap)
    | (i, j) :: _ => match (rows.getD i []).getD j .dead with | .list _ s _ => (s, .slice none 0 0) | _ => (0, undef)
  else bs ℓ
theorem newBase_ne (bs : Base) {r sz rows cap b} {ℓ : Loc} (h : ℓ.1 ≠ r) : newBase bs r sz rows cap b ℓ = bs ℓ := by simp [newBase,h]
/-- A new root. -/
theorem Quiet.new {bs bs' : Base} {st : St} {fr : Nat → Prop} {t : Nat} {R : Option Root} (ht : fr t) (hb : ∀ ℓ : Loc, ℓ.1 ≠ t → bs' ℓ = bs ℓ) : Quiet bs st fr bs' (st.put t R) (fun x => fr x ∧ x ≠ t) := by
  refine ⟨fun r hr => hb _ (fun e => hr (by simp only at e; rw [e]; exact ht)), fun r p m hr _ _ hs => ?_, fun r R' hr h' => ?_, fun _ h => h.1⟩
  rotate_left
  · have hne : r ≠ t := fun e => hr (by rw [e]; exact ht)
    rw [St.put_ne _ _ hne] at h'; exact ⟨R', h', Nat.le_refl _⟩
  have hne : r ≠ t := fun e => hr (by rw [e]; exact ht)
  refine ⟨?_, hb _ hne⟩
  rcases hs with h | ⟨R1, h, hf⟩
  · exact .inl h
  · rw [St.put_ne _ _ hne] at h; exact .inr ⟨R1, h, hf⟩
theorem Rel.alloc {w ow bs st fr} (h : Rel w ow bs st fr) {r : Nat} (hf : fr r) {sz : Nat} {rows : List (List T)} {cap : Nat} {c : Array Value} {e : TypeId} {z : Nat × Nat} (box : Bool)
    (hsz : cap * sz ≤ c.size) (free : Unfrozen z c.size) (hlen : rows.length ≤ cap) (hrows : ∀ (i : Nat) (row : List T), rows[i]? = some row → row.length = sz)
    (cells : ∀ (i : Nat) (row : List T) (j : Nat) (x : T), rows[i]? = some row → row[j]? = some x →
      RepR w ow x (c.getD (i * sz + j) undef) ∨ (∃ s, x = .list true s [] ∧ c.getD (i * sz + j) undef = .slice none 0 0))
    (hbox : box = true → rows.length = 1 ∧ cap = 1) :
    Rel (w.alloc (.cells c e z)) (ow.put w.heap.size (some (r, []))) (newBase bs r sz rows cap w.heap.size) (st.put r (some ⟨box, sz, rows, []⟩)) (fun x => fr x ∧ x ≠ r) ∧
    Steady w ow (w.alloc (.cells c e z)) (ow.put w.heap.size (some (r, []))) ∧
    Quiet bs st fr (newBase bs r sz rows cap w.heap.size) (st.put r (some ⟨box, sz, rows, []⟩)) (fun x => fr x ∧ x ≠ r) := by
  have hheap : (w.alloc (.cells c e z)).heap = w.heap.push (.cells c e z) := rfl
  have hold : ∀ b, b < w.heap.size → (w.alloc (.cells c e z)).heap[b]? = w.heap[b]? := fun b hb => Go.RowKit.Below.heap_alloc _ _ _ hb
  have hkept : Kept w ow (w.alloc (.cells c e z)) (ow.put w.heap.size (some (r, []))) := by
    intro b hnone hlt
    refine ⟨hold b hlt, ?_⟩
    simp only [Own.put]; rw [if_neg (by omega)]; exact hnone
  refine ⟨⟨?_, ?_, ?_, ?_⟩, ⟨hkept, by rw [hheap]; simp, rfl, rfl, rfl⟩, Quiet.new hf (fun ℓ h => newBase_ne bs h)⟩
  · intro r' R' hR'
    by_cases er : r' = r
    · subst er
      simp only [St.put_eq,Option.some.injEq] at hR'
      subst hR'
      have hb0 : newBase bs r' sz rows cap w.heap.size (r', []) = (sz, .slice (some ⟨w.heap.size, 0, none⟩) rows.length cap) := by simp [newBase]
      rw [hb0]
      refine .list (e := e) (fr := z) (c := c) hb0 rfl (by simp [Own.put]) (by rw [hheap]; simp) free rfl hlen (by simpa using hsz) hrows ?_
      intro i row j x hi hj
      simp only [Nat.zero_add]
      rcases cells i row j x hi hj with hx | ⟨s, rfl, hv⟩
      · exact .ro (hx.mono hkept)
      · rw [hv]
        refine .nil ?_
        simp only [newBase,Loc.at,List.nil_append,if_true]
        rw [getD_of hi, getD_of hj]
    · rw [St.put_ne _ _ er] at hR'
      have hb : ∀ p, newBase bs r sz rows cap w.heap.size (r', p) = bs (r', p) := fun p => newBase_ne _ er
      rw [hb]
      refine (h.root r' R' hR').move hkept ⟨fun b q hq => ?_, fun q => hb _⟩
      have := (h.own b _ hq).2
      refine ⟨hold b this, ?_⟩
      simp only [Own.put]; rw [if_neg (by omega)]; exact hq
  · intro r' R' hR' hbx
    by_cases er : r' = r
    · subst er
      simp only [St.put_eq,Option.some.injEq] at hR'
      subst hR'
      obtain ⟨h1, h2⟩ := hbox hbx
      exact ⟨_, by simp [newBase,h1,h2]; rfl⟩
    · rw [St.put_ne _ _ er] at hR'
      rw [newBase_ne _ er]
      exact h.box r' R' hR' hbx
  · intro b ℓ hb
    simp only [Own.put] at hb
    split at hb
    · simp only [Option.some.injEq] at hb
      subst hb
      refine ⟨fun x => x.2 rfl, ?_⟩
      rw [hheap]; simp; omega
    · have := h.own b ℓ hb
      refine ⟨fun x => this.1 x.1, ?_⟩
      rw [hheap]; simp; omega
  · intro r' hr'
    rw [St.put_ne _ _ hr'.2]
    exact h.free r' hr'.1
/-! ### taking -/
theorem dropLast_snoc {α : Type} {l : List α} {a : α} (h : l.getLast? = some a) : l.dropLast ++ [a] = l := by
  obtain ⟨ys, rfl⟩ := List.getLast?_eq_some_iff.1 h
  simp
def relab (ow : Own) (r t : Nat) (p : Path) (off len : Nat) : Own := fun b =>
  match ow b with
  | some (r', q) =>
    if r' = r ∧ p <+: q then
      match q.drop p.length with
      | [] => some (t, [])
      | (k, j) :: q' => if off ≤ k ∧ k < off + len then some (t, (k - off, j) :: q') else none
    else some (r', q)
  | none => none
def takenBase (bs : Base) (r t : Nat) (p : Path) (off sz : Nat) (v : Value) : Base := fun ℓ =>
  if ℓ.1 = t then
    match ℓ.2 with
    | [] => (sz, v)
    | (k, j) :: q => bs (r, p ++ (k + off, j) :: q)
  else bs ℓ
def takenSt (st : St) (r : Nat) (R : Root) (p : Path) : St :=
  match p.getLast? with
  | none => st.put r none
  | some (i, j) => st.put r (some { R with rows := modAt (setIn i j .dead) R.rows p.dropLast })
theorem takenSt_quiet {bs : Base} {st : St} {fr : Nat → Prop} {r : Nat} {R : Root} {p : Path} (hr : st r = some R) : Quiet bs st fr bs (takenSt st r R p) fr := by
  simp only [takenSt]
  cases p.getLast? with
  | none => exact Quiet.drop r
  | some ij => exact Quiet.same hr rfl
theorem nav_snoc : ∀ {p : Path} {sz rows i j s es}, nav sz rows (p ++ [(i, j)]) = some (s, es) → ∃ sz0 rows0, nav sz rows p = some (sz0, rows0) ∧ (rows0.getD i []).getD j .dead = .list true s es
  | [], sz, rows, i, j, s, es, h => by
    simp only [List.nil_append,nav] at h
    split at h
    · rename_i sz' es' hx
      simp only [Option.some.injEq,Prod.mk.injEq] at h
      obtain ⟨rfl, rfl⟩ := h
      exact ⟨sz, rows, rfl, hx⟩
    · cases h
  | (a, b) :: p, sz, rows, i, j, s, es, h => by
    simp only [List.cons_append,nav] at h ⊢
    split at h
    · exact nav_snoc h
    · cases h
theorem relab_other {ow : Own} {r t p off len} {b : Nat} {ℓ : Loc} (hb : ow b = some ℓ) (h : ¬ (ℓ.1 = r ∧ p <+: ℓ.2)) : relab ow r t p off len b = some ℓ := by
  obtain ⟨r', q⟩ := ℓ
  simp only [relab,hb]
  rw [if_neg h]
theorem relab_none {ow : Own} {r t p off len} {b : Nat} (hb : ow b = none) : relab ow r t p off len b = none := by simp [relab,hb]
/-- A cell of a root is told anew; memory stays. -/
theorem RepT.recell {w : World} {ow ow' : Own} {bs bs' : Base} {r : Nat} {sz rows p0 i j sz0 rows0} {y : T} (hk : Kept w ow w ow')
    (h : RepT w ow bs (r, []) (.list true sz rows) (bs (r, [])).2) (hn : VM.nav sz rows p0 = some (sz0, rows0))
    (how : ∀ b q, ow b = some (r, q) → ¬ (p0 ++ [(i, j)]) <+: q → ow' b = some (r, q)) (hbs : ∀ q, ¬ (p0 ++ [(i, j)]) <+: q → bs' (r, q) = bs (r, q))
    (hy : ∀ (a : Addr) (len cap : Nat) (c : Array Value) (e : TypeId) (z : Nat × Nat), (bs (r, p0)).2 = .slice (some a) len cap → w.heap[a.block]? = some (.cells c e z) →
      RepT w ow' bs' (r, p0 ++ [(i, j)]) y (c.getD (a.off + i * sz0 + j) undef)) :
    RepT w ow' bs' (r, []) (.list true sz (VM.modAt (setIn i j y) rows p0)) (bs (r, [])).2 := by
  have hpp : ∀ (q : Path), ¬ (p0 ++ [(i, j)]) <+: p0 ++ q ↔ ¬ [(i, j)] <+: q := fun q => by rw [List.prefix_append_right_inj]
  have hself : ¬ (p0 ++ [(i, j)]) <+: p0 := by have := (hpp []).2 (by simp); simpa using this
  refine RepT.modAt hk (setIn i j y) h hn ?_ (fun q hq => ?_) ?_
  · intro b q hq hpre
    simp only [List.nil_append] at hq
    refine ⟨rfl, (how b q hq ?_).trans hq.symm⟩
    intro hp; exact hpre ((List.prefix_append _ _).trans hp)
  · simp only [List.nil_append]
    refine hbs q (fun e => hq ⟨(List.prefix_append _ _).trans e, fun e' => ?_⟩)
    rw [← e'] at e
    exact hself e
  · simp only [List.nil_append]
    have hp := h.nav hn
    simp only [List.nil_append] at hp
    have hb := hp.base
    generalize hbv : (bs (r, p0)).2 = bv at hp hb hy ⊢
    cases hp with
    | ro h => cases h
    | nil base =>
      have : setIn i j y [] = [] := by simp [setIn]
      rw [this]
      exact .nil ((hbs _ hself).trans base)
    | @list _ a _ _ len cap c e z base spot own blk free hlen hcap fits hrows cells =>
      refine .list ((hbs _ hself).trans base) spot (how _ _ own hself) blk free (by simp [setIn,hlen]) hcap fits ?_ ?_
      · intro i' row' h'
        simp only [setIn,List.getElem?_set] at h'
        split at h'
        · split at h'
          · rename_i hi hlt
            simp only [Option.some.injEq] at h'
            subst h'
            subst i'
            have := hrows i (rows0.getD i []) (by rw [List.getD_eq_getElem?_getD, List.getElem?_eq_getElem hlt]; rfl)
            simpa using this
          · cases h'
        · exact hrows i' row' h'
      · intro i' row' j' x' h' hx'
        have keep : ∀ (i' j' : Nat) (row1 : List T) (x0 : T), rows0[i']? = some row1 → row1[j']? = some x0 → ¬ (i' = i ∧ j' = j) → RepT w ow' bs' (Loc.at (r, p0) i' j') x0 (c.getD (a.off + i' * sz0 + j') undef) := by
          intro i' j' row1 x0 h0 hx0 hne
          have hno : ∀ q, ¬ (p0 ++ [(i, j)]) <+: p0 ++ (i', j') :: q := by
            intro q
            refine (hpp _).2 ?_
            simp only [List.cons_prefix_cons,List.nil_prefix,and_true,Prod.mk.injEq]
            exact fun e => hne ⟨e.1.symm, e.2.symm⟩
          refine (cells i' row1 j' x0 h0 hx0).move hk ⟨fun b q hq => ⟨rfl, ?_⟩, fun q => ?_⟩
          · refine how b _ hq ?_
            simp only [Loc.at,List.append_assoc]
            exact hno q
          · refine hbs _ ?_
            simp only [Loc.at,List.append_assoc]
            exact hno q
        simp only [setIn,List.getElem?_set] at h'
        split at h'
        · subst i'
          split at h'
          · rename_i hlt
            simp only [Option.some.injEq] at h'
            subst h'
            have hrow : rows0[i]? = some (rows0.getD i []) := by rw [List.getD_eq_getElem?_getD, List.getElem?_eq_getElem hlt]; rfl
            rw [List.getElem?_set] at hx'
            split at hx'
            · split at hx'
              · simp only [Option.some.injEq] at hx'
                subst hx'
                subst j'
                exact hy a len cap c e z rfl blk
              · cases hx'
            · rename_i hne
              exact keep i j' _ x' hrow hx' (fun e => hne e.2.symm)
          · cases h'
        · rename_i hne
          exact keep i' j' row' x' h' hx' (fun e => hne e.1.symm)
/-- A root is told anew in one cell; memory stays. -/
theorem Rel.retype {w ow bs st fr} (h : Rel w ow bs st fr) {r R p sz rows i j} {y : T} (hr : st r = some R) (hn : nav R.sz R.rows p = some (sz, rows))
    (hy : ∀ (a : Addr) (len cap : Nat) (c : Array Value) (e : TypeId) (z : Nat × Nat), (bs (r, p)).2 = .slice (some a) len cap → w.heap[a.block]? = some (.cells c e z) →
      RepR w ow y (c.getD (a.off + i * sz + j) undef)) :
    Rel w ow bs (st.put r (some { R with rows := modAt (setIn i j y) R.rows p })) fr := by
  refine ⟨fun r' R' hR' => ?_, fun r' R' hR' hbx => ?_, h.own, fun r' hf => ?_⟩
  · by_cases er : r' = r
    · subst er
      simp only [St.put_eq,Option.some.injEq] at hR'
      subst hR'
      exact RepT.recell (Kept.refl _ _) (h.root r' R hr) hn (fun _ _ h _ => h) (fun _ _ => rfl) (fun a len cap c e z h1 h2 => .ro (hy a len cap c e z h1 h2))
    · rw [St.put_ne _ _ er] at hR'; exact h.root r' R' hR'
  · by_cases er : r' = r
    · subst er
      simp only [St.put_eq,Option.some.injEq] at hR'
      subst hR'
      exact h.box r' R hr hbx
    · rw [St.put_ne _ _ er] at hR'; exact h.box r' R' hR' hbx
  · by_cases er : r' = r
    · subst er; rw [h.free r' hf] at hr; cases hr
    · rw [St.put_ne _ _ er]; exact h.free r' hf
theorem Rel.take {w ow bs st fr} (h : Rel w ow bs st fr) {r R p sz rows} (hr : st r = some R) (hnb : p = [] → R.box = false) (hn : nav R.sz R.rows p = some (sz, rows))
    {t : Nat} (ht : fr t) {off len : Nat} {v : Value} (hv : Sub (bs (r, p)).1 (bs (r, p)).2 off len v) (hle : off + len ≤ rows.length) :
    Rel w (relab ow r t p off len) (takenBase bs r t p off sz v) ((takenSt st r R p).put t (some ⟨false, sz, (rows.drop off).take len, []⟩)) (fun x => fr x ∧ x ≠ t) ∧
    Kept w ow w (relab ow r t p off len) ∧ Quiet bs st fr (takenBase bs r t p off sz v) ((takenSt st r R p).put t (some ⟨false, sz, (rows.drop off).take len, []⟩)) (fun x => fr x ∧ x ≠ t) := by
  have hrt : r ≠ t := by intro e; rw [e, h.free t ht] at hr; cases hr
  have hkept : Kept w ow w (relab ow r t p off len) := fun b hb _ => ⟨rfl, relab_none hb⟩
  have hbs : ∀ ℓ : Loc, ℓ.1 ≠ t → takenBase bs r t p off sz v ℓ = bs ℓ := fun ℓ hne => by simp [takenBase,hne]
  have hp := (h.root r R hr).nav hn
  simp only [List.nil_append] at hp
  have hpb := hp.base
  refine ⟨⟨?_, ?_, ?_, ?_⟩, hkept, (takenSt_quiet hr).trans (Quiet.new ht hbs)⟩
  · intro r' R' hR'
    by_cases et : r' = t
    · subst et
      simp only [St.put_eq,Option.some.injEq] at hR'
      subst hR'
      have hb0 : takenBase bs r r' p off sz v (r', []) = (sz, v) := by simp [takenBase]
      rw [hb0]
      rw [hpb] at hp hv
      simp only at hp hv
      generalize hbv : (bs (r, p)).2 = bv at hp hv hpb
      cases hp with
      | ro h => cases h
      | nil base =>
        rcases hv with ⟨a, l, cap, o, cap', hx, _⟩ | ⟨l, cap, _, hl, rfl⟩
        · cases hx
        · simp only [List.drop_nil,List.take_nil]; exact .nil hb0
      | @list _ a _ _ len0 cap c e z base spot own blk free hlen hcap fits hrows cells =>
        rcases hv with ⟨a', l, cap1, o, cap', hx, rfl, ho, hfit, hle'⟩ | ⟨l, cap, hx, _⟩
        · simp only [Value.slice.injEq,Option.some.injEq] at hx
          obtain ⟨rfl, rfl, rfl⟩ := hx
          have hown : relab ow r r' p off len a.block = some (r', []) := by
            simp only [relab,own]
            rw [if_pos ⟨trivial, List.prefix_refl _⟩]
            simp
          have hget : ∀ (k : Nat) (row : List T), ((rows.drop off).take len)[k]? = some row → k < len ∧ rows[off + k]? = some row := by
            intro k row hk
            rw [List.getElem?_take] at hk
            split at hk
            · rename_i hlt
              rw [List.getElem?_drop] at hk
              exact ⟨hlt, hk⟩
            · cases hk
          refine .list hb0 rfl hown blk free (by simp; omega) hle'.1 (by simp only; omega) ?_ ?_
          · intro k row hk
            exact hrows _ _ (hget k row hk).2
          · intro k row j x hk hj
            obtain ⟨hkl, hk'⟩ := hget k row hk
            have ho : o = a.off + off * sz := by
              rcases ho with h0 | h0
              · omega
              · exact h0
            have := cells (off + k) row j x hk' hj
            have haddr : o + k * sz + j = a.off + (off + k) * sz + j := by rw [ho, Nat.add_mul]; omega
            simp only
            rw [haddr]
            refine this.move hkept ⟨fun b q hq => ⟨rfl, ?_⟩, fun q => ?_⟩
            · simp only [Loc.at,List.append_assoc,List.cons_append,List.nil_append] at hq ⊢
              simp only [relab,hq]
              rw [if_pos ⟨trivial, List.prefix_append _ _⟩]
              simp only [List.drop_left]
              rw [if_pos (by omega)]
              simp
            · simp only [Loc.at,takenBase,List.nil_append,List.cons_append,if_true,List.append_assoc,Nat.add_comm k off]
        · cases hx
    · rw [St.put_ne _ _ et] at hR'
      have hb : ∀ q, takenBase bs r t p off sz v (r', q) = bs (r', q) := fun q => hbs _ et
      rw [hb]
      by_cases er : r' = r
      · subst er
        simp only [takenSt] at hR'
        cases hl : p.getLast? with
        | none => rw [hl] at hR'; simp at hR'
        | some ij =>
          obtain ⟨i, j⟩ := ij
          rw [hl] at hR'
          simp only [St.put_eq,Option.some.injEq] at hR'
          subst hR'
          have hpl : p = p.dropLast ++ [(i, j)] := (dropLast_snoc hl).symm
          rw [hpl] at hn
          obtain ⟨sz0, rows0, hn0, _⟩ := nav_snoc hn
          refine RepT.recell hkept (h.root r' R hr) hn0 (fun b q hq hpre => ?_) (fun q _ => hb q) (fun _ _ _ _ _ _ _ _ => .ro .dead)
          rw [← hpl] at hpre
          exact relab_other hq (fun e => hpre e.2)
      · have hst : takenSt st r R p r' = st r' := by
          simp only [takenSt]
          cases p.getLast? with
          | none => exact St.put_ne _ _ er
          | some ij => exact St.put_ne _ _ er
        rw [hst] at hR'
        refine (h.root r' R' hR').move hkept ⟨fun b q hq => ⟨rfl, relab_other hq (fun e => er e.1)⟩, fun q => hb _⟩
  · intro r' R' hR' hbx
    by_cases et : r' = t
    · subst et
      simp only [St.put_eq,Option.some.injEq] at hR'
      subst hR'
      cases hbx
    · rw [St.put_ne _ _ et] at hR'
      rw [hbs _ et]
      by_cases er : r' = r
      · subst er
        simp only [takenSt] at hR'
        cases hl : p.getLast? with
        | none => rw [hl] at hR'; simp at hR'
        | some ij =>
          rw [hl] at hR'
          simp only [St.put_eq,Option.some.injEq] at hR'
          subst hR'
          exact h.box r' R hr hbx
      · have hst : takenSt st r R p r' = st r' := by
          simp only [takenSt]
          cases p.getLast? with
          | none => exact St.put_ne _ _ er
          | some ij => exact St.put_ne _ _ er
        rw [hst] at hR'
        exact h.box r' R' hR' hbx
  · intro b ℓ hb
    have hsome : ∃ ℓ0, ow b = some ℓ0 := by
      cases ho : ow b with
      | none => rw [relab_none ho] at hb; cases hb
      | some ℓ0 => exact ⟨ℓ0, rfl⟩
    obtain ⟨ℓ0, ho⟩ := hsome
    have hold := h.own b ℓ0 ho
    refine ⟨?_, hold.2⟩
    by_cases hin : ℓ0.1 = r ∧ p <+: ℓ0.2
    · obtain ⟨r0, q0⟩ := ℓ0
      simp only [relab,ho] at hb
      rw [if_pos hin] at hb
      split at hb
      · simp only [Option.some.injEq] at hb; subst hb; exact fun x => x.2 rfl
      · split at hb
        · simp only [Option.some.injEq] at hb; subst hb; exact fun x => x.2 rfl
        · cases hb
    · rw [relab_other ho hin] at hb
      simp only [Option.some.injEq] at hb
      subst hb
      exact fun x => hold.1 x.1
  · intro r' hr'
    rw [St.put_ne _ _ hr'.2]
    have hne : r' ≠ r := by intro e; rw [← e, h.free r' hr'.1] at hr; cases hr
    have hst : takenSt st r R p r' = st r' := by
      simp only [takenSt]
      cases p.getLast? with
      | none => exact St.put_ne _ _ hne
      | some ij => exact St.put_ne _ _ hne
    rw [hst]
    exact h.free r' hr'.1
/-! ### laying a list into a place -/
def laidOw (ow : Own) (t r : Nat) (p : Path) : Own := fun b =>
  match ow b with
  | some (t', q) => if t' = t then some (r, p ++ q) else some (t', q)
  | none => none
def laidBase (bs : Base) (t r : Nat) (p : Path) : Base := fun ℓ => if ℓ.1 = r ∧ p <+: ℓ.2 then bs (t, ℓ.2.drop p.length) else bs ℓ
theorem Rel.install {w ow bs st fr} (h : Rel w ow bs st fr) {r R p sz rows i j} (hr : st r = some R) (hn : nav R.sz R.rows p = some (sz, rows))
    {t : Nat} {Rt : Root} (ht : st t = some Rt) (htr : t ≠ r) {a : Addr} {len cap} (hb : (bs (r, p)).2 = .slice (some a) len cap) {c : Array Value} {e z} (hblk : w.heap[a.block]? = some (.cells c e z))
    (hcell : c.getD (a.off + i * sz + j) undef = (bs (t, [])).2) :
    Rel w (laidOw ow t r (p ++ [(i, j)])) (laidBase bs t r (p ++ [(i, j)])) ((st.put r (some { R with rows := modAt (setIn i j (.list true Rt.sz Rt.rows)) R.rows p, log := R.log ++ [p ++ [(i, j)]] })).put t none) fr ∧
    Kept w ow w (laidOw ow t r (p ++ [(i, j)])) ∧
    Quiet bs st fr (laidBase bs t r (p ++ [(i, j)])) ((st.put r (some { R with rows := modAt (setIn i j (.list true Rt.sz Rt.rows)) R.rows p, log := R.log ++ [p ++ [(i, j)]] })).put t none) fr := by
  have hkept : Kept w ow w (laidOw ow t r (p ++ [(i, j)])) := fun b hb' _ => ⟨rfl, by simp [laidOw,hb']⟩
  have hbs : ∀ ℓ : Loc, ¬ (ℓ.1 = r ∧ (p ++ [(i, j)]) <+: ℓ.2) → laidBase bs t r (p ++ [(i, j)]) ℓ = bs ℓ := fun ℓ hne => by simp only [laidBase]; rw [if_neg hne]
  have how : ∀ b ℓ, ow b = some ℓ → ℓ.1 ≠ t → laidOw ow t r (p ++ [(i, j)]) b = some ℓ := by
    intro b ℓ ho hne
    obtain ⟨r', q⟩ := ℓ
    simp only [laidOw,ho]; rw [if_neg hne]
  refine ⟨⟨?_, ?_, ?_, ?_⟩, hkept, ?_⟩
  · intro r' R' hR'
    by_cases et : r' = t
    · subst et; simp at hR'
    rw [St.put_ne _ _ et] at hR'
    by_cases er : r' = r
    · subst er
      simp only [St.put_eq,Option.some.injEq] at hR'
      subst hR'
      have hbroot : laidBase bs t r' (p ++ [(i, j)]) (r', []) = bs (r', []) := hbs _ (by simp)
      rw [hbroot]
      refine RepT.recell hkept (h.root r' R hr) hn (fun b q hq _ => how b _ hq et) (fun q hq => hbs _ (fun e => hq e.2)) (fun a2 len2 cap2 c2 e2 z2 h1 h2 => ?_)
      rw [hb] at h1
      simp only [Value.slice.injEq,Option.some.injEq] at h1
      obtain ⟨rfl, rfl, rfl⟩ := h1
      rw [hblk] at h2
      simp only [Option.some.injEq,Obj.cells.injEq] at h2
      obtain ⟨rfl, rfl, rfl⟩ := h2
      rw [hcell]
      refine (h.root t Rt ht).move hkept ⟨fun b q hq => ⟨rfl, ?_⟩, fun q => ?_⟩
      · simp only [List.nil_append] at hq
        simp only [laidOw,hq,if_true]
      · simp only [laidBase]
        rw [if_pos ⟨trivial, List.prefix_append _ _⟩]
        simp
    · rw [St.put_ne _ _ er] at hR'
      have hb' : ∀ q, laidBase bs t r (p ++ [(i, j)]) (r', q) = bs (r', q) := fun q => hbs _ (fun e => er e.1)
      rw [hb']
      exact (h.root r' R' hR').move hkept ⟨fun b q hq => ⟨rfl, how b _ hq et⟩, fun q => hb' _⟩
  · intro r' R' hR' hbx
    by_cases et : r' = t
    · subst et; simp at hR'
    rw [St.put_ne _ _ et] at hR'
    by_cases er : r' = r
    · subst er
      simp only [St.put_eq,Option.some.injEq] at hR'
      subst hR'
      rw [hbs _ (by simp)]
      exact h.box r' R hr hbx
    · rw [St.put_ne _ _ er] at hR'
      rw [hbs _ (fun e => er e.1)]
      exact h.box r' R' hR' hbx
  · intro b ℓ hb'
    cases ho : ow b with
    | none => simp [laidOw,ho] at hb'
    | some ℓ0 =>
      have hold := h.own b ℓ0 ho
      refine ⟨?_, hold.2⟩
      obtain ⟨t0, q0⟩ := ℓ0
      simp only [laidOw,ho] at hb'
      split at hb'
      · simp only [Option.some.injEq] at hb'
        subst hb'
        intro hfr
        rw [h.free r hfr] at hr; cases hr
      · simp only [Option.some.injEq] at hb'
        subst hb'
        exact hold.1
  · intro r' hr'
    have h1 : r' ≠ t := by intro e; rw [← e, h.free r' hr'] at ht; cases ht
    have h2 : r' ≠ r := by intro e; rw [← e, h.free r' hr'] at hr; cases hr
    rw [St.put_ne _ _ h1, St.put_ne _ _ h2]
    exact h.free r' hr'
  · refine Quiet.trans ⟨fun x _ => hbs _ (by simp), fun x q m hx hq hm hs => ?_, fun x R' _ h' => ?_, fun _ h => h⟩ (Quiet.drop t)
    · have key : Still st x q m ∧ ¬ (x = r ∧ (p ++ [(i, j)]) <+: q) := by
        rcases hs with h0 | ⟨R1, h1, hf⟩
        · exact absurd h0 hq
        · by_cases e : x = r
          · subst e
            simp only [St.put_eq,Option.some.injEq] at h1
            subst h1
            have hml := hm R hr
            have hq' : q.isEmpty = false := by cases q <;> simp_all
            simp only [fresh,hq',Bool.false_or,List.drop_append_of_le_length hml,List.all_append,Bool.and_eq_true,List.all_cons,List.all_nil,Bool.and_true] at hf
            refine ⟨.inr ⟨R, hr, by simp only [fresh,hq',Bool.false_or]; exact hf.1⟩, fun e2 => ?_⟩
            have := hf.2
            rw [Bool.not_eq_true'] at this
            have h3 := List.isPrefixOf_iff_prefix.2 e2.2
            rw [this] at h3
            cases h3
          · rw [St.put_ne _ _ e] at h1
            exact ⟨.inr ⟨R1, h1, hf⟩, fun e2 => e e2.1⟩
      exact ⟨key.1, hbs _ key.2⟩
    · by_cases e : x = r
      · subst e
        simp only [St.put_eq,Option.some.injEq] at h'
        subst h'
        exact ⟨R, hr, by simp⟩
      · rw [St.put_ne _ _ e] at h'; exact ⟨R', h', Nat.le_refl _⟩
end Go.VM
/- What each operation does to a frame's values and roots. Nothing is proved here. -/
namespace Go.VM
/-! ### the program's types -/
def elemT (P : Program) (t : TypeId) : Option TypeId := match P.underlying t with | some (.slice e) => if P.cellsOf e = 0 then none else some e | _ => none
def strT (P : Program) (t : TypeId) : Bool := match P.underlying t with | some .string => true | _ => false
def boolT (P : Program) (t : TypeId) : Bool := match P.underlying t with | some .bool => true | _ => false
def intT (P : Program) (t : TypeId) : Option IntKind := match P.underlying t with | some (.int k) => some k | _ => none
def hasT (P : Program) (t : TypeId) : Bool := (P.underlying t).isSome
def aggT (P : Program) (t : TypeId) : Option Bool := match P.underlying t with | some (.struct _) => if P.cellsOf t = 0 then none else some true | some (.array _ _) => none | some _ => some false | none => none
def fieldT (P : Program) (t : TypeId) (f : Nat) : Option (Nat × TypeId) :=
  match P.underlying t with
  | some (.struct fs) => (match fs[f]? with | some f => if P.cellsOf f.type = 0 then none else some (f.offset, f.type) | none => none)
  | _ => none
/-- The cells of a type's zero value. -/
def zeroAt (P : Program) : Nat → TypeId → Option (List T)
  | 0, _ => none
  | d + 1, t =>
    match P.underlying t with
    | some .bool => some [.bool false]
    | some (.int k) => some [.int k 0]
    | some .string => some [.str ⟨#[]⟩]
    | some (.slice e) => some [.list true (P.cellsOf e) []]
    | some (.struct fs) => fs.toList.foldrM (fun f acc => (zeroAt P d f.type).map (· ++ acc)) []
    | _ => none
def sameZero : T → Value → Bool
  | .bool a, .bool b => a == b
  | .int k a, .int k' b => k == k' && a == b
  | .str a, .string b => a.data == b.data
  | .list true _ [], .slice none 0 0 => true
  | _, _ => false
def zeroT (P : Program) (t : TypeId) : Option (List T) :=
  match zeroAt P 20 t, (P.info? t).bind (·.zero) with
  | some cs, some z => if cs.length == z.cells.size && (cs.zip z.cells.toList).all (fun p => sameZero p.1 p.2) && cs.length == P.cellsOf t then some cs else none
  | _, _ => none
/-! ### a frame -/
structure S where
  env : Nat → VV
  st : St
def setE (env : Nat → VV) (t : Nat) (v : VV) : Nat → VV := fun x => if x = t then v else env x
def dstE (env : Nat → VV) (t : Option Tmp) (v : VV) : Nat → VV := match t with | some t => setE env t v | none => env
theorem setE_ne (env : Nat → VV) {t x : Nat} (v) (h : x ≠ t) : setE env t v x = env x := by simp [setE,h]
/-- What an operation leaves: a value, and the roots that are others now. -/
abbrev Ups := List (Nat × Option Root)
def St.ups (st : St) : Ups → St
  | [] => st
  | (r, R) :: u => (st.put r R).ups u
structure Eff where
  v : VV
  ups : Ups
def lit : Value → VV
  | .int k n => .c (.int k n)
  | .bool b => .c (.bool b)
  | .string x => .c (.str x)
  | _ => .undef
/-- An operand, where it is of that type. -/
def ev (P : Program) (env : Nat → VV) (t : TypeId) : Operand → VV
  | .tmp i => env i
  | .const (.slice none 0 0) => (match elemT P t with | some e => .nils (P.cellsOf e) | none => .undef)
  | .const v => lit v
  | .func f => .fn f []
  | .global _ => .undef
def VV.cells : VV → List VV
  | .agg cs => cs
  | x => [x]
/-- What a cell of a place holds, as a value. -/
def cellV (r : Nat) (p : Path) (m i j : Nat) : T → VV
  | .list true sz es => .al r (p ++ [(i, j)]) m sz 0 es.length
  | .dead => .undef
  | .held _ sz es => .c (.list false sz es)
  | x => .c x
def rowV (r : Nat) (p : Path) (m i : Nat) : Nat → List T → List VV
  | _, [] => []
  | j, x :: xs => cellV r p m i j x :: rowV r p m i (j + 1) xs
def roV : T → VV
  | .list true _ _ => .undef
  | .dead => .undef
  | .held _ sz es => .c (.list false sz es)
  | x => .c x
/-- The rows at a place. -/
def seek (st : St) (r : Nat) (p : Path) (m : Nat) : Option (Root × Nat × List (List T)) :=
  match st r with
  | some R => if fresh R m p then (match nav R.sz R.rows p with | some (sz, rows) => some (R, sz, rows) | none => none) else none
  | none => none
/-- A root out of which the list at a place is taken. -/
def takenUp (R : Root) (p : Path) : Option Root :=
  match p.getLast? with
  | none => none
  | some (i, j) => some { R with rows := modAt (setIn i j .dead) R.rows p.dropLast }
/-- A value goes into memory: lists move. -/
def takeV (st : St) : VV → Option (T × Ups)
  | .c x => (match x with | .list true _ _ => none | .dead => none | x => some (x, []))
  | .nils sz => some (.list true sz [], [])
  | .al r p m sz off len =>
    match seek st r p m with
    | some (R, sz', rows) => if (p = [] → R.box = false) ∧ off + len ≤ rows.length ∧ sz = sz' then some (.list true sz ((rows.drop off).take len), [(r, takenUp R p)]) else none
    | none => none
  | _ => none
def takeVs (st : St) : List VV → Option (List T × Ups)
  | [] => some ([], [])
  | x :: xs =>
    match takeV st x with
    | some (y, u) => (match takeVs (st.ups u) xs with | some (ys, us) => some (y :: ys, u ++ us) | none => none)
    | none => none
def setCells (i : Nat) : Nat → List T → List (List T) → List (List T)
  | _, [], rows => rows
  | j, y :: ys, rows => setCells i (j + 1) ys (setIn i j y rows)
def isOwn : T → Bool
  | .list true _ _ => true
  | _ => false
/-- The places that are filled anew. -/
def filled (p : Path) (i : Nat) : Nat → List T → List Path
  | _, [] => []
  | j, y :: ys => if isOwn y then (p ++ [(i, j)]) :: filled p i (j + 1) ys else filled p i (j + 1) ys
def storeV (st : St) (r : Nat) (p : Path) (m i j : Nat) (xs : List VV) : Option Ups :=
  match seek st r p m with
  | some _ =>
    match takeVs st xs with
    | some (ys, u) =>
      match seek (st.ups u) r p m with
      | some (R, _, rows) =>
        if i < rows.length ∧ j + ys.length ≤ (rows.getD i []).length then some (u ++ [(r, some { R with rows := modAt (setCells i j ys) R.rows p, log := R.log ++ filled p i j ys })]) else none
      | none => none
    | none => none
  | none => none
/-! ### reckoning -/
def scalEq : VV → VV → Option Bool
  | .c (.int k a), .c (.int k' b) => if k = k' then some (decide (a = b)) else none
  | .c (.bool a), .c (.bool b) => some (a == b)
  | .c (.str a), .c (.str b) => some (decide (a = b))
  | _, _ => none
def rowEq : List VV → List VV → Option Bool
  | [], [] => some true
  | x :: xs, y :: ys => match scalEq x y, rowEq xs ys with | some a, some b => some (a && b) | _, _ => none
  | _, _ => none
/-- Are all fields of this struct type plain scalars, one cell each? -/
def flatF (P : Program) : Nat → List Field → Option (List TypeDesc)
  | _, [] => some []
  | i, f :: fs =>
    if f.name ≠ "_" ∧ f.offset = i then
      match P.underlying f.type with
      | some (.int k) => (flatF P (i + 1) fs).map (.int k :: ·)
      | some .string => (flatF P (i + 1) fs).map (.string :: ·)
      | some .bool => (flatF P (i + 1) fs).map (.bool :: ·)
      | _ => none
    else none
def flatT (P : Program) (t : TypeId) : Option (List TypeDesc) :=
  match P.underlying t with
  | some (.struct fs) => if P.stoodInHeld t || P.eqGuardType P.depth t then none else flatF P 0 fs.toList
  | _ => none
def fitD : List TypeDesc → List VV → Bool
  | [], [] => true
  | .int k :: ds, .c (.int k' _) :: xs => k == k' && fitD ds xs
  | .string :: ds, .c (.str _) :: xs => fitD ds xs
  | .bool :: ds, .c (.bool _) :: xs => fitD ds xs
  | _, _ => false
def binV (P : Program) (op : BinOp) (t : TypeId) : VV → VV → Option VV
  | .c (.int k a), .c (.int k' b) =>
    match op with
    | .shl => if b < 0 then none else some (.c (.int k (k.wrap (a * 2 ^ (min b.toNat k.bits)))))
    | .shr => if b < 0 then none else some (.c (.int k (a.fdiv (2 ^ (min b.toNat k.bits)))))
    | op =>
      if k ≠ k' then none else
      match op with
      | .add => some (.c (.int k (k.wrap (a + b))))
      | .sub => some (.c (.int k (k.wrap (a - b))))
      | .mul => some (.c (.int k (k.wrap (a * b))))
      | .quo => if b = 0 then none else some (.c (.int k (k.wrap (a.tdiv b))))
      | .rem => if b = 0 then none else some (.c (.int k (a.tmod b)))
      | .and => some (.c (.int k (k.wrap (BitVec.ofInt k.bits a &&& BitVec.ofInt k.bits b).toNat)))
      | .or => some (.c (.int k (k.wrap (BitVec.ofInt k.bits a ||| BitVec.ofInt k.bits b).toNat)))
      | .xor => some (.c (.int k (k.wrap (BitVec.ofInt k.bits a ^^^ BitVec.ofInt k.bits b).toNat)))
      | .eql => some (.c (.bool (decide (a = b))))
      | .neq => some (.c (.bool (!decide (a = b))))
      | .lss => some (.c (.bool (decide (a < b))))
      | .leq => some (.c (.bool (decide (a ≤ b))))
      | .gtr => some (.c (.bool (decide (b < a))))
      | .geq => some (.c (.bool (decide (b ≤ a))))
      | _ => none
  | .c (.str a), .c (.str b) =>
    match op with
    | .add => if a.size + b.size < 2 ^ 60 then some (.c (.str (a ++ b))) else none
    | .eql => some (.c (.bool (decide (a = b))))
    | .neq => some (.c (.bool (!decide (a = b))))
    | .lss => some (.c (.bool (Op.bytesLess a.toList b.toList)))
    | .leq => some (.c (.bool (Op.bytesLess a.toList b.toList || decide (a = b))))
    | .gtr => some (.c (.bool (!(Op.bytesLess a.toList b.toList || decide (a = b)))))
    | .geq => some (.c (.bool (!Op.bytesLess a.toList b.toList)))
    | _ => none
  | .c (.bool a), .c (.bool b) =>
    if boolT P t then
      match op with
      | .eql => some (.c (.bool (a == b)))
      | .neq => some (.c (.bool (!(a == b))))
      | _ => none
    else none
  | .agg xs, .agg ys =>
    match flatT P t with
    | some ds =>
      if fitD ds xs && fitD ds ys then
        match op with
        | .eql => (rowEq xs ys).map fun b => .c (.bool b)
        | .neq => (rowEq xs ys).map fun b => .c (.bool !b)
        | _ => none
      else none
    | none => none
  | _, _ => none
def unV (op : UnOp) : VV → Option VV
  | .c (.bool b) => (match op with | .not => some (.c (.bool !b)) | _ => none)
  | .c (.int k n) => (match op with | .neg => some (.c (.int k (k.wrap (0 - n)))) | _ => none)
  | _ => none
def byteRow : List T → Option UInt8
  | [.int .u8 n] => some (UInt8.ofNat n.toNat)
  | _ => none
def bytesV (rows : List (List T)) : Option ByteArray := (rows.mapM byteRow).map fun l => ⟨l.toArray⟩
def strRows (s : ByteArray) : List (List T) := s.data.toList.map fun b => [.int .u8 b.toNat]
/-- The rows that a slice reads. -/
def rowsOf (st : St) : VV → Option (Nat × List (List T))
  | .nils sz => some (sz, [])
  | .c (.list false sz es) => some (sz, es)
  | .al r p m sz off len =>
    match seek st r p m with
    | some (_, sz', rows) => if off + len ≤ rows.length ∧ sz = sz' then some (sz, (rows.drop off).take len) else none
    | none => none
  | _ => none
/-- A list that is held may be read. -/
def unheld : VV → VV
  | .c (.held _ sz es) => .c (.list false sz es)
  | .c (.list o sz es) => .c (.list o sz es)
  | .c (.str b) => .c (.str b)
  | .c (.int k n) => .c (.int k n)
  | .c (.bool b) => .c (.bool b)
  | .c .dead => .c .dead
  | .nils sz => .nils sz
  | .al r p m sz off len => .al r p m sz off len
  | .ptr r p m i j => .ptr r p m i j
  | .agg cs => .agg cs
  | .tup cs => .tup cs
  | .rop cs => .rop cs
  | .bxv cs => .bxv cs
  | .fn f caps => .fn f caps
  | .undef => .undef
def isAl : VV → Bool
  | .al _ _ _ _ _ _ => true
  | _ => false
def hasRow : Option (Nat × List (List T)) → Bool
  | some (_, (_ :: _) :: _) => true
  | _ => false
def lenV : VV → Option Nat
  | .nils _ => some 0
  | .c (.list false _ es) => some es.length
  | .c (.str s) => some s.size
  | .al _ _ _ _ _ len => some len
  | _ => none
def i64 (n : Int) : VV := .c (.int .i64 n)
/-! ### the operations -/
def loadV (P : Program) (st : St) (t : TypeId) : VV → Option VV
  | .ptr r p m i j =>
    match seek st r p m with
    | some (R, _, rows) =>
      if i < rows.length then
        let row := rows.getD i []
        match aggT P t with
        | some true => if j + P.cellsOf t ≤ row.length then some (.agg (rowV r p R.log.length i j ((row.drop j).take (P.cellsOf t)))) else none
        | some false => if j < row.length then some (cellV r p R.log.length i j (row.getD j .dead)) else none
        | none => none
      else none
    | none => none
  | .rop cs =>
    match aggT P t with
    | some true => if P.cellsOf t ≤ cs.length then some (.agg ((cs.take (P.cellsOf t)).map roV)) else none
    | some false => (match cs with | x :: _ => some (roV x) | [] => none)
    | none => none
  | .bxv cs =>
    match aggT P t with
    | some true => if P.cellsOf t ≤ cs.length then some (.agg (cs.take (P.cellsOf t))) else none
    | some false => (match cs with | x :: _ => some x | [] => none)
    | none => none
  | _ => none
def partV (P : Program) (t : TypeId) (cs : List VV) (off : Nat) : Option VV :=
  match aggT P t with
  | some true => if off + P.cellsOf t ≤ cs.length then some (.agg ((cs.drop off).take (P.cellsOf t))) else none
  | some false => cs[off]?
  | none => none
def zeroV : T → VV
  | .list true sz [] => .nils sz
  | .list true _ _ => .undef
  | x => .c x
/-- A value whose cells we can count. -/
def VV.solid : VV → Bool
  | .undef => false
  | .tup _ => false
  | .c .dead => false
  | _ => true
/-- Parts laid over a row. -/
def fillV (place : Nat → Option (Nat × Nat)) (cells : List VV) : List (Nat × VV) → Option (List VV)
  | [] => some cells
  | (i, v) :: rest =>
    match place i with
    | none => none
    | some (off, size) =>
      if v.cells.length ≠ size ∨ off + v.cells.length > cells.length ∨ v.solid = false then none
      else fillV place (cells.take off ++ v.cells ++ cells.drop (off + v.cells.length)) rest
/-- Where a struct's fields lie: the place, the cells, the type. -/
def placesT (P : Program) (t : TypeId) : Option (List (Nat × Nat × TypeId)) :=
  match P.underlying t with
  | some (.struct fs) => if fs.toList.all (fun f => (P.info? f.type).isSome) then some (fs.toList.map fun f => (f.offset, P.cellsOf f.type, f.type)) else none
  | _ => none
/-- A bound of a slice expression. -/
def boundV : Option VV → Nat → Option Nat
  | none, d => some d
  | some (.c (.int _ n)), _ => if 0 ≤ n then some n.toNat else none
  | _, _ => none
def cutV (P : Program) (t : TypeId) (l h : Nat) : VV → Option VV
  | .c (.str s) => if strT P t then some (.c (.str (s.extract l h))) else none
  | .nils sz => if elemT P t ≠ none then some (.nils sz) else none
  | .c (.list false sz es) => (match elemT P t with | some e => if P.cellsOf e = sz then some (.c (.list false sz ((es.drop l).take (h - l)))) else none | none => none)
  | .al r p m sz off _ => (match elemT P t with | some e => if P.cellsOf e = sz then some (.al r p m sz (off + l) (h - l)) else none | none => none)
  | _ => none
def sliceV (P : Program) (t : TypeId) (x : VV) (lo hi : Option VV) : Option VV :=
  match boundV lo 0, lenV x with
  | some l, some len => (match boundV hi len with | some h => if l ≤ h ∧ h ≤ len then cutV P t l h x else none | none => none)
  | _, _ => none
def indexAddrV (P : Program) (t : TypeId) : VV → VV → Option VV
  | .al r p m sz off len, .c (.int _ n) =>
    (match elemT P t with | some e => if P.cellsOf e = sz ∧ 0 ≤ n ∧ n < len then some (.ptr r p m (off + n.toNat) 0) else none | none => none)
  | .c (.list false sz es), .c (.int _ n) =>
    (match elemT P t with | some e => if P.cellsOf e = sz ∧ 0 ≤ n ∧ n < es.length then some (.rop (es.getD n.toNat [])) else none | none => none)
  | _, _ => none
def plainT : T → Bool
  | .list true _ _ => false
  | .dead => false
  | _ => true
def noOwn (rows : List (List T)) : Bool := rows.all fun r => r.all plainT
/-- The greatest size of a row that we follow, in bytes. -/
def bigRow : Nat := 2 ^ 44
/-- Nothing of the row stands behind the slice. -/
def atEnd (st : St) : VV → Bool
  | .al r p m _ off len => (match seek st r p m with | some (_, _, rows) => off + len == rows.length | none => false)
  | _ => true
def appendV (P : Program) (fid : Nat) (st : St) (sT xT : TypeId) (s x : VV) : Option Eff :=
  match elemT P sT with
  | none => none
  | some e =>
    match (match x with | .c (.str b) => if strT P xT && P.cellsOf e == 1 then some (1, strRows b) else none | x => if elemT P xT = none then none else rowsOf st x) with
    | none => none
    | some (szx, xs) =>
      if szx ≠ P.cellsOf e ∨ noOwn xs = false ∨ zeroT P e = none ∨ atEnd st s = false then none else
      match takeV st s with
      | some (.list true sz ys, u) =>
        if sz ≠ P.cellsOf e ∨ (ys.length + xs.length + 1) * (P.bytesOf e + 1) > bigRow then none
        else some ⟨.al fid [] 0 sz 0 (ys.length + xs.length), u ++ [(fid, some ⟨false, sz, ys ++ xs, []⟩)]⟩
      | _ => none
/-- Rows that are put over others, from a place on. -/
def putRows : Nat → List (List T) → List (List T) → List (List T)
  | _, [], rows => rows
  | i, x :: xs, rows => putRows (i + 1) xs (setCells i 0 x rows)
def copyV (P : Program) (st : St) (dT sT : TypeId) (d x : VV) : Option Eff :=
  match elemT P dT with
  | none => none
  | some e =>
    if elemT P sT = none then none else
    match d, rowsOf st x with
    | .al r p m sz off len, some (szx, xs) =>
      match seek st r p m with
      | some (R, sz', rows) =>
        if szx = P.cellsOf e ∧ sz = szx ∧ sz' = sz ∧ sz ≤ 1000 ∧ off + len ≤ rows.length ∧ noOwn xs = true then
          some ⟨i64 ((min xs.length len : Nat) : Int), [(r, some { R with rows := modAt (putRows off (xs.take (min xs.length len))) R.rows p })]⟩
        else none
      | none => none
    | _, _ => none
def lenOk (P : Program) (t : TypeId) : VV → Bool
  | .c (.str _) => strT P t
  | _ => (elemT P t).isSome
def builtinV (P : Program) (fid : Nat) (env : Nat → VV) (st : St) (c : Call) : Option Eff :=
  match c.callee with
  | .builtin b =>
    match b, c.args.toList, c.argTypes.toList with
    | .len, [x], [t] => if lenOk P t (unheld (ev P env t x)) then (lenV (unheld (ev P env t x))).map fun (n : Nat) => ⟨i64 (n : Int), []⟩ else none
    | .append, [s, x], [sT, xT] => appendV P fid st sT xT (ev P env sT s) (ev P env xT x)
    | .copy, [s, x], [sT, xT] => copyV P st sT xT (ev P env sT s) (ev P env xT x)
    | .max, [x, y], _ => (match ev P env 0 x, ev P env 0 y with | .c (.int .i64 a), .c (.int .i64 b) => some ⟨i64 (if b > a then b else a), []⟩ | _, _ => none)
    | .min, [x, y], _ => (match ev P env 0 x, ev P env 0 y with | .c (.int .i64 a), .c (.int .i64 b) => some ⟨i64 (if b < a then b else a), []⟩ | _, _ => none)
    | _, _, _ => none
  | _ => none
def vop (P : Program) (fid : Nat) (o : Oper) (env : Nat → VV) (st : St) : Option Eff :=
  match o.op with
  | .move x | .assign x => some ⟨ev P env o.type x, []⟩
  | .pick c a b => (match ev P env 0 c with | .c (.bool t) => some ⟨if t then ev P env o.type a else ev P env o.type b, []⟩ | _ => none)
  | .nilCheck x => (match ev P env 0 x with | .ptr r p m i j => some ⟨.ptr r p m i j, []⟩ | .rop cs => some ⟨.rop cs, []⟩ | .fn f cs => some ⟨.fn f cs, []⟩ | _ => none)
  | .alloc e => (match zeroT P e with | some z => some ⟨.ptr fid [] 0 0 0, [(fid, some ⟨true, z.length, [z], []⟩)]⟩ | none => none)
  | .box e x =>
    match takeVs st (ev P env e x).cells with
    | some (ys, u) => if ys.length ≤ 1000 then some ⟨.ptr fid [] 0 0 0, u ++ [(fid, some ⟨true, ys.length, [ys], []⟩)]⟩ else none
    | none => none
  | .build t parts =>
    match zeroT P t, placesT P t with
    | some z, some pl =>
      (fillV (fun i => (pl[i]?).map fun q => (q.1, q.2.1)) (z.map zeroV) (parts.toList.map fun q => (q.1, ev P env (((pl[q.1]?).map fun q => q.2.2).getD 0) q.2))).map fun cs => ⟨.agg cs, []⟩
    | _, _ => none
  | .buildSlice t len parts =>
    match elemT P t with
    | some e =>
      match zeroT P e with
      | some z =>
        if len * P.cellsOf e > 1000 then none else
        match fillV (fun i => some (i * P.cellsOf e, P.cellsOf e)) ((List.replicate len (z.map zeroV)).flatten) (parts.toList.map fun q => (q.1, ev P env e q.2)) with
        | some cs =>
          match takeVs st cs with
          | some (ys, u) => some ⟨.al fid [] 0 (P.cellsOf e) 0 len, u ++ [(fid, some ⟨false, P.cellsOf e, (List.range len).map fun i => (ys.drop (i * P.cellsOf e)).take (P.cellsOf e), []⟩)]⟩
          | none => none
        | none => none
      | none => none
    | none => none
  | .load t a => (loadV P st t (ev P env 0 a)).map fun v => ⟨v, []⟩
  | .store t a x =>
    match ev P env 0 a with
    | .ptr r p m i j =>
      let xs := (ev P env t x).cells
      if xs.length = P.cellsOf t ∧ P.cellsOf t ≠ 0 ∧ P.cellsOf t ≤ 1000 then (storeV st r p m i j xs).map fun u => ⟨.undef, u⟩ else none
    | _ => none
  | .binOp op t x y _ => (binV P op t (ev P env t x) (ev P env t y)).map fun v => ⟨v, []⟩
  | .unOp op _ x => (unV op (ev P env 0 x)).map fun v => ⟨v, []⟩
  | .convert s t x =>
    if hasT P s = false then none else
    match ev P env s x with
    | .c (.int _ n) => (match intT P t with | some k => some ⟨.c (.int k (k.wrap n)), []⟩ | none => none)
    | .c (.str b) =>
      if strT P t then some ⟨.c (.str b), []⟩ else
      (match elemT P t with | some e => if intT P e = some .u8 ∧ P.cellsOf e = 1 then some ⟨.al fid [] 0 1 0 b.size, [(fid, some ⟨false, 1, strRows b, []⟩)]⟩ else none | none => none)
    | x =>
      if strT P t then
        (match elemT P s with
         | some e => if intT P e = some .u8 then (match rowsOf st x with | some (1, rows) => (bytesV rows).map fun b => ⟨.c (.str b), []⟩ | _ => none) else none
         | none => none)
      else
        (match elemT P s with
         | some e => if s = t ∧ intT P e = some .u8 ∧ isAl x = true ∧ hasRow (rowsOf st x) = true then some ⟨x, []⟩ else none
         | none => none)
  | .makeSlice t l c =>
    match elemT P t, ev P env 0 l, ev P env 0 c with
    | some e, .c (.int _ n), .c (.int _ k) =>
      (match zeroT P e with
       | some z => if 0 ≤ n ∧ n ≤ k ∧ k * (P.bytesOf e + 1) ≤ bigRow then some ⟨.al fid [] 0 (P.cellsOf e) 0 n.toNat, [(fid, some ⟨false, P.cellsOf e, List.replicate n.toNat z, []⟩)]⟩ else none
       | none => none)
    | _, _, _ => none
  | .slice t x lo hi none => (sliceV P t (unheld (ev P env t x)) (lo.map (ev P env 0)) (hi.map (ev P env 0))).map fun v => ⟨v, []⟩
  | .fieldAddr t x f =>
    match fieldT P t f, ev P env 0 x with
    | some (off, _), .ptr r p m i j => some ⟨.ptr r p m i (j + off), []⟩
    | some (off, _), .rop cs => if off ≥ cs.length then none else some ⟨.rop (cs.drop off), []⟩
    | some (off, _), .bxv cs => if off ≥ cs.length then none else some ⟨.bxv (cs.drop off), []⟩
    | _, _ => none
  | .field t x f =>
    match fieldT P t f, ev P env t x with
    | some (off, ft), .agg cs => (partV P ft cs off).map fun v => ⟨v, []⟩
    | _, _ => none
  | .indexAddr t x i => (indexAddrV P t (unheld (ev P env t x)) (ev P env 0 i)).map fun v => ⟨v, []⟩
  | .index t x i =>
    match ev P env t x, ev P env 0 i with
    | .c (.str s), .c (.int _ n) => if strT P t ∧ 0 ≤ n ∧ n < s.size then some ⟨.c (.int .u8 (s.data.toList.getD n.toNat 0).toNat), []⟩ else none
    | _, _ => none
  | .extract x i =>
    match ev P env 0 x with
    | .tup vs => (vs[i]?).map fun v => ⟨v, []⟩
    | _ => none
  | .call c => builtinV P fid env st c
  | _ => none
end Go.VM
/- The operations that only reckon: what the machine computes is what the frame's values tell. -/
namespace Go.VM
def RelE (w : World) (ow : Own) (bs : Base) (st : St) (fr : Nat → Prop) (env : Nat → VV) (a : Act) : Prop := ∀ t, RelV w ow bs st fr (env t) (a.tmps.getD t undef)
/-- An operation's run: a value, memory, and what they stand for. -/
def Does (w : World) (ow : Own) (bs : Base) (st : St) (fr fr' : Nat → Prop) (r : Result Next) (v : VV) (st' : St) : Prop :=
  ∃ val w' ow' bs', (r = .ok (.value val) w' ∨ (r = .ok .skip w' ∧ val = undef)) ∧ Rel w' ow' bs' st' fr' ∧ RelV w' ow' bs' st' fr' v val ∧ Steady w ow w' ow' ∧ Quiet bs st fr bs' st' fr'
theorem Rel.shrink {w ow bs st fr fr'} (h : Rel w ow bs st fr) (hf : ∀ r, fr' r → fr r) : Rel w ow bs st fr' :=
  ⟨h.root, h.box, fun b ℓ hb => ⟨fun x => (h.own b ℓ hb).1 (hf _ x), (h.own b ℓ hb).2⟩, fun r hr => h.free r (hf r hr)⟩
theorem Quiet.shrink {bs st fr fr'} (hf : ∀ r, fr' r → fr r) : Quiet bs st fr bs st fr' :=
  ⟨fun _ _ => rfl, fun _ _ _ _ _ _ h => ⟨h, rfl⟩, fun _ R' _ h => ⟨R', h, Nat.le_refl _⟩, hf⟩
theorem Does.pure {w ow bs st} {fr fr' : Nat → Prop} {r : Result Next} {v : VV} {val : Value} (hr : Rel w ow bs st fr) (hf : ∀ r, fr' r → fr r) (h : r = .ok (.value val) w) (hv : RelV w ow bs st fr v val) :
    Does w ow bs st fr fr' r v st :=
  ⟨val, w, ow, bs, .inl h, hr.shrink hf, hv.mono (Kept.refl _ _) (Quiet.shrink hf), Steady.refl _ _, Quiet.shrink hf⟩
theorem lit_rel {w ow bs st fr} (v : Value) : RelV w ow bs st fr (lit v) v := by
  cases v <;> simp only [lit] <;> first | exact .undef | exact .c .int | exact .c .bool | exact .c .str
theorem ev_rel {P : Program} {w ow bs st fr} {env : Nat → VV} {a : Act} (he : RelE w ow bs st fr env a) (t : TypeId) (x : Operand) : RelV w ow bs st fr (ev P env t x) (a.eval x) := by
  cases x with
  | tmp i => exact he i
  | const v =>
    simp only [Act.eval]
    cases v with
    | slice b l c =>
      cases b with
      | none =>
        by_cases h : l = 0 ∧ c = 0
        · obtain ⟨rfl, rfl⟩ := h
          simp only [ev]
          split
          · exact .nils
          · exact .undef
        · have : ev P env t (.const (.slice none l c)) = .undef := by
            cases l with
            | zero =>
              cases c with
              | zero => exact absurd ⟨rfl, rfl⟩ h
              | succ c => simp [ev,lit]
            | succ l => simp [ev,lit]
          rw [this]; exact .undef
      | some b => simp only [ev,lit]; exact .undef
    | _ => simp only [ev]; exact lit_rel _
  | global g => exact .undef
  | func f => exact .fn (caps := []) (vs := #[]) rfl (fun k cs h => by simp at h)
/-- What a plain scalar stands for. -/
theorem rel_int {w ow bs st fr k n v} (h : RelV w ow bs st fr (.c (.int k n)) v) : v = .int k n := by
  cases h with | c h => cases h; rfl
theorem rel_bool {w ow bs st fr b v} (h : RelV w ow bs st fr (.c (.bool b)) v) : v = .bool b := by
  cases h with | c h => cases h; rfl
theorem rel_str {w ow bs st fr s v} (h : RelV w ow bs st fr (.c (.str s)) v) : v = .string s := by
  cases h with | c h => cases h; rfl
theorem info_of_cells {P : Program} {t : TypeId} (h : P.cellsOf t ≠ 0) : ∃ i, P.info? t = some i := by
  unfold Program.cellsOf at h
  cases hi : P.info? t with
  | none => rw [hi] at h; simp at h
  | some i => exact ⟨i, rfl⟩
theorem elemT_some {P : Program} {t e : TypeId} (h : elemT P t = some e) : P.underlying t = some (.slice e) ∧ P.cellsOf e ≠ 0 := by
  simp only [elemT] at h
  split at h
  · split at h
    · cases h
    · simp only [Option.some.injEq] at h; subst h; exact ⟨by assumption, by assumption⟩
  · cases h
theorem strT_true {P : Program} {t : TypeId} (h : strT P t = true) : P.underlying t = some .string := by
  simp only [strT] at h
  split at h <;> simp_all
theorem boolT_true {P : Program} {t : TypeId} (h : boolT P t = true) : P.underlying t = some .bool := by
  simp only [boolT] at h
  split at h <;> simp_all
theorem intT_some {P : Program} {t : TypeId} {k : IntKind} (h : intT P t = some k) : P.underlying t = some (.int k) := by
  simp only [intT] at h
  split at h <;> simp_all
theorem fieldT_some {P : Program} {t f off ft} (h : fieldT P t f = some (off, ft)) : ∃ fs fd, P.underlying t = some (.struct fs) ∧ fs[f]? = some fd ∧ fd.offset = off ∧ fd.type = ft ∧ P.cellsOf ft ≠ 0 := by
  simp only [fieldT] at h
  split at h
  · rename_i fs hu
    split at h
    · rename_i fd hfd
      split at h
      · cases h
      · simp only [Option.some.injEq,Prod.mk.injEq] at h
        exact ⟨fs, fd, hu, hfd, h.1, h.2, by rw [← h.2]; assumption⟩
    · cases h
  · cases h
theorem isAgg_true {P : Program} {t : TypeId} (h : aggT P t = some true) (w : World) : (isAgg t).run P w = .ok true w ∧ P.cellsOf t ≠ 0 := by
  simp only [aggT] at h
  split at h
  · rename_i fs hu
    split at h
    · cases h
    · exact ⟨by simp [isAgg,run_underlying hu], by assumption⟩
  · cases h
  · cases h
  · cases h
theorem isAgg_false {P : Program} {t : TypeId} (h : aggT P t = some false) (w : World) : (isAgg t).run P w = .ok false w := by
  simp only [aggT] at h
  split at h
  · split at h <;> cases h
  · cases h
  · rename_i d h1 h2 hu
    simp only [isAgg,Sem.run_bind,run_underlying hu,Result.andThen_ok]
    cases d <;> first | rfl | exact absurd rfl (h1 _) | exact absurd rfl (h2 _ _)
  · cases h
theorem sizeOf_run {P : Program} {t : TypeId} (h : P.cellsOf t ≠ 0) (w : World) : (sizeOf t).run P w = .ok (P.cellsOf t) w := by
  obtain ⟨i, hi⟩ := info_of_cells h
  exact run_sizeOf w hi
theorem beq_bytes (a b : ByteArray) : (a == b) = decide (a = b) := by
  rw [Bool.eq_iff_iff, MapKept.bytes_beq]; simp
theorem toList_beq (a b : ByteArray) : (a.toList == b.toList) = decide (a = b) := by
  rw [← beq_toListBytes, beq_bytes]
/-! ### reckoning -/
theorem does_of {w ow bs st} {fr fr' : Nat → Prop} {v : VV} {val : Value} {s : Sem Value} {P : Program} (hr : Rel w ow bs st fr) (hf : ∀ r, fr' r → fr r) (h : s.run P w = .ok val w) (hv : RelV w ow bs st fr v val) :
    Does w ow bs st fr fr' ((do pure (Next.value (← s)) : Sem Next).run P w) v st :=
  Does.pure hr hf (by simp [h]) hv
theorem part_scalar {P : Program} (w : World) {t : TypeId} {d : TypeDesc} (hu : P.underlying t = some d) (hd : ∀ fs, d ≠ .struct fs) (hd2 : ∀ n e, d ≠ .array n e) {vs : Array Value} {k : Nat} {v : Value} (hk : k < vs.size) (hv : vs.getD k undef = v) :
    (part t vs k).run P w = .ok v w := by
  have h1 : (isAgg t).run P w = .ok false w := by
    simp only [isAgg,Sem.run_bind,run_underlying hu,Result.andThen_ok]
    cases d <;> first | rfl | exact absurd rfl (hd _) | exact absurd rfl (hd2 _ _)
  have h2 : vs[k]? = some v := by
    rw [Array.getD_eq_getD_getElem?, Array.getElem?_eq_getElem hk] at hv
    rw [Array.getElem?_eq_getElem hk]; simpa using hv
  simp [part,h1,h2]
theorem scal_run {P : Program} (w : World) {ow bs st fr} {t : TypeId} {d : TypeDesc} {ds : List TypeDesc} {x y : VV} {xs ys : List VV} {vx vy : Value} {b : Bool} (hu : P.underlying t = some d)
    (hx : fitD (d :: ds) (x :: xs) = true) (hy : fitD (d :: ds) (y :: ys) = true) (rx : RelV w ow bs st fr x vx) (ry : RelV w ow bs st fr y vy) (hb : scalEq x y = some b) (n : Nat) :
    (Op.equalIn (n + 1) t vx vy).run P w = .ok b w ∧ (∀ fs, d ≠ .struct fs) ∧ (∀ n e, d ≠ .array n e) := by
  cases d <;> try (simp [fitD] at hx; done)
  case bool =>
    cases x <;> try (simp [fitD] at hx; done)
    cases y <;> try (simp [fitD] at hy; done)
    rename_i x y
    cases x <;> try (simp [fitD] at hx; done)
    cases y <;> try (simp [fitD] at hy; done)
    simp only [scalEq,Option.some.injEq] at hb
    subst hb
    rw [rel_bool rx, rel_bool ry]
    exact ⟨run_equalIn_bool' w n t _ _ hu, by simp, by simp⟩
  case int k =>
    cases x <;> try (simp [fitD] at hx; done)
    cases y <;> try (simp [fitD] at hy; done)
    rename_i x y
    cases x <;> try (simp [fitD] at hx; done)
    cases y <;> try (simp [fitD] at hy; done)
    rename_i k1 n1 k2 n2
    simp only [fitD,Bool.and_eq_true,beq_iff_eq] at hx hy
    obtain ⟨rfl, _⟩ := hx
    obtain ⟨rfl, _⟩ := hy
    simp only [scalEq,if_true,Option.some.injEq] at hb
    subst hb
    rw [rel_int rx, rel_int ry]
    refine ⟨?_, by simp, by simp⟩
    rw [run_equalIn_int w n t k k _ _ hu]
    congr 1
  case string =>
    cases x <;> try (simp [fitD] at hx; done)
    cases y <;> try (simp [fitD] at hy; done)
    rename_i x y
    cases x <;> try (simp [fitD] at hx; done)
    cases y <;> try (simp [fitD] at hy; done)
    simp only [scalEq,Option.some.injEq] at hb
    subst hb
    rw [rel_str rx, rel_str ry]
    refine ⟨?_, by simp, by simp⟩
    rw [run_equalIn_string w n t _ _ hu, toList_beq]
theorem fitD_tail {d : TypeDesc} {ds : List TypeDesc} {x : VV} {xs : List VV} (h : fitD (d :: ds) (x :: xs) = true) : fitD ds xs = true := by
  cases d <;> try (simp [fitD] at h; done)
  all_goals
    cases x <;> try (simp [fitD] at h; done)
    rename_i x
    cases x <;> try (simp [fitD] at h; done)
    simp only [fitD,Bool.and_eq_true] at h
    first | exact h | exact h.2
theorem eqFields_run {P : Program} (w : World) {ow bs st fr} : ∀ (fs : List Field) (n : Nat) (ds : List TypeDesc) (xs ys : List VV) (vx vy : Array Value) (b : Bool),
    flatF P n fs = some ds → fitD ds xs = true → fitD ds ys = true → rowEq xs ys = some b →
    (∀ (k : Nat) (x : VV), xs[k]? = some x → RelV w ow bs st fr x (vx.getD (n + k) undef)) → (∀ (k : Nat) (x : VV), ys[k]? = some x → RelV w ow bs st fr x (vy.getD (n + k) undef)) →
    n + xs.length = vx.size → n + ys.length = vy.size →
    (Op.eqFields 9999 vx vy fs).run P w = .ok b w
  | [], n, ds, xs, ys, vx, vy, b, hm, hx, hy, hb, _, _, _, _ => by
    simp only [flatF,Option.some.injEq] at hm
    subst hm
    cases xs with
    | nil =>
      cases ys with
      | nil => simp only [rowEq,Option.some.injEq] at hb; subst hb; simp [Op.eqFields]
      | cons y ys => simp [fitD] at hy
    | cons x xs => simp [fitD] at hx
  | f :: fs, n, ds, xs, ys, vx, vy, b, hm, hx, hy, hb, rx, ry, lx, ly => by
    simp only [flatF] at hm
    split at hm
    · rename_i hc
      obtain ⟨h1, h2⟩ := hc
      obtain ⟨d, ds', hu, rfl, hm'⟩ : ∃ d ds', P.underlying f.type = some d ∧ ds = d :: ds' ∧ flatF P (n + 1) fs = some ds' := by
        split at hm
        all_goals first
          | (rw [Option.map_eq_some_iff] at hm; obtain ⟨ds', e1, e2⟩ := hm; exact ⟨_, ds', by assumption, e2.symm, e1⟩)
          | cases hm
      cases xs with
      | nil => cases d <;> simp [fitD] at hx
      | cons x xs =>
        cases ys with
        | nil => cases d <;> simp [fitD] at hy
        | cons y ys =>
          simp only [rowEq] at hb
          cases hs : scalEq x y with
          | none => rw [hs] at hb; simp at hb
          | some b1 =>
            cases hr : rowEq xs ys with
            | none => rw [hs, hr] at hb; simp at hb
            | some b2 =>
              rw [hs, hr] at hb
              simp only [Option.some.injEq] at hb
              have r1 := rx 0 x (by simp)
              have r2 := ry 0 y (by simp)
              simp only [Nat.add_zero] at r1 r2
              obtain ⟨e1, e2, e3⟩ := scal_run w hu hx hy r1 r2 hs 9998
              have ih := eqFields_run w fs (n + 1) ds' xs ys vx vy b2 hm' (fitD_tail hx) (fitD_tail hy) hr
                (fun k x hk => by have := rx (k + 1) x (by simpa using hk); rwa [show n + 1 + k = n + (k + 1) from by omega])
                (fun k y hk => by have := ry (k + 1) y (by simpa using hk); rwa [show n + 1 + k = n + (k + 1) from by omega])
                (by simp only [List.length_cons] at lx; omega) (by simp only [List.length_cons] at ly; omega)
              simp only [Op.eqFields,h1,ne_eq,not_false_eq_true,if_true,Sem.run_bind,h2]
              simp only [List.length_cons] at lx ly
              rw [part_scalar w hu e2 e3 (by omega) rfl, Result.andThen_ok, part_scalar w hu e2 e3 (by omega) rfl, Result.andThen_ok, e1, Result.andThen_ok]
              subst hb
              cases b1
              · simp
              · simp only [Bool.not_true,Bool.false_eq_true,if_false,Bool.true_and]; exact ih
    · cases hm
theorem binV_run {P : Program} {w ow bs st fr} {op : BinOp} {t : TypeId} {x y z : VV} {vx vy : Value} {ox oy : Operand} (rx : RelV w ow bs st fr x vx) (ry : RelV w ow bs st fr y vy) (h : binV P op t x y = some z) :
    ∃ v, (do eqGuard op t ox oy vx vy; binOp op t vx vy : Sem Value).run P w = .ok v w ∧ RelV w ow bs st fr z v := by
  unfold binV at h
  split at h
  · rename_i k a k' b
    rw [rel_int rx, rel_int ry]
    have hg : (eqGuard op t ox oy (.int k a) (.int k' b)).run P w = .ok () w := by cases op <;> simp [eqGuard]
    simp only [Sem.run_bind,hg,Result.andThen_ok]
    by_cases hk : k = k'
    · subst hk
      cases op <;> simp only [ne_eq,not_true_eq_false,if_false] at h <;> (try split at h) <;> first
        | (cases h; done)
        | (simp only [Option.some.injEq] at h; subst h; refine ⟨_, ?_, .c (by first | exact .int | exact .bool)⟩
           simp_all [binOp, Op.shift, Op.intArith, Op.intDiv, Op.intBits, Op.intCmp]; try first | rfl | (intro h'; omega))
    · cases op <;> simp only [ne_eq,hk,not_false_eq_true,if_true] at h <;> (try split at h) <;> first
        | (cases h; done)
        | (simp only [Option.some.injEq] at h; subst h; refine ⟨_, ?_, .c (by first | exact .int | exact .bool)⟩
           simp_all [binOp, Op.shift]; try first | rfl | (intro h'; omega))
  · rename_i a b
    rw [rel_str rx, rel_str ry]
    have hg : (eqGuard op t ox oy (.string a) (.string b)).run P w = .ok () w := by cases op <;> simp [eqGuard]
    simp only [Sem.run_bind,hg,Result.andThen_ok]
    cases op <;> simp only [] at h <;> (try split at h) <;> first
        | (cases h; done)
        | (simp only [Option.some.injEq] at h; subst h; refine ⟨_, ?_, .c (by first | exact .str | exact .bool)⟩
           simp only [binOp,Op.stringOp,toList_beq]
           first
             | rfl
             | (rw [if_neg (by rw [show IntKind.i64.max = 9223372036854775807 from rfl]; omega)]; rfl))
  · rename_i a b
    rw [rel_bool rx, rel_bool ry]
    have hg : (eqGuard op t ox oy (.bool a) (.bool b)).run P w = .ok () w := by cases op <;> simp [eqGuard]
    simp only [Sem.run_bind,hg,Result.andThen_ok]
    split at h
    · rename_i hu
      have hu := boolT_true hu
      cases op <;> (try simp only [] at h) <;> first
        | (cases h; done)
        | (simp only [Option.some.injEq] at h; subst h; refine ⟨_, ?_, .c .bool⟩
           simp [binOp,Op.equal,Op.maxDepth,run_equalIn_bool' w _ t _ _ hu])
    · cases h
  · rename_i xs ys
    cases rx with
    | @agg _ vx lx rx =>
      cases ry with
      | @agg _ vy ly ry =>
        split at h
        · rename_i ds hd
          split at h
          · rename_i hfit
            simp only [Bool.and_eq_true] at hfit
            simp only [flatT] at hd
            split at hd
            · rename_i fs hu
              split at hd
              · cases hd
              · rename_i hs
                simp only [Bool.or_eq_true,not_or,Bool.not_eq_true] at hs
                have hf : P.fieldsOf t = fs := by simp [Program.fieldsOf,hu]
                have hg : (eqGuard op t ox oy (.agg vx) (.agg vy)).run P w = .ok () w := run_eqGuard_agg w op t ox oy vx vy hs.2
                have key : ∀ b, rowEq xs ys = some b → (Op.equalIn 10000 t (.agg vx) (.agg vy)).run P w = .ok b w := by
                  intro b hb
                  rw [run_equalIn_struct w 9999 t vx vy (by rw [hf]; exact hu) hs.1, hf]
                  exact eqFields_run w fs.toList 0 ds xs ys vx vy b hd hfit.1 hfit.2 hb (by simpa using rx) (by simpa using ry) (by omega) (by omega)
                simp only [Sem.run_bind,hg,Result.andThen_ok]
                cases op <;> (try simp only [] at h) <;> first
                  | (cases h; done)
                  | (rw [Option.map_eq_some_iff] at h; obtain ⟨b, hb, rfl⟩ := h; refine ⟨_, ?_, .c .bool⟩
                     first
                       | (rw [run_eql_struct, key b hb]; rfl)
                       | (rw [run_neq_struct, key b hb]; rfl))
            · cases hd
          · cases h
        · cases h
  · cases h
end Go.VM
/- The operations that read memory, and those that reckon with places. -/
namespace Go.VM
theorem seek_some {st : St} {r p m R sz rows} (h : seek st r p m = some (R, sz, rows)) : st r = some R ∧ fresh R m p = true ∧ nav R.sz R.rows p = some (sz, rows) := by
  simp only [seek] at h
  split at h
  · rename_i R' hr
    split at h
    · rename_i hf
      split at h
      · rename_i sz' rows' hn
        simp only [Option.some.injEq,Prod.mk.injEq] at h
        obtain ⟨rfl, rfl, rfl⟩ := h
        exact ⟨hr, hf, hn⟩
      · cases h
    · cases h
  · cases h
theorem seek_still {st : St} {r p m R sz rows} (h : seek st r p m = some (R, sz, rows)) : Still st r p m :=
  .inr ⟨R, (seek_some h).1, (seek_some h).2.1⟩
theorem Rel.notfree {w ow bs st fr} (h : Rel w ow bs st fr) {r R} (hr : st r = some R) : ¬ fr r := by
  intro hf; rw [h.free r hf] at hr; cases hr
theorem RepT.slice {w ow bs ℓ sz es v} (h : RepT w ow bs ℓ (.list true sz es) v) : SliceOf es.length v ∧ Sub sz v 0 es.length v := by
  cases h with
  | ro h => cases h
  | nil base => exact ⟨⟨_, _, rfl, Nat.le_refl _, fun _ => ⟨rfl, rfl⟩, fun b hb => by cases hb⟩, .inr ⟨0, 0, rfl, rfl, rfl⟩⟩
  | @list _ a _ _ len cap c e fr base spot own blk free hlen hcap fits rows cells =>
    subst hlen
    refine ⟨⟨_, _, rfl, hcap, fun hb => by (cases hb), fun b hb => by (cases hb; exact spot)⟩, .inl ⟨a, _, cap, a.off, cap, rfl, ?_, .inr (by omega), Nat.le_refl _, hcap, by omega, .inr (by omega)⟩⟩
    cases a; simp only at spot; subst spot; rfl
theorem cellV_rel {w ow bs st fr} (h : Rel w ow bs st fr) {r R p i j x v} (hr : st r = some R) (hx : RepT w ow bs (r, p ++ [(i, j)]) x v) : RelV w ow bs st fr (cellV r p R.log.length i j x) v := by
  have plain : RepR w ow x v → RelV w ow bs st fr (cellV r p R.log.length i j x) v := by
    intro hx
    cases hx with
    | dead => exact .undef
    | int => exact .c .int
    | bool => exact .c .bool
    | str => exact .c .str
    | nil => exact .c .nil
    | list spot own blk hlen hcap fits rows cells => exact .c (.list spot own blk hlen hcap fits rows cells)
    | held h => exact .c h
  have owned : ∀ sz es, x = .list true sz es → RelV w ow bs st fr (cellV r p R.log.length i j x) v := by
    intro sz es e
    subst e
    have hb := hx.base
    have hs := hx.slice
    simp only [cellV]
    refine .al (h.notfree hr) (fun _ => ?_) hs.1 (fun R' h' => by rw [hr] at h'; cases h'; exact Nat.le_refl _)
    rw [hb]
    exact ⟨rfl, hs.2⟩
  cases hx with
  | ro hx => exact plain hx
  | nil base => exact owned _ _ rfl
  | list => exact owned _ _ rfl
theorem cell_of {w : World} {b o : Nat} {c : Array Value} {e z} (hb : w.heap[b]? = some (.cells c e z)) (h : o < c.size) : w.cell? ⟨b, o, none⟩ = some (c.getD o undef) := by
  simp [World.cell?,hb,Array.getElem?_eq_getElem h]
theorem add_eq (a : Addr) (k : Nat) (h : a.spot = none) : a.add k = ⟨a.block, a.off + k, none⟩ := by
  obtain ⟨b, o, s⟩ := a
  simp only at h
  subst h
  unfold Addr.add
  split
  · rename_i hk; subst hk; rfl
  · rfl
theorem rowV_get (r : Nat) (p : Path) (m i : Nat) : ∀ (xs : List T) (j k : Nat) (y : VV), (rowV r p m i j xs)[k]? = some y → ∃ x, xs[k]? = some x ∧ y = cellV r p m i (j + k) x
  | [], j, k, y, h => by simp [rowV] at h
  | x :: xs, j, 0, y, h => by
    simp only [rowV,List.getElem?_cons_zero,Option.some.injEq] at h
    exact ⟨x, by simp, by simpa using h.symm⟩
  | x :: xs, j, k + 1, y, h => by
    simp only [rowV,List.getElem?_cons_succ] at h
    obtain ⟨x', h1, h2⟩ := rowV_get r p m i xs (j + 1) k y h
    exact ⟨x', by simpa using h1, by rw [h2, show j + 1 + k = j + (k + 1) from by omega]⟩
theorem rowV_length (r : Nat) (p : Path) (m i : Nat) : ∀ (xs : List T) (j : Nat), (rowV r p m i j xs).length = xs.length
  | [], j => rfl
  | x :: xs, j => by simp [rowV,rowV_length r p m i xs]
theorem getD_toArray_map (f : Nat → Value) (n k : Nat) (h : k < n) : (((List.range n).map f).toArray).getD k undef = f k := by
  simp [Array.getD_eq_getD_getElem?,List.getElem?_map,List.getElem?_range h]
theorem roV_rel {w ow bs st fr x v} (h : RepR w ow x v) : RelV w ow bs st fr (roV x) v := by
  cases h with
  | dead => exact .undef
  | int => exact .c .int
  | bool => exact .c .bool
  | str => exact .c .str
  | nil => exact .c .nil
  | list spot own blk hlen hcap fits rows cells => exact .c (.list spot own blk hlen hcap fits rows cells)
  | held h => exact .c h
theorem loadV_run {P : Program} {w ow bs st fr} (h : Rel w ow bs st fr) {t : TypeId} {x z : VV} {v : Value} (rx : RelV w ow bs st fr x v) (hl : loadV P st t x = some z) :
    ∃ u, (Instr.loadAt t v).run P w = .ok u w ∧ RelV w ow bs st fr z u := by
  unfold loadV at hl
  split at hl
  · rename_i r p m i j
    split at hl
    · rename_i R sz rows hs
      obtain ⟨hr, hf, hn⟩ := seek_some hs
      split at hl
      · rename_i hi
        obtain ⟨row, hrow⟩ : ∃ row, rows[i]? = some row := ⟨_, List.getElem?_eq_getElem hi⟩
        simp only [getD_of hrow] at hl
        cases rx with
        | @ptr _ _ _ _ _ _ hnf hp hv hm =>
        obtain ⟨a, l, cap, hb, rfl⟩ := hp (seek_still hs)
        cases ht : aggT P t with
        | none => rw [ht] at hl; cases hl
        | some b =>
          rw [ht] at hl
          cases b with
          | true =>
            simp only at hl
            split at hl
            · rename_i hfit
              simp only [Option.some.injEq] at hl
              subst hl
              obtain ⟨hagg, hne⟩ := isAgg_true ht w
              have cellk : ∀ k, k < P.cellsOf t → ∃ c e z', w.heap[a.block]? = some (.cells c e z') ∧ a.off + i * sz + (j + k) < c.size ∧ bs (r, p) = (sz, .slice (some a) l cap) ∧ a.spot = none ∧
                  RepT w ow bs (r, p ++ [(i, j + k)]) (row.getD (j + k) .dead) (c.getD (a.off + i * sz + (j + k)) undef) := by
                intro k hk
                have hjl : j + k < row.length := by omega
                obtain ⟨a', l', cap', c, e, z', hbs, spot, own, blk, _, _, _, _, _, hlt, hx⟩ := h.place hr hn hrow (List.getElem?_eq_getElem hjl)
                rw [hbs] at hb
                simp only [Value.slice.injEq,Option.some.injEq] at hb
                obtain ⟨rfl, rfl, rfl⟩ := hb
                refine ⟨c, e, z', blk, hlt, hbs, spot, ?_⟩
                rw [getD_of (List.getElem?_eq_getElem hjl)]
                exact hx
              obtain ⟨c, e, z', blk, _, hbs, spot, _⟩ := cellk 0 (by omega)
              rw [hbs]
              simp only
              refine ⟨.agg ((List.range (P.cellsOf t)).map fun k => c.getD (a.off + i * sz + (j + k)) undef).toArray, ?_, ?_⟩
              · have hlc := run_loadCells (P := P) w ⟨a.block, a.off + i * sz + j, none⟩ (P.cellsOf t) (fun k => c.getD (a.off + i * sz + (j + k)) undef) (fun k hk => by
                  obtain ⟨c', e', z'', blk', hlt, _, _, _⟩ := cellk k hk
                  rw [blk] at blk'
                  simp only [Option.some.injEq,Obj.cells.injEq] at blk'
                  obtain ⟨rfl, rfl, rfl⟩ := blk'
                  rw [add_eq _ _ rfl]
                  simp only
                  rw [show a.off + i * sz + j + k = a.off + i * sz + (j + k) from by omega]
                  exact cell_of blk hlt)
                simp [Instr.loadAt,Instr.sureAddr,loadVar,hagg,sizeOf_run hne,hlc]
              · refine .agg (by simp [rowV_length]; omega) (fun k y hk => ?_)
                obtain ⟨x, hx, rfl⟩ := rowV_get _ _ _ _ _ _ _ _ hk
                have hkl : k < P.cellsOf t := by
                  have := lt_of_getl hx
                  simp only [List.length_take,List.length_drop] at this; omega
                rw [List.getElem?_take, if_pos hkl, List.getElem?_drop] at hx
                obtain ⟨c', e', z'', blk', hlt, _, _, hrep⟩ := cellk k hkl
                rw [blk] at blk'
                simp only [Option.some.injEq,Obj.cells.injEq] at blk'
                obtain ⟨rfl, rfl, rfl⟩ := blk'
                rw [getD_of hx] at hrep
                rw [getD_toArray_map _ _ _ hkl]
                exact cellV_rel h hr hrep
            · cases hl
          | false =>
            simp only at hl
            split at hl
            · rename_i hj
              simp only [Option.some.injEq] at hl
              subst hl
              have hjg := List.getElem?_eq_getElem hj
              obtain ⟨a', l', cap', c, e, z', hbs, spot, own, blk, _, _, _, _, _, hlt, hx⟩ := h.place hr hn hrow hjg
              rw [hbs] at hb
              simp only [Value.slice.injEq,Option.some.injEq] at hb
              obtain ⟨rfl, rfl, rfl⟩ := hb
              rw [hbs]
              simp only
              refine ⟨c.getD (a'.off + i * sz + j) undef, ?_, ?_⟩
              · simp [Instr.loadAt,Instr.sureAddr,loadVar,isAgg_false ht w,cell_of blk hlt]
              · rw [getD_of hjg]
                exact cellV_rel h hr hx
            · cases hl
      · cases hl
    · cases hl
  · rename_i cs
    cases rx with
    | @rop _ a c e z' spot own blk fits cells =>
    cases ht : aggT P t with
    | none => rw [ht] at hl; cases hl
    | some b =>
      rw [ht] at hl
      cases b with
      | true =>
        simp only at hl
        split at hl
        · rename_i hfit
          simp only [Option.some.injEq] at hl
          subst hl
          obtain ⟨hagg, hne⟩ := isAgg_true ht w
          refine ⟨.agg ((List.range (P.cellsOf t)).map fun k => c.getD (a.off + k) undef).toArray, ?_, ?_⟩
          · have hlc := run_loadCells (P := P) w a (P.cellsOf t) (fun k => c.getD (a.off + k) undef) (fun k hk => by
              rw [add_eq _ _ spot]
              exact cell_of blk (by omega))
            simp [Instr.loadAt,Instr.sureAddr,loadVar,hagg,sizeOf_run hne,hlc]
          · refine .agg (by simp; omega) (fun k y hk => ?_)
            have hkl : k < P.cellsOf t := by have := lt_of_getl hk; simp at this; omega
            rw [List.getElem?_map, List.getElem?_take, if_pos hkl] at hk
            obtain ⟨x, hx, rfl⟩ := Option.map_eq_some_iff.1 hk
            rw [getD_toArray_map _ _ _ hkl]
            exact roV_rel (cells k x hx)
        · cases hl
      | false =>
        simp only at hl
        split at hl
        · rename_i x xs
          simp only [Option.some.injEq] at hl
          subst hl
          simp only [List.length_cons] at fits
          have hc := cells 0 x (by simp)
          simp only [Nat.add_zero] at hc
          refine ⟨c.getD a.off undef, ?_, roV_rel hc⟩
          have : w.cell? a = some (c.getD a.off undef) := by
            have := cell_of (w := w) (b := a.block) (o := a.off) blk (by omega)
            obtain ⟨b, o, s⟩ := a
            simp only at spot
            subst spot
            exact this
          simp [Instr.loadAt,Instr.sureAddr,loadVar,isAgg_false ht w,this]
        · cases hl
  · rename_i cs
    cases rx with
    | @bxv _ a c e z' spot own blk fits cells =>
    cases ht : aggT P t with
    | none => rw [ht] at hl; cases hl
    | some b =>
      rw [ht] at hl
      cases b with
      | true =>
        simp only at hl
        split at hl
        · rename_i hfit
          simp only [Option.some.injEq] at hl
          subst hl
          obtain ⟨hagg, hne⟩ := isAgg_true ht w
          refine ⟨.agg ((List.range (P.cellsOf t)).map fun k => c.getD (a.off + k) undef).toArray, ?_, ?_⟩
          · have hlc := run_loadCells (P := P) w a (P.cellsOf t) (fun k => c.getD (a.off + k) undef) (fun k hk => by
              rw [add_eq _ _ spot]
              exact cell_of blk (by omega))
            simp [Instr.loadAt,Instr.sureAddr,loadVar,hagg,sizeOf_run hne,hlc]
          · refine .agg (by simp; omega) (fun k y hk => ?_)
            have hkl : k < P.cellsOf t := by have := lt_of_getl hk; simp at this; omega
            rw [List.getElem?_take, if_pos hkl] at hk
            rw [getD_toArray_map _ _ _ hkl]
            exact cells k y hk
        · cases hl
      | false =>
        simp only at hl
        split at hl
        · rename_i x xs
          simp only [Option.some.injEq] at hl
          subst hl
          simp only [List.length_cons] at fits
          have hc := cells 0 x (by simp)
          simp only [Nat.add_zero] at hc
          refine ⟨c.getD a.off undef, ?_, hc⟩
          have : w.cell? a = some (c.getD a.off undef) := by
            have := cell_of (w := w) (b := a.block) (o := a.off) blk (by omega)
            obtain ⟨b, o, s⟩ := a
            simp only at spot
            subst spot
            exact this
          simp [Instr.loadAt,Instr.sureAddr,loadVar,isAgg_false ht w,this]
        · cases hl
  · cases hl
end Go.VM
/- The operations that reckon with places: fields, elements, slices of slices. -/
namespace Go.VM
theorem fieldPlace_run {P : Program} (w : World) (a : Addr) (f : Field) (h : P.cellsOf f.type ≠ 0) : (fieldPlace a f).run P w = .ok (a.add f.offset) w := by
  simp [fieldPlace,sizeOf_run h,h]
theorem fieldAddr_run {P : Program} {w ow bs st fr} {t f off ft} (hf : fieldT P t f = some (off, ft)) {x z : VV} {v : Value} (rx : RelV w ow bs st fr x v)
    (hz : (∃ r p m i j, x = .ptr r p m i j ∧ z = .ptr r p m i (j + off)) ∨ (∃ cs, x = .rop cs ∧ off < cs.length ∧ z = .rop (cs.drop off)) ∨ (∃ cs, x = .bxv cs ∧ off < cs.length ∧ z = .bxv (cs.drop off))) :
    ∃ u, (Instr.fieldAt t v f).run P w = .ok u w ∧ RelV w ow bs st fr z u := by
  obtain ⟨fs, fd, hu, hfd, rfl, rfl, hc⟩ := fieldT_some hf
  rcases hz with ⟨r, p, m, i, j, rfl, rfl⟩ | ⟨cs, rfl, hlt, rfl⟩ | ⟨cs, rfl, hlt, rfl⟩
  · cases rx with
    | @ptr _ _ _ _ _ _ hnf hp hv hm =>
    obtain ⟨a, rfl, hs⟩ := hv
    refine ⟨.pointer (some (a.add fd.offset)), by simp [Instr.fieldAt,run_underlying hu,hfd,Instr.sureAddr,fieldPlace_run w a fd hc], ?_⟩
    rw [add_eq _ _ hs]
    refine .ptr hnf (fun hst => ?_) ⟨_, rfl, rfl⟩ hm
    obtain ⟨b, l, cap, h1, h2⟩ := hp hst
    simp only [Value.pointer.injEq,Option.some.injEq] at h2
    subst h2
    exact ⟨b, l, cap, h1, by simp only [Nat.add_assoc]⟩
  · cases rx with
    | @rop _ a c e z' spot own blk fits cells =>
    refine ⟨.pointer (some (a.add fd.offset)), by simp [Instr.fieldAt,run_underlying hu,hfd,Instr.sureAddr,fieldPlace_run w a fd hc], ?_⟩
    rw [add_eq _ _ spot]
    refine .rop rfl own blk (by simp only [List.length_drop]; omega) (fun k y hk => ?_)
    rw [List.getElem?_drop] at hk
    simp only [Nat.add_assoc]
    exact cells _ _ hk
  · cases rx with
    | @bxv _ a c e z' spot own blk fits cells =>
    refine ⟨.pointer (some (a.add fd.offset)), by simp [Instr.fieldAt,run_underlying hu,hfd,Instr.sureAddr,fieldPlace_run w a fd hc], ?_⟩
    rw [add_eq _ _ spot]
    refine .bxv rfl own blk (by simp only [List.length_drop]; omega) (fun k y hk => ?_)
    rw [List.getElem?_drop] at hk
    simp only [Nat.add_assoc]
    exact cells _ _ hk
theorem RelV.unheld {w : World} {ow : Own} {bs : Base} {st : St} {fr : Nat → Prop} {x : VV} {v : Value} (h : RelV w ow bs st fr x v) : RelV w ow bs st fr (Go.VM.unheld x) v := by
  cases x with
  | c x =>
    cases x with
    | held v sz es =>
      cases h with
      | c h => cases h with
        | held h => exact .c h
    | _ => exact h
  | _ => exact h
theorem indexAddr_run {P : Program} {w ow bs st fr} {t : TypeId} {x y z : VV} {vx vy : Value} (rx : RelV w ow bs st fr x vx) (ry : RelV w ow bs st fr y vy) (h : indexAddrV P t x y = some z) :
    ∃ u, (Instr.indexAt t vx vy).run P w = .ok u w ∧ RelV w ow bs st fr z u := by
  unfold indexAddrV at h
  split at h
  · rename_i r p m sz off len k n
    cases he : elemT P t with
    | none => rw [he] at h; cases h
    | some e =>
      rw [he] at h
      simp only at h
      split at h
      · rename_i hc
        obtain ⟨hsz, h0, hn⟩ := hc
        simp only [Option.some.injEq] at h
        subst h
        obtain ⟨hu, hne⟩ := elemT_some he
        rw [rel_int ry]
        cases rx with
        | @al _ _ _ _ _ _ _ hnf hs hv hm =>
        obtain ⟨a, cap, rfl, hcap, hnone, hspot⟩ := hv
        cases a with
        | none => have := (hnone rfl).1; omega
        | some a =>
          have hsp := hspot a rfl
          refine ⟨.pointer (some (a.add (n.toNat * P.cellsOf e))), ?_, ?_⟩
          · simp [Instr.indexAt,asIntOf,run_underlying hu,h0,hn,sizeOf_run hne]
          · rw [add_eq _ _ hsp, hsz]
            refine .ptr hnf (fun hst => ?_) ⟨_, rfl, rfl⟩ hm
            obtain ⟨hb, hsub⟩ := hs hst
            rcases hsub with ⟨b, l, cap', o, cap'', hbv, hv, ho, _, _⟩ | ⟨l, cap', _, hl, _⟩
            · simp only [Value.slice.injEq,Option.some.injEq] at hv
              obtain ⟨rfl, _, _⟩ := hv
              refine ⟨b, l, cap', hbv, ?_⟩
              have : o = b.off + off * (bs (r, p)).1 := by
                rcases ho with h' | h'
                · omega
                · rw [hb]; exact h'
              simp only [this,hb,Nat.add_mul,Nat.add_zero,Nat.add_assoc]
            · omega
      · cases h
  · rename_i sz es k n
    cases he : elemT P t with
    | none => rw [he] at h; cases h
    | some e =>
      rw [he] at h
      simp only at h
      split at h
      · rename_i hc
        obtain ⟨hsz, h0, hn⟩ := hc
        simp only [Option.some.injEq] at h
        subst h
        obtain ⟨hu, hne⟩ := elemT_some he
        rw [rel_int ry]
        cases rx with
        | c rx =>
        cases rx with
        | nil => simp at hn; omega
        | @list a _ _ len cap c e' z' spot own blk hlen hcap fits rows cells =>
          subst hlen
          have hnl : n.toNat < es.length := by omega
          refine ⟨.pointer (some (a.add (n.toNat * P.cellsOf e))), ?_, ?_⟩
          · simp [Instr.indexAt,asIntOf,run_underlying hu,h0,hn,sizeOf_run hne]
          · have hrow := List.getElem?_eq_getElem hnl
            have hrl := rows _ _ hrow
            have hfit : (n.toNat + 1) * sz ≤ es.length * sz := Nat.mul_le_mul_right _ hnl
            rw [Nat.add_mul] at hfit
            rw [add_eq _ _ spot, hsz, getD_of hrow]
            refine .rop rfl own blk (by simp only; omega) (fun j y hj => ?_)
            exact cells _ _ j y hrow hj
      · cases h
  · cases h
theorem slice_len {w ow bs st fr} {x : VV} {v : Value} {n : Nat} (rx : RelV w ow bs st fr x v) (h : lenV x = some n) : (∃ s, x = .c (.str s) ∧ v = .string s ∧ n = s.size) ∨ (∃ a cap, v = .slice a n cap ∧ n ≤ cap) := by
  unfold lenV at h
  split at h
  · simp only [Option.some.injEq] at h; subst h
    cases rx; exact .inr ⟨_, _, rfl, Nat.le_refl _⟩
  · simp only [Option.some.injEq] at h; subst h
    cases rx with
    | c rx =>
    cases rx with
    | nil => exact .inr ⟨_, _, rfl, Nat.zero_le _⟩
    | list spot own blk hlen hcap => subst hlen; exact .inr ⟨_, _, rfl, hcap⟩
  · simp only [Option.some.injEq] at h; subst h
    exact .inl ⟨_, rfl, rel_str rx, rfl⟩
  · simp only [Option.some.injEq] at h; subst h
    cases rx with
    | al hnf hs hv hm =>
    obtain ⟨a, cap, rfl, hcap, _⟩ := hv
    exact .inr ⟨_, _, rfl, hcap⟩
  · cases h
theorem bound_run {P : Program} {w ow bs st fr} {x : VV} {v : Value} {d n : Nat} (rx : RelV w ow bs st fr x v) (h : boundV (some x) d = some n) (y : Nat) (hy : n ≤ y) (code : BoundsCode) :
    (Instr.sliceBound v y code).run P w = .ok n w := by
  unfold boundV at h
  split at h
  · rename_i heq; cases heq
  · rename_i k m heq
    simp only [Option.some.injEq] at heq
    subst heq
    split at h
    · rename_i h0
      simp only [Option.some.injEq] at h
      subst h
      rw [rel_int rx]
      have : m ≤ y := by omega
      simp [Instr.sliceBound,asIntOf,h0,this]
    · cases h
  · cases h
theorem slice_run {P : Program} {w ow bs st fr} {t : TypeId} {x z : VV} {vx : Value} {lo hi : Option VV} {vlo vhi : Option Value} (rx : RelV w ow bs st fr x vx)
    (rlo : ∀ y, lo = some y → ∃ v, vlo = some v ∧ RelV w ow bs st fr y v) (rlo' : lo = none → vlo = none) (rhi : ∀ y, hi = some y → ∃ v, vhi = some v ∧ RelV w ow bs st fr y v) (rhi' : hi = none → vhi = none)
    (hz : sliceV P t x lo hi = some z) :
    ∃ u, (Instr.sliceAt t vx vlo vhi none).run P w = .ok u w ∧ RelV w ow bs st fr z u := by
  obtain ⟨l, len, h, hl, hlen, hh, hlh, hhl, hzz⟩ : ∃ l len h, boundV lo 0 = some l ∧ lenV x = some len ∧ boundV hi len = some h ∧ l ≤ h ∧ h ≤ len ∧ cutV P t l h x = some z := by
    unfold sliceV at hz
    split at hz
    · rename_i l len h1 h2
      split at hz
      · rename_i h h3
        split at hz
        · rename_i h4
          exact ⟨l, len, h, h1, h2, h3, h4.1, h4.2, hz⟩
        · cases hz
      · cases hz
    · cases hz
  have bounds : ∀ (isSlice : Bool) (cap : Nat), len ≤ cap → (Instr.sliceBounds isSlice len cap vlo vhi none).run P w = .ok (l, h, cap) w := by
    intro isSlice cap hcap
    unfold Instr.sliceBounds
    cases hi with
    | none =>
      obtain rfl := rhi' rfl
      simp only [boundV,Option.some.injEq] at hh; subst hh
      cases lo with
      | none => obtain rfl := rlo' rfl; simp only [boundV,Option.some.injEq] at hl; subst hl; simp
      | some y =>
        obtain ⟨v, rfl, rv⟩ := rlo y rfl
        simp [bound_run rv hl _ hlh]
    | some y2 =>
      obtain ⟨v2, rfl, rv2⟩ := rhi y2 rfl
      cases lo with
      | none =>
        obtain rfl := rlo' rfl; simp only [boundV,Option.some.injEq] at hl; subst hl
        simp [bound_run rv2 hh cap (by omega)]
      | some y =>
        obtain ⟨v, rfl, rv⟩ := rlo y rfl
        simp [bound_run rv2 hh cap (by omega),bound_run rv hl _ hlh]
  clear hz
  have hz := hzz
  clear hzz
  unfold cutV at hz
  split at hz
  · rename_i s
    split at hz
    · rename_i ht
      simp only [Option.some.injEq] at hz
      subst hz
      rw [rel_str rx]
      have hu := strT_true ht
      simp only [lenV,Option.some.injEq] at hlen
      subst hlen
      refine ⟨.string (s.extract l h), ?_, .c .str⟩
      simp [Instr.sliceAt,Instr.slice,run_underlying hu,bounds false s.size (Nat.le_refl _)]
    · cases hz
  · rename_i sz
    split at hz
    · rename_i ht
      simp only [Option.some.injEq] at hz
      subst hz
      simp only [lenV,Option.some.injEq] at hlen
      subst hlen
      cases rx
      cases he : elemT P t with
      | none => exact absurd he ht
      | some e =>
        obtain ⟨hu, hne⟩ := elemT_some he
        obtain rfl : h = 0 := by omega
        obtain rfl : l = 0 := by omega
        refine ⟨.slice none 0 0, ?_, .nils⟩
        simp [Instr.sliceAt,Instr.slice,run_underlying hu,bounds true 0 (Nat.le_refl _),sizeOf_run hne]
    · cases hz
  · rename_i sz es
    cases he : elemT P t with
    | none => rw [he] at hz; cases hz
    | some e =>
      rw [he] at hz
      simp only at hz
      split at hz
      · rename_i hsz
        simp only [Option.some.injEq] at hz
        subst hz
        obtain ⟨hu, hne⟩ := elemT_some he
        simp only [lenV,Option.some.injEq] at hlen
        subst hlen
        cases rx with
        | c rx =>
        cases rx with
        | @nil _ a cap =>
          simp only [List.length_nil] at hhl bounds
          obtain rfl : h = 0 := by omega
          obtain rfl : l = 0 := by omega
          refine ⟨.slice a 0 cap, ?_, .c (by simpa using RepR.nil)⟩
          simp [Instr.sliceAt,Instr.slice,run_underlying hu,bounds true cap (Nat.zero_le _),sizeOf_run hne]
          intro hc
          cases a with
          | none => rfl
          | some a => simp [Addr.add]
        | @list a _ _ len cap c e' z' spot own blk hlen hcap fits rows cells =>
          subst hlen
          by_cases hml : cap = l
          · have : l = es.length := by omega
            have hh0 : h = l := by omega
            refine ⟨.slice (some a) (h - l) (cap - l), ?_, ?_⟩
            · subst hml; simp [Instr.sliceAt,Instr.slice,run_underlying hu,bounds true cap hcap,sizeOf_run hne]
            · rw [hh0]
              simp only [Nat.sub_self,List.take_zero]
              exact .c .nil
          · refine ⟨.slice (some (a.add (l * P.cellsOf e))) (h - l) (cap - l), ?_, ?_⟩
            · simp [Instr.sliceAt,Instr.slice,run_underlying hu,bounds true cap hcap,sizeOf_run hne,hml]
            · rw [add_eq _ _ spot, hsz]
              have hmul : (l + (h - l)) * sz ≤ es.length * sz := Nat.mul_le_mul_right _ (by omega)
              rw [Nat.add_mul] at hmul
              refine .c (.list rfl own blk (by simp; omega) (by omega) (by simp only; omega) (fun i row hr => ?_) (fun i row j y hr hj => ?_))
              · rw [List.getElem?_take] at hr
                split at hr
                · rw [List.getElem?_drop] at hr; exact rows _ _ hr
                · cases hr
              · rw [List.getElem?_take] at hr
                split at hr
                · rw [List.getElem?_drop] at hr
                  have := cells _ _ j y hr hj
                  simp only
                  rw [show a.off + l * sz + i * sz + j = a.off + (l + i) * sz + j from by rw [Nat.add_mul]; omega]
                  exact this
                · cases hr
      · cases hz
  · rename_i r p m sz off len'
    cases he : elemT P t with
    | none => rw [he] at hz; cases hz
    | some e =>
      rw [he] at hz
      simp only at hz
      split at hz
      · rename_i hsz
        simp only [Option.some.injEq] at hz
        subst hz
        obtain ⟨hu, hne⟩ := elemT_some he
        simp only [lenV,Option.some.injEq] at hlen
        subst hlen
        cases rx with
        | @al _ _ _ _ _ _ _ hnf hs hv hm =>
        obtain ⟨a, cap, rfl, hcap, hnone, hspot⟩ := hv
        have hrun : ∀ a', (if cap = l then a else a.map (·.add (l * P.cellsOf e))) = a' → (Instr.sliceAt t (.slice a len' cap) vlo vhi none).run P w = .ok (.slice a' (h - l) (cap - l)) w := by
          intro a' ha
          rw [← ha]
          simp [Instr.sliceAt,Instr.slice,run_underlying hu,bounds true cap hcap,sizeOf_run hne]
        refine ⟨_, hrun _ rfl, ?_⟩
        refine .al hnf (fun hst => ?_) ⟨_, _, rfl, by omega, ?_, ?_⟩ hm
        · obtain ⟨hb, hsub⟩ := hs hst
          refine ⟨hb, ?_⟩
          rcases hsub with ⟨b, lb, capb, o, cap', hbv, hv, ho, hfit, hle, hex, hexo⟩ | ⟨lb, capb, hbv, hl0, hv⟩
          · simp only [Value.slice.injEq] at hv
            obtain ⟨rfl, _, rfl⟩ := hv
            by_cases hml : cap = l
            · have hh0 : h = l := by omega
              refine .inl ⟨b, lb, capb, o, 0, hbv, ?_, .inl (by omega), by omega, by omega, by omega, .inl rfl⟩
              simp [hml]
            · refine .inl ⟨b, lb, capb, o + l * sz, cap - l, hbv, ?_, ?_, ?_, by omega, by omega, .inr ?_⟩
              · simp only [hml,if_false,Option.map_some,hsz]
                rw [add_eq _ _ rfl]
              · rcases ho with h0 | h0
                · exact .inl (by omega)
                · exact .inr (by rw [h0, Nat.add_mul]; omega)
              · have : l * sz + (cap - l) * sz = cap * sz := by rw [← Nat.add_mul]; congr 1; omega
                omega
              · rcases hexo with h0 | h0
                · omega
                · rw [h0, Nat.add_mul]; omega
          · simp only [Value.slice.injEq] at hv
            obtain ⟨rfl, rfl, rfl⟩ := hv
            refine .inr ⟨lb, capb, hbv, by omega, ?_⟩
            have : l = 0 := by omega
            have : h = 0 := by omega
            simp_all
        · intro hn
          have : a = none := by
            split at hn
            · exact hn
            · cases a with
              | none => rfl
              | some a => simp at hn
          have := hnone this
          omega
        · intro b hb
          split at hb
          · exact hspot b hb
          · cases a with
            | none => simp at hb
            | some a =>
              simp only [Option.map_some,Option.some.injEq] at hb
              subst hb
              rw [add_eq _ _ (hspot a rfl)]
      · cases hz
  · cases hz
end Go.VM
/- Values that go into memory: their lists are taken out of their places, and laid into new ones. -/
namespace Go.VM
theorem takenSt_eq (st : St) (r : Nat) (R : Root) (p : Path) : takenSt st r R p = st.put r (takenUp R p) := by
  simp only [takenSt,takenUp]
  cases p.getLast? <;> rfl
@[simp] theorem St.ups_nil (st : St) : st.ups [] = st := rfl
@[simp] theorem St.ups_cons (st : St) (r R u) : st.ups ((r, R) :: u) = (st.put r R).ups u := rfl
theorem St.ups_append (st : St) (u v : Ups) : st.ups (u ++ v) = (st.ups u).ups v := by
  induction u generalizing st with
  | nil => rfl
  | cons a u ih => obtain ⟨r, R⟩ := a; simp [ih]
/-- The value 'v' is 'y': a plain one, or a root of its own. -/
def Holds (w : World) (ow : Own) (bs : Base) (st : St) (t : Nat) (y : T) (v : Value) : Prop :=
  (isOwn y = false ∧ y ≠ .dead ∧ RepR w ow y v) ∨ (∃ sz es, y = .list true sz es ∧ st t = some ⟨false, sz, es, []⟩ ∧ (bs (t, [])).2 = v)
theorem Holds.mono {w w' ow ow' bs bs' st st' t y v} (h : Holds w ow bs st t y v) (hk : Kept w ow w' ow') (hs : st' t = st t) (hb : bs' (t, []) = bs (t, [])) : Holds w' ow' bs' st' t y v := by
  rcases h with ⟨h1, h2, h3⟩ | ⟨sz, es, h1, h2, h3⟩
  · exact .inl ⟨h1, h2, h3.mono hk⟩
  · exact .inr ⟨sz, es, h1, hs.trans h2, by rw [hb]; exact h3⟩
/-- A nil list gets a root. -/
theorem Rel.nilroot {w ow bs st fr} (h : Rel w ow bs st fr) {t : Nat} (ht : fr t) (sz : Nat) :
    Rel w ow (fun ℓ => if ℓ.1 = t then (sz, .slice none 0 0) else bs ℓ) (st.put t (some ⟨false, sz, [], []⟩)) (fun x => fr x ∧ x ≠ t) ∧
    Quiet bs st fr (fun ℓ => if ℓ.1 = t then (sz, .slice none 0 0) else bs ℓ) (st.put t (some ⟨false, sz, [], []⟩)) (fun x => fr x ∧ x ≠ t) := by
  refine ⟨⟨fun r R hr => ?_, fun r R hr hb => ?_, fun b ℓ hb => ?_, fun r hr => ?_⟩, Quiet.new ht (fun ℓ h => by simp [h])⟩
  · by_cases e : r = t
    · subst e
      simp only [St.put_eq,Option.some.injEq] at hr
      subst hr
      simp only [if_true]
      exact .nil (by simp)
    · rw [St.put_ne _ _ e] at hr
      simp only [e,if_false]
      exact (h.root r R hr).move (Kept.refl _ _) ⟨fun b q hq => ⟨rfl, hq⟩, fun q => by simp [e]⟩
  · by_cases e : r = t
    · subst e
      simp only [St.put_eq,Option.some.injEq] at hr
      subst hr
      cases hb
    · rw [St.put_ne _ _ e] at hr
      simp only [e,if_false]
      exact h.box r R hr hb
  · have := h.own b ℓ hb
    exact ⟨fun x => this.1 x.1, this.2⟩
  · rw [St.put_ne _ _ hr.2]; exact h.free r hr.1
theorem takeV_sound {w ow0 bs0 st0} {fr0 : Nat → Prop} {owA bsA stA} {frA : Nat → Prop} {stV : St} {x : VV} {v : Value} {y : T} {u : Ups} {t : Nat} (h : Rel w owA bsA stA frA) (ht : frA t)
    (agree : ∀ r, ¬ fr0 r → stA r = stV r) (hq : Quiet bs0 st0 fr0 bsA stA frA) (hk : Kept w ow0 w owA) (hx : takeV stV x = some (y, u)) (rx : RelV w ow0 bs0 st0 fr0 x v) :
    ∃ owB bsB stB, Rel w owB bsB stB (fun x => frA x ∧ x ≠ t) ∧ Kept w owA w owB ∧ Quiet bsA stA frA bsB stB (fun x => frA x ∧ x ≠ t) ∧ (∀ r, ¬ fr0 r → stB r = (stV.ups u) r) ∧
      Holds w owB bsB stB t y v ∧ (∀ r, fr0 r → r ≠ t → stB r = stA r) ∧ (∀ r R', (r, R') ∈ u → ¬ fr0 r) := by
  unfold takeV at hx
  split at hx
  · rename_i x
    have plain : isOwn x = false → x ≠ .dead → RepR w ow0 x v → some (x, ([] : Ups)) = some (y, u) → ∃ owB bsB stB, Rel w owB bsB stB (fun x => frA x ∧ x ≠ t) ∧ Kept w owA w owB ∧ Quiet bsA stA frA bsB stB (fun x => frA x ∧ x ≠ t) ∧
        (∀ r, ¬ fr0 r → stB r = (stV.ups u) r) ∧ Holds w owB bsB stB t y v ∧ (∀ r, fr0 r → r ≠ t → stB r = stA r) ∧ (∀ r R', (r, R') ∈ u → ¬ fr0 r) := by
      intro h1 h2 h3 h4
      simp only [Option.some.injEq,Prod.mk.injEq] at h4
      obtain ⟨rfl, rfl⟩ := h4
      exact ⟨owA, bsA, stA, h.shrink (fun _ h => h.1), Kept.refl _ _, Quiet.shrink (fun _ h => h.1), agree, .inl ⟨h1, h2, h3.mono hk⟩, fun _ _ _ => rfl, fun _ _ hm => by cases hm⟩
    cases rx with
    | c rx =>
    cases rx with
    | dead => cases hx
    | int => exact plain rfl (by simp) .int hx
    | bool => exact plain rfl (by simp) .bool hx
    | str => exact plain rfl (by simp) .str hx
    | nil => exact plain rfl (by simp) .nil hx
    | list spot own blk hlen hcap fits rows cells => exact plain rfl (by simp) (.list spot own blk hlen hcap fits rows cells) hx
    | held h => exact plain rfl (by simp) (.held h) hx
  · rename_i sz
    simp only [Option.some.injEq,Prod.mk.injEq] at hx
    obtain ⟨rfl, rfl⟩ := hx
    cases rx
    obtain ⟨h1, h2⟩ := h.nilroot ht sz
    have hf0 : fr0 t := hq.free t ht
    refine ⟨owA, _, _, h1, Kept.refl _ _, h2, fun r hr => ?_, .inr ⟨sz, [], rfl, by simp, by simp⟩, fun r _ hne => by rw [St.put_ne _ _ hne], fun _ _ hm => by cases hm⟩
    have : r ≠ t := fun e => hr (by rw [e]; exact hf0)
    rw [St.put_ne _ _ this]; exact agree r hr
  · rename_i r p m sz off len
    split at hx
    · rename_i R sz' rows hs
      split at hx
      · rename_i hc
        obtain ⟨hbx, hle, rfl⟩ := hc
        simp only [Option.some.injEq,Prod.mk.injEq] at hx
        obtain ⟨rfl, rfl⟩ := hx
        obtain ⟨hr, hf, hn⟩ := seek_some hs
        cases rx with
        | @al _ _ _ _ _ _ _ hnf hsub hv hm =>
        have hrA : stA r = some R := (agree r hnf).trans hr
        obtain ⟨hst0, hbeq⟩ := hq.at hnf hm (.inr ⟨R, hrA, hf⟩)
        obtain ⟨hb, hsb⟩ := hsub hst0
        have hsb' : Sub (bsA (r, p)).1 (bsA (r, p)).2 off len v := by rw [hbeq, hb]; exact hsb
        obtain ⟨h1, h2, h3⟩ := h.take hrA hbx hn ht hsb' hle
        have hf0 : fr0 t := hq.free t ht
        have hrt : r ≠ t := fun e => hnf (by rw [e]; exact hf0)
        refine ⟨_, _, _, h1, h2, h3, fun x hx => ?_, .inr ⟨sz, _, rfl, by simp, ?_⟩, fun x hx hne => ?_, fun x R' hm => ?_⟩
        · have : x ≠ t := fun e => hx (by rw [e]; exact hf0)
          rw [St.put_ne _ _ this, takenSt_eq]
          simp only [St.ups_cons,St.ups_nil]
          by_cases e : x = r
          · subst e; simp
          · rw [St.put_ne _ _ e, St.put_ne _ _ e]; exact agree x hx
        · simp [takenBase]
        · rw [St.put_ne _ _ hne, takenSt_eq]
          have : x ≠ r := fun e => hnf (by rw [← e]; exact hx)
          rw [St.put_ne _ _ this]
        · simp only [List.mem_singleton,Prod.mk.injEq] at hm
          rw [hm.1]; exact hnf
      · cases hx
    · cases hx
  · cases hx
theorem takeVs_sound {w ow0 bs0 st0} {fr0 : Nat → Prop} : ∀ (xs : List VV) (vs : List Value) (ys : List T) (u : Ups) (t0 : Nat) {owA bsA stA} {frA : Nat → Prop} {stV : St}, Rel w owA bsA stA frA → (∀ k, k < xs.length → frA (t0 + k)) →
    (∀ r, ¬ fr0 r → stA r = stV r) → Quiet bs0 st0 fr0 bsA stA frA → Kept w ow0 w owA → takeVs stV xs = some (ys, u) → xs.length = vs.length →
    (∀ (k : Nat) (x : VV) (v : Value), xs[k]? = some x → vs[k]? = some v → RelV w ow0 bs0 st0 fr0 x v) →
    ∃ owB bsB stB, Rel w owB bsB stB (fun x => frA x ∧ ¬ (t0 ≤ x ∧ x < t0 + xs.length)) ∧ Kept w owA w owB ∧ Quiet bsA stA frA bsB stB (fun x => frA x ∧ ¬ (t0 ≤ x ∧ x < t0 + xs.length)) ∧
      (∀ r, ¬ fr0 r → stB r = (stV.ups u) r) ∧ ys.length = xs.length ∧ (∀ (k : Nat) (y : T) (v : Value), ys[k]? = some y → vs[k]? = some v → Holds w owB bsB stB (t0 + k) y v) ∧
      (∀ r, fr0 r → ¬ (t0 ≤ r ∧ r < t0 + xs.length) → stB r = stA r) ∧ (∀ r R', (r, R') ∈ u → ¬ fr0 r)
  | [], vs, ys, u, t0, owA, bsA, stA, frA, stV, h, ht, agree, hq, hk, hx, hl, rx => by
    simp only [takeVs,Option.some.injEq,Prod.mk.injEq] at hx
    obtain ⟨rfl, rfl⟩ := hx
    exact ⟨owA, bsA, stA, h.shrink (fun _ h => h.1), Kept.refl _ _, Quiet.shrink (fun _ h => h.1), agree, rfl, fun k y v hk' => by simp at hk', fun _ _ _ => rfl, fun _ _ hm => by cases hm⟩
  | x :: xs, vs, ys, u, t0, owA, bsA, stA, frA, stV, h, ht, agree, hq, hk, hx, hl, rx => by
    cases vs with
    | nil => simp at hl
    | cons v vs =>
    simp only [takeVs] at hx
    cases h1 : takeV stV x with
    | none => rw [h1] at hx; cases hx
    | some yu =>
      obtain ⟨y, u1⟩ := yu
      rw [h1] at hx
      simp only at hx
      cases h2 : takeVs (stV.ups u1) xs with
      | none => rw [h2] at hx; cases hx
      | some yus =>
        obtain ⟨ys', u2⟩ := yus
        rw [h2] at hx
        simp only [Option.some.injEq,Prod.mk.injEq] at hx
        obtain ⟨rfl, rfl⟩ := hx
        have ht0 := ht 0 (by simp)
        simp only [Nat.add_zero] at ht0
        obtain ⟨owB, bsB, stB, g1, g2, g3, g4, g5, g6, g7⟩ := takeV_sound h ht0 agree hq hk h1 (rx 0 x v (by simp) (by simp))
        have hq' := hq.trans g3
        have hk' : Kept w ow0 w owB := fun b hb hlt => g2 b (hk b hb hlt).2 hlt |>.imp (fun e => e.trans rfl) id
        obtain ⟨owC, bsC, stC, k1, k2, k3, k4, k5, k6, k7, k8⟩ := takeVs_sound xs vs ys' u2 (t0 + 1) g1 (fun k hk => ⟨by have := ht (k + 1) (by simp; omega); rwa [show t0 + 1 + k = t0 + (k + 1) from by omega], by omega⟩) g4 hq'
          hk' h2 (by simpa using hl) (fun k x' v' hx' hv' => rx (k + 1) x' v' (by simpa using hx') (by simpa using hv'))
        have hsub : ∀ r, (frA r ∧ ¬ (t0 ≤ r ∧ r < t0 + (x :: xs).length)) → (frA r ∧ r ≠ t0) ∧ ¬ (t0 + 1 ≤ r ∧ r < t0 + 1 + xs.length) := by
          intro r hr
          simp only [List.length_cons] at hr
          exact ⟨⟨hr.1, by omega⟩, by omega⟩
        have hf0 : fr0 t0 := hq.free t0 ht0
        refine ⟨owC, bsC, stC, k1.shrink hsub, fun b hb hlt => ?_, (g3.trans k3).trans (Quiet.shrink hsub), fun r hr => by rw [k4 r hr, St.ups_append], by simp [k5], fun k y' v' hy hv => ?_, fun r hr hne => ?_, fun r R' hm => ?_⟩
        · have e1 := g2 b hb hlt
          exact k2 b e1.2 hlt
        · cases k with
          | zero =>
            simp only [List.getElem?_cons_zero,Option.some.injEq] at hy hv
            subst hy; subst hv
            refine g5.mono k2 (k7 _ (by simpa using hf0) (by omega)) ?_
            exact k3.base _ (fun e => e.2 rfl)
          | succ k =>
            have := k6 k y' v' (by simpa using hy) (by simpa using hv)
            rwa [show t0 + 1 + k = t0 + (k + 1) from by omega] at this
        · simp only [List.length_cons] at hne
          rw [k7 r hr (by omega), g6 r hr (by omega)]
        · rcases List.mem_append.1 hm with hm | hm
          · exact g7 r R' hm
          · exact k8 r R' hm
end Go.VM
/- A row of cells that memory holds is told of; cells that are stored are told of. -/
namespace Go.VM
theorem getD_set_self {α : Type} {l : List α} {i : Nat} {x d : α} (h : i < l.length) : (l.set i x).getD i d = x := by
  simp [List.getD_eq_getElem?_getD,List.getElem?_set,h]
theorem set_same {α : Type} {l : List α} {i : Nat} {x : α} (h : l[i]? = some x) : l.set i x = l := by
  apply List.ext_getElem?
  intro k
  rw [List.getElem?_set]
  split
  · subst k; rw [if_pos (lt_of_getl h)]; exact h.symm
  · rfl
theorem nav_modAt (f : List (List T) → List (List T)) : ∀ {p : Path} {sz rows sz' rows'}, nav sz rows p = some (sz', rows') → nav sz (modAt f rows p) p = some (sz', f rows')
  | [], sz, rows, sz', rows', h => by
    simp only [nav,Option.some.injEq,Prod.mk.injEq] at h
    obtain ⟨rfl, rfl⟩ := h
    rfl
  | (i, j) :: p, sz, rows, sz', rows', h => by
    simp only [nav] at h
    split at h
    · rename_i sz1 es1 hx
      obtain ⟨row, hr, hj⟩ := cell_some hx (by simp)
      have hm : modAt f rows ((i, j) :: p) = rows.set i ((rows.getD i []).set j (.list true sz1 (modAt f es1 p))) := by
        simp only [modAt]; rw [hx]
      rw [hm, getD_of hr]
      simp only [nav]
      rw [getD_set_self (lt_of_getl hr), getD_set_self (lt_of_getl hj)]
      simp only
      exact nav_modAt f h
    · cases h
theorem modAt_modAt (f g : List (List T) → List (List T)) : ∀ {p : Path} {sz rows sz' rows'}, nav sz rows p = some (sz', rows') → modAt g (modAt f rows p) p = modAt (fun r => g (f r)) rows p
  | [], sz, rows, sz', rows', h => rfl
  | (i, j) :: p, sz, rows, sz', rows', h => by
    simp only [nav] at h
    split at h
    · rename_i sz1 es1 hx
      obtain ⟨row, hr, hj⟩ := cell_some hx (by simp)
      have hm : ∀ f, modAt f rows ((i, j) :: p) = rows.set i ((rows.getD i []).set j (.list true sz1 (modAt f es1 p))) := by
        intro f; simp only [modAt]; rw [hx]
      rw [hm, hm, getD_of hr]
      simp only [modAt]
      rw [getD_set_self (lt_of_getl hr), getD_set_self (lt_of_getl hj)]
      simp only
      rw [modAt_modAt f g h]
      simp [List.set_set]
    · cases h
theorem setIn_row {rows : List (List T)} {i : Nat} {row : List T} (hr : rows[i]? = some row) (j : Nat) (y : T) : (setIn i j y rows)[i]? = some (row.set j y) := by
  simp only [setIn,getD_of hr,List.getElem?_set,if_true,lt_of_getl hr]
theorem setIn_setIn (i j : Nat) (y z : T) (rows : List (List T)) : setIn i j y (setIn i j z rows) = setIn i j y rows := by
  by_cases h : i < rows.length
  · simp only [setIn]; rw [getD_set_self h, List.set_set, List.set_set]
  · simp [setIn,List.set_eq_of_length_le (Nat.le_of_not_lt h)]
/-- Agreement of what the frame is told with what memory stands for: some roots may be told of no more. -/
theorem Rel.sub {w ow bs st st' fr} (h : Rel w ow bs st fr) (hs : ∀ r R, st' r = some R → st r = some R) : Rel w ow bs st' fr :=
  ⟨fun r R hr => h.root r R (hs r R hr), fun r R hr => h.box r R (hs r R hr), h.own, fun r hr => by
    cases hx : st' r with
    | none => rfl
    | some R => have := hs r R hx; rw [h.free r hr] at this; cases this⟩
theorem Quiet.sub {bs : Base} {st st' : St} {fr : Nat → Prop} (hs : ∀ r R, st' r = some R → st r = some R) : Quiet bs st fr bs st' fr := by
  refine ⟨fun _ _ => rfl, fun r p m _ _ _ h => ⟨?_, rfl⟩, fun r R' _ h => ⟨R', hs r R' h, Nat.le_refl _⟩, fun _ h => h⟩
  rcases h with h | ⟨R, h1, h2⟩
  · exact .inl h
  · exact .inr ⟨R, hs r R h1, h2⟩
/-- Cells that memory holds are told of. -/
theorem fill_sound {w : World} : ∀ (ys : List T) (j t0 : Nat) {ow bs st fr} {r : Nat} {R : Root} {p : Path} {sz : Nat} {rows : List (List T)} {i : Nat} {row : List T} {a : Addr} {len cap : Nat} {c : Array Value} {e z},
    Rel w ow bs st fr → st r = some R → nav R.sz R.rows p = some (sz, rows) → rows[i]? = some row → j + ys.length ≤ row.length → (bs (r, p)).2 = .slice (some a) len cap → w.heap[a.block]? = some (.cells c e z) →
    (∀ k, k < ys.length → t0 + k ≠ r) → (∀ (k : Nat) (y : T), ys[k]? = some y → Holds w ow bs st (t0 + k) y (c.getD (a.off + i * sz + (j + k)) undef)) →
    ∃ ow' bs' st', Rel w ow' bs' st' fr ∧ Kept w ow w ow' ∧ Quiet bs st fr bs' st' fr ∧ st' r = some { R with rows := modAt (setCells i j ys) R.rows p, log := R.log ++ filled p i j ys } ∧
      (∀ x, x ≠ r → ¬ (t0 ≤ x ∧ x < t0 + ys.length) → st' x = st x) ∧ (∀ x R', x ≠ r → st' x = some R' → st x = some R') ∧ (∀ x, x ≠ r → bs' (x, []) = bs (x, [])) ∧ bs' (r, p) = bs (r, p)
  | [], j, t0, ow, bs, st, fr, r, R, p, sz, rows, i, row, a, len, cap, c, e, z, h, hr, hn, hi, hj, hb, hblk, hne, hh => by
    refine ⟨ow, bs, st, h, Kept.refl _ _, Quiet.refl _ _ _, ?_, fun _ _ _ => rfl, fun _ _ _ h => h, fun _ _ => rfl, rfl⟩
    rw [hr]
    simp only [filled,List.append_nil,Option.some.injEq]
    have : modAt (setCells i j []) R.rows p = R.rows := by
      have : ∀ {p : Path} {sz rows sz' rows'}, nav sz rows p = some (sz', rows') → modAt (setCells i j []) rows p = rows := by
        intro p
        induction p with
        | nil => intro sz rows sz' rows' h; rfl
        | cons ij p ih =>
          obtain ⟨a, b⟩ := ij
          intro sz rows sz' rows' h
          simp only [nav] at h
          split at h
          · rename_i sz1 es1 hx
            obtain ⟨row, hr, hj⟩ := cell_some hx (by simp)
            simp only [modAt]
            rw [hx]
            simp only
            rw [ih h, getD_of hr, set_same hj, set_same hr]
          · cases h
      exact this hn
    rw [this]
  | y :: ys, j, t0, ow, bs, st, fr, r, R, p, sz, rows, i, row, a, len, cap, c, e, z, h, hr, hn, hi, hj, hb, hblk, hne, hh => by
    simp only [List.length_cons] at hj
    have hy := hh 0 y (by simp)
    simp only [Nat.add_zero] at hy
    have hne0 := hne 0 (by simp)
    simp only [Nat.add_zero] at hne0
    obtain ⟨ow1, bs1, st1, g1, g2, g3, g4, g5, g6, g7⟩ : ∃ ow1 bs1 st1, Rel w ow1 bs1 st1 fr ∧ Kept w ow w ow1 ∧ Quiet bs st fr bs1 st1 fr ∧
        st1 r = some { R with rows := modAt (setIn i j y) R.rows p, log := R.log ++ (if isOwn y then [p ++ [(i, j)]] else []) } ∧
        (∀ x, x ≠ r → x ≠ t0 → st1 x = st x) ∧ (∀ x R', x ≠ r → st1 x = some R' → st x = some R') ∧ ((∀ x, x ≠ r → bs1 (x, []) = bs (x, [])) ∧ bs1 (r, p) = bs (r, p)) := by
      rcases hy with ⟨h1, h2, h3⟩ | ⟨sz1, es1, rfl, h2, h3⟩
      · refine ⟨ow, bs, _, h.retype (i := i) (j := j) (y := y) hr hn (fun a' l' c' cc ee zz e1 e2 => ?_), Kept.refl _ _, Quiet.same hr rfl, ?_, fun x hx _ => St.put_ne _ _ hx, fun x R' hx hs => ?_, fun _ _ => rfl, rfl⟩
        · rw [hb] at e1
          simp only [Value.slice.injEq,Option.some.injEq] at e1
          obtain ⟨rfl, rfl, rfl⟩ := e1
          rw [hblk] at e2
          simp only [Option.some.injEq,Obj.cells.injEq] at e2
          obtain ⟨rfl, rfl, rfl⟩ := e2
          exact h3
        · simp [h1]
        · rw [St.put_ne _ _ hx] at hs; exact hs
      · obtain ⟨k1, k2, k3⟩ := h.install (i := i) (j := j) hr hn h2 hne0 hb hblk h3.symm
        refine ⟨_, _, _, k1, k2, k3, ?_, fun x hx hx0 => by rw [St.put_ne _ _ hx0, St.put_ne _ _ hx], fun x R' hx hs => ?_, fun x hx => ?_, ?_⟩
        · rw [St.put_ne _ _ (fun e => hne0 e.symm)]; simp [isOwn]
        · by_cases e : x = t0
          · subst e; simp at hs
          · rw [St.put_ne _ _ e, St.put_ne _ _ hx] at hs; exact hs
        · simp only [laidBase]; rw [if_neg (fun e => hx e.1)]
        · simp only [laidBase]; rw [if_neg]
          intro e
          have := e.2.length_le
          simp at this; omega
    have hn1 : nav R.sz (modAt (setIn i j y) R.rows p) p = some (sz, setIn i j y rows) := nav_modAt _ hn
    have hrow1 := setIn_row hi j y
    obtain ⟨ow2, bs2, st2, k1, k2, k3, k4, k5, k6, k7, k8⟩ := fill_sound ys (j + 1) (t0 + 1) (r := r) (p := p) (i := i) g1 g4 hn1 hrow1 (by simp; omega) (by rw [g7.2]; exact hb) hblk
      (fun k hk => by have := hne (k + 1) (by simp; omega); rwa [show t0 + 1 + k = t0 + (k + 1) from by omega])
      (fun k y' hy' => by
        have := hh (k + 1) y' (by simpa using hy')
        rw [show t0 + (k + 1) = t0 + 1 + k from by omega, show j + (k + 1) = j + 1 + k from by omega] at this
        have hk : k < ys.length := lt_of_getl hy'
        have hx : t0 + 1 + k ≠ r := by have := hne (k + 1) (by simp; omega); rwa [show t0 + (k + 1) = t0 + 1 + k from by omega] at this
        exact this.mono g2 (g5 _ hx (by omega)) (g7.1 _ hx))
    refine ⟨ow2, bs2, st2, k1, fun b hb hlt => ?_, g3.trans k3, ?_, fun x hx hx0 => ?_, fun x R' hx hs => g6 x R' hx (k6 x R' hx hs), fun x hx => (k7 x hx).trans (g7.1 x hx), k8.trans g7.2⟩
    · have e1 := g2 b hb hlt
      exact k2 b e1.2 hlt
    · rw [k4]
      simp only [Option.some.injEq,Root.mk.injEq,true_and]
      refine ⟨?_, ?_⟩
      · rw [modAt_modAt _ _ hn]; rfl
      · simp only [filled]
        split <;> simp
    · simp only [List.length_cons] at hx0
      rw [k5 x hx (by omega), g5 x hx (by omega)]
end Go.VM
/- Stores, new variables, new rows. -/
namespace Go.VM
theorem Holds.oneCell {w ow bs st t y v} (h : Holds w ow bs st t y v) (hr : ∀ R, st t = some R → ∃ a l c, (bs (t, [])).2 = .slice a l c) : v.oneCell' = true := by
  rcases h with ⟨h1, h2, h3⟩ | ⟨sz, es, h1, h2, h3⟩
  · cases h3 with
    | held h => cases h <;> rfl
    | dead => exact absurd rfl h2
    | _ => rfl
  · obtain ⟨a, l, c, e⟩ := hr _ h2
    rw [← h3, e]; rfl
theorem Rel.isSlice {w ow bs st fr} (h : Rel w ow bs st fr) {t R} (hr : st t = some R) : ∃ a l c, (bs (t, [])).2 = .slice a l c := by
  have := h.root t R hr
  generalize (bs (t, [])).2 = v at this
  generalize R.rows = rs at this
  generalize R.sz = s at this
  cases this with
  | ro h => cases h
  | nil => exact ⟨_, _, _, rfl⟩
  | list => exact ⟨_, _, _, rfl⟩
theorem store_sound {P : Program} (A : Addr) (hA : A.spot = none) : ∀ (ys : List T) (vs : List Value) (k0 t0 : Nat) {w : World} {ow bs st} {fr : Nat → Prop} {r : Nat} {R : Root} {p : Path} {sz : Nat} {rows : List (List T)} {i j0 : Nat} {row : List T} {a : Addr} {len cap : Nat},
    Rel w ow bs st fr → st r = some R → nav R.sz R.rows p = some (sz, rows) → rows[i]? = some row → j0 + k0 + ys.length ≤ row.length → (bs (r, p)).2 = .slice (some a) len cap →
    A.block = a.block → A.off = a.off + i * sz + j0 → ys.length = vs.length → (∀ k, k < ys.length → t0 + k ≠ r) →
    (∀ (k : Nat) (y : T) (v : Value), ys[k]? = some y → vs[k]? = some v → Holds w ow bs st (t0 + k) y v) →
    ∃ w' ow' bs' st', (storeCells A vs k0).run P w = .ok () w' ∧ Rel w' ow' bs' st' fr ∧ Steady w ow w' ow' ∧ Quiet bs st fr bs' st' fr ∧
      st' r = some { R with rows := modAt (setCells i (j0 + k0) ys) R.rows p, log := R.log ++ filled p i (j0 + k0) ys } ∧
      (∀ x, x ≠ r → ¬ (t0 ≤ x ∧ x < t0 + ys.length) → st' x = st x) ∧ (∀ x R', x ≠ r → st' x = some R' → st x = some R')
  | [], vs, k0, t0, w, ow, bs, st, fr, r, R, p, sz, rows, i, j0, row, a, len, cap, h, hr, hn, hi, hj, hb, hAb, hAo, hl, hne, hh => by
    cases vs with
    | cons v vs => simp at hl
    | nil =>
      -- a row in which nothing is stored: memory stands
      have hmod : modAt (setCells i (j0 + k0) []) R.rows p = R.rows := by
        have : ∀ {p : Path} {sz rows sz' rows'}, nav sz rows p = some (sz', rows') → modAt (setCells i (j0 + k0) []) rows p = rows := by
          intro p
          induction p with
          | nil => intro sz rows sz' rows' h; rfl
          | cons ij p ih =>
            obtain ⟨a, b⟩ := ij
            intro sz rows sz' rows' h
            simp only [nav] at h
            split at h
            · rename_i sz1 es1 hx
              obtain ⟨row, hr, hj⟩ := cell_some hx (by simp)
              simp only [modAt]
              rw [hx]
              simp only
              rw [ih h, getD_of hr, set_same hj, set_same hr]
            · cases h
        exact this hn
      refine ⟨w, ow, bs, st, rfl, h, Steady.refl _ _, Quiet.refl _ _ _, ?_, fun _ _ _ => rfl, fun _ _ _ h => h⟩
      rw [hr, hmod]; simp [filled]
  | y :: ys, vs, k0, t0, w, ow, bs, st, fr, r, R, p, sz, rows, i, j0, row, a, len, cap, h, hr, hn, hi, hj, hb, hAb, hAo, hl, hne, hh => by
    cases vs with
    | nil => simp at hl
    | cons v vs =>
    simp only [List.length_cons] at hj
    have hy := hh 0 y v (by simp) (by simp)
    simp only [Nat.add_zero] at hy
    have hne0 := hne 0 (by simp)
    simp only [Nat.add_zero] at hne0
    have hjl : j0 + k0 < row.length := by omega
    obtain ⟨a', len', cap', c, e, z, hbs, spot, own, blk, free, hlen, hcap, fits, hrl, hlt, hx⟩ := h.place hr hn hi (List.getElem?_eq_getElem hjl)
    rw [hbs] at hb
    simp only [Value.slice.injEq,Option.some.injEq] at hb
    obtain ⟨rfl, rfl, rfl⟩ := hb
    have hbs2 : (bs (r, p)).2 = .slice (some a') len' cap' := by rw [hbs]
    have haddr : A.add k0 = ⟨a'.block, a'.off + i * sz + (j0 + k0), none⟩ := by rw [add_eq _ _ hA, hAb, hAo, show a'.off + i * sz + j0 + k0 = a'.off + i * sz + (j0 + k0) from by omega]
    have hone : v.oneCell' = true := hy.oneCell (fun R' h' => h.isSlice h')
    have hstore : (store (A.add k0) v).run P w = .ok () (w.setCell ⟨a'.block, a'.off + i * sz + (j0 + k0), none⟩ v) := by
      rw [run_store P w _ v _ hone, haddr, cell_of blk hlt]
      have hfz : w.frozen? ⟨a'.block, a'.off + i * sz + (j0 + k0), none⟩ = false := by
        have := free.2 _ hlt
        simp only [World.frozen?,blk]
        rw [Bool.eq_false_iff]
        intro hc
        simp only [Bool.and_eq_true,decide_eq_true_eq] at hc
        exact this hc
      simp [hfz]
    obtain ⟨ow1, bs1, st1, g1, g2, g3, g4, g5, g6, g7⟩ : ∃ ow1 bs1 st1, Rel (w.setCell ⟨a'.block, a'.off + i * sz + (j0 + k0), none⟩ v) ow1 bs1 st1 fr ∧ Steady w ow (w.setCell ⟨a'.block, a'.off + i * sz + (j0 + k0), none⟩ v) ow1 ∧ Quiet bs st fr bs1 st1 fr ∧
        st1 r = some { R with rows := modAt (setIn i (j0 + k0) y) R.rows p, log := R.log ++ (if isOwn y then [p ++ [(i, j0 + k0)]] else []) } ∧
        (∀ x, x ≠ r → x ≠ t0 → st1 x = st x) ∧ (∀ x R', x ≠ r → st1 x = some R' → st x = some R') ∧ ((∀ x, x ≠ r → bs1 (x, []) = bs (x, [])) ∧ bs1 (r, p) = bs (r, p)) := by
      rcases hy with ⟨h1, h2, h3⟩ | ⟨sz1, es1, rfl, h2, h3⟩
      · obtain ⟨k1, k2, k3⟩ := h.set hr hn hi (List.getElem?_eq_getElem hjl) h3 hbs2
        refine ⟨ow, bs, _, k1, k2, k3, ?_, fun x hx _ => St.put_ne _ _ hx, fun x R' hx hs => ?_, fun _ _ => rfl, rfl⟩
        · simp [h1]
        · rw [St.put_ne _ _ hx] at hs; exact hs
      · obtain ⟨k1, k2, k3⟩ := h.set hr hn hi (List.getElem?_eq_getElem hjl) (y := .dead) (v := v) .dead hbs2
        have hn1 := nav_modAt (setIn i (j0 + k0) .dead) hn
        have ht : (st.put r (some { R with rows := modAt (setIn i (j0 + k0) .dead) R.rows p })) t0 = some ⟨false, sz1, es1, []⟩ := by rw [St.put_ne _ _ hne0]; exact h2
        have hblk1 := heap_setCell w a'.block (a'.off + i * sz + (j0 + k0)) v blk
        obtain ⟨m1, m2, m3⟩ := k1.install (i := i) (j := j0 + k0) (St.put_eq _ _ _) hn1 ht hne0 hbs2 hblk1 (by
          rw [Array.getD_eq_getD_getElem?, Array.getElem?_setIfInBounds_self_of_lt hlt]; exact h3.symm)
        refine ⟨_, _, _, m1, k2.trans ⟨m2, Nat.le_refl _, rfl, rfl, rfl⟩, k3.trans m3, ?_, fun x hx hx0 => by rw [St.put_ne _ _ hx0, St.put_ne _ _ hx, St.put_ne _ _ hx], fun x R' hx hs => ?_, fun x hx => ?_, ?_⟩
        · rw [St.put_ne _ _ (fun e => hne0 e.symm)]
          simp only [St.put_eq,isOwn,if_true,Option.some.injEq,Root.mk.injEq,true_and,and_true]
          rw [modAt_modAt _ _ hn]
          congr 1
          funext rr
          exact setIn_setIn _ _ _ _ _
        · by_cases e : x = t0
          · subst e; simp at hs
          · rw [St.put_ne _ _ e, St.put_ne _ _ hx, St.put_ne _ _ hx] at hs; exact hs
        · simp only [laidBase]; rw [if_neg (fun e => hx e.1)]
        · simp only [laidBase]; rw [if_neg]
          intro e
          have := e.2.length_le
          simp at this; omega
    have hn1 : nav R.sz (modAt (setIn i (j0 + k0) y) R.rows p) p = some (sz, setIn i (j0 + k0) y rows) := nav_modAt _ hn
    have hrow1 := setIn_row hi (j0 + k0) y
    obtain ⟨w2, ow2, bs2, st2, q1, q2, q3, q4, q5, q6, q7⟩ := store_sound A hA ys vs (k0 + 1) (t0 + 1) (P := P) (r := r) (p := p) (i := i) (j0 := j0) g1 g4 hn1 hrow1 (by simp; omega) (by rw [g7.2]; exact hbs2) hAb hAo (by simpa using hl)
      (fun k hk => by have := hne (k + 1) (by simp; omega); rwa [show t0 + 1 + k = t0 + (k + 1) from by omega])
      (fun k y' v' hy' hv' => by
        have := hh (k + 1) y' v' (by simpa using hy') (by simpa using hv')
        rw [show t0 + (k + 1) = t0 + 1 + k from by omega] at this
        have hk : k < ys.length := lt_of_getl hy'
        have hx : t0 + 1 + k ≠ r := by have := hne (k + 1) (by simp; omega); rwa [show t0 + (k + 1) = t0 + 1 + k from by omega] at this
        exact this.mono g2.kept (g5 _ hx (by omega)) (g7.1 _ hx))
    refine ⟨w2, ow2, bs2, st2, ?_, q2, g2.trans q3, g3.trans q4, ?_, fun x hx hx0 => ?_, fun x R' hx hs => g6 x R' hx (q7 x R' hx hs)⟩
    · simp only [storeCells,Sem.run_bind,hstore,Result.andThen_ok]; exact q1
    · rw [q5]
      simp only [Option.some.injEq,Root.mk.injEq,true_and]
      refine ⟨?_, ?_⟩
      · rw [modAt_modAt _ _ hn, show j0 + (k0 + 1) = j0 + k0 + 1 from by omega]; rfl
      · simp only [filled]
        rw [show j0 + (k0 + 1) = j0 + k0 + 1 from by omega]
        split <;> simp
    · simp only [List.length_cons] at hx0
      rw [q6 x hx (by omega), g5 x hx (by omega)]
end Go.VM
