/- Trees of plain values, and when a value of the machine's memory represents one. Nothing of a program stands here. -/
import Derived.Calls
import Derived.Below
import Derived.Laws.Cells
namespace Go.VM
set_option linter.unusedSimpArgs false
set_option linter.unusedVariables false

/-- A plain value: what one cell of memory stands for. A list is owned ('true') or only read ('false'); its elements are rows of 'sz' cells. -/
inductive T where
  | int (k : IntKind) (n : Int)
  | bool (b : Bool)
  | str (s : ByteArray)
  | list (o : Bool) (sz : Nat) (es : List (List T))
  | dead
  deriving Inhabited

mutual
def T.toRO : T → T
  | .list _ sz es => .list false sz (rosR es)
  | x => x
def roR : List T → List T
  | [] => []
  | x :: r => x.toRO :: roR r
def rosR : List (List T) → List (List T)
  | [] => []
  | r :: rs => roR r :: rosR rs
end

@[simp] theorem roR_eq (r : List T) : roR r = r.map T.toRO := by induction r <;> simp [roR, *]
@[simp] theorem rosR_eq (rs : List (List T)) : rosR rs = rs.map (List.map T.toRO) := by induction rs <;> simp [rosR, *]
@[simp] theorem toRO_int (k n) : (T.int k n).toRO = .int k n := by simp [T.toRO]
@[simp] theorem toRO_bool (b) : (T.bool b).toRO = .bool b := by simp [T.toRO]
@[simp] theorem toRO_str (s) : (T.str s).toRO = .str s := by simp [T.toRO]
@[simp] theorem toRO_dead : T.dead.toRO = .dead := by simp [T.toRO]
@[simp] theorem toRO_list (o sz es) : (T.list o sz es).toRO = .list false sz (es.map (List.map T.toRO)) := by simp [T.toRO]

abbrev Path := List (Nat × Nat)
abbrev Loc := Nat × Path
abbrev Own := Nat → Option Loc
def Loc.at (ℓ : Loc) (i j : Nat) : Loc := (ℓ.1, ℓ.2 ++ [(i, j)])

def Unfrozen (fr : Nat × Nat) (n : Nat) : Prop := ∀ k, k < n → ¬ (fr.1 ≤ k ∧ k < fr.2)

/-- Read-only: 'v' stands for 'x' in memory that nobody here owns. -/
inductive RepR (w : World) (ow : Own) : T → Value → Prop
  | int {k n} : RepR w ow (.int k n) (.int k n)
  | bool {b} : RepR w ow (.bool b) (.bool b)
  | str {s} : RepR w ow (.str s) (.string s)
  | dead {v} : RepR w ow .dead v
  | nil {sz a cap} : RepR w ow (.list false sz []) (.slice a 0 cap)
  | list {a : Addr} {sz es len cap} {c : Array Value} {e fr} (spot : a.spot = none) (own : ow a.block = none) (blk : w.heap[a.block]? = some (.cells c e fr))
      (hlen : len = es.length) (hcap : len ≤ cap) (fits : a.off + len * sz ≤ c.size) (rows : ∀ (i : Nat) (row : List T), es[i]? = some row → row.length = sz)
      (cells : ∀ (i : Nat) (row : List T) (j : Nat) (x : T), es[i]? = some row → row[j]? = some x → RepR w ow x (c.getD (a.off + i * sz + j) undef)) :
      RepR w ow (.list false sz es) (.slice (some a) len cap)

/-- The slice that stands at each place, and how many cells an element has. -/
abbrev Base := Loc → Nat × Value

/-- 'v' stands for 'x' at the place 'ℓ': an owned list's block is owned by that very place. -/
inductive RepT (w : World) (ow : Own) (bs : Base) : Loc → T → Value → Prop
  | ro {ℓ x v} (h : RepR w ow x v) : RepT w ow bs ℓ x v
  | nil {ℓ sz} (base : bs ℓ = (sz, .slice none 0 0)) : RepT w ow bs ℓ (.list true sz []) (.slice none 0 0)
  | list {ℓ : Loc} {a : Addr} {sz es len cap} {c : Array Value} {e fr} (base : bs ℓ = (sz, .slice (some a) len cap)) (spot : a.spot = none) (own : ow a.block = some ℓ)
      (blk : w.heap[a.block]? = some (.cells c e fr)) (free : Unfrozen fr c.size) (hlen : len = es.length) (hcap : len ≤ cap) (fits : a.off + cap * sz ≤ c.size)
      (rows : ∀ (i : Nat) (row : List T), es[i]? = some row → row.length = sz)
      (cells : ∀ (i : Nat) (row : List T) (j : Nat) (x : T), es[i]? = some row → row[j]? = some x → RepT w ow bs (ℓ.at i j) x (c.getD (a.off + i * sz + j) undef)) :
      RepT w ow bs ℓ (.list true sz es) (.slice (some a) len cap)

theorem RepT.base {w ow bs ℓ sz es v} (h : RepT w ow bs ℓ (.list true sz es) v) : bs ℓ = (sz, v) := by
  cases h with
  | ro h => cases h
  | nil base => exact base
  | list base => exact base

/-- What nobody owns is as it was, and still nobody's. -/
def Kept (w : World) (ow : Own) (w' : World) (ow' : Own) : Prop :=
  ∀ b, ow b = none → b < w.heap.size → w'.heap[b]? = w.heap[b]? ∧ ow' b = none

theorem Kept.refl (w : World) (ow : Own) : Kept w ow w ow := fun _ h _ => ⟨rfl, h⟩

theorem lt_of_get {α : Type} {a : Array α} {i : Nat} {x : α} (h : a[i]? = some x) : i < a.size := by
  rcases Nat.lt_or_ge i a.size with h' | h'
  · exact h'
  · simp [Array.getElem?_eq_none h'] at h

theorem RepR.mono {w w' : World} {ow ow' : Own} (k : Kept w ow w' ow') {x : T} {v : Value} (h : RepR w ow x v) : RepR w' ow' x v := by
  induction h with
  | int => exact .int
  | bool => exact .bool
  | str => exact .str
  | dead => exact .dead
  | nil => exact .nil
  | list spot own blk hlen hcap fits rows _ ih =>
    have hk := k _ own (lt_of_get blk)
    exact .list spot hk.2 (hk.1.trans blk) hlen hcap fits rows ih

/-- What lies below the place 'ℓ' is as it was, and lies below 'ℓ'' now. -/
def Moved (w : World) (ow : Own) (bs : Base) (ℓ : Loc) (w' : World) (ow' : Own) (bs' : Base) (ℓ' : Loc) : Prop :=
  (∀ b p, ow b = some (ℓ.1, ℓ.2 ++ p) → w'.heap[b]? = w.heap[b]? ∧ ow' b = some (ℓ'.1, ℓ'.2 ++ p)) ∧ ∀ p, bs' (ℓ'.1, ℓ'.2 ++ p) = bs (ℓ.1, ℓ.2 ++ p)

theorem Moved.at {w w' : World} {ow ow' : Own} {bs bs' : Base} {ℓ ℓ' : Loc} (m : Moved w ow bs ℓ w' ow' bs' ℓ') (i j : Nat) : Moved w ow bs (ℓ.at i j) w' ow' bs' (ℓ'.at i j) := by
  refine ⟨fun b p h => ?_, fun p => ?_⟩
  · have := m.1 b ((i, j) :: p) (by simpa [Loc.at] using h)
    simpa [Loc.at] using this
  · have := m.2 ((i, j) :: p)
    simpa [Loc.at] using this

theorem RepT.move {w w' : World} {ow ow' : Own} {bs bs' : Base} (k : Kept w ow w' ow') {ℓ : Loc} {x : T} {v : Value} (h : RepT w ow bs ℓ x v) :
    ∀ {ℓ' : Loc}, Moved w ow bs ℓ w' ow' bs' ℓ' → RepT w' ow' bs' ℓ' x v := by
  induction h with
  | ro h => exact fun _ => .ro (h.mono k)
  | nil base => exact fun m => .nil (by have := m.2 []; simp at this; exact this.trans base)
  | @list ℓ a sz es len cap c e fr base spot own blk free hlen hcap fits rows _ ih =>
    intro ℓ' m
    have hk := m.1 a.block [] (by simpa using own)
    exact .list (by have := m.2 []; simp at this; exact this.trans base) spot (by simpa using hk.2) (hk.1.trans blk) free hlen hcap fits rows
      (fun i row j x h1 h2 => ih i row j x h1 h2 (m.at i j))

/-- What is only read, lent to be read. -/
theorem RepR.lend {w : World} {ow : Own} {x : T} {v : Value} (h : RepR w ow x v) : RepR w ow x.toRO v := by
  induction h with
  | int => simpa using RepR.int
  | bool => simpa using RepR.bool
  | str => simpa using RepR.str
  | dead => simpa using RepR.dead
  | nil => simpa using RepR.nil
  | list spot own blk hlen hcap fits rows _ ih =>
    rw [toRO_list]
    refine .list spot own blk (by simpa using hlen) hcap fits ?_ ?_
    · intro i row hr
      rw [List.getElem?_map] at hr
      obtain ⟨row0, h0, rfl⟩ := Option.map_eq_some_iff.1 hr
      simpa using rows i row0 h0
    · intro i row j x hr hx
      rw [List.getElem?_map] at hr
      obtain ⟨row0, h0, rfl⟩ := Option.map_eq_some_iff.1 hr
      rw [List.getElem?_map] at hx
      obtain ⟨x0, hx0, rfl⟩ := Option.map_eq_some_iff.1 hx
      exact ih i row0 j x0 h0 hx0

/-- Lent to be read. -/
theorem RepT.lend {w w' : World} {ow ow' : Own} {bs : Base} (k : Kept w ow w' ow') {ℓ : Loc} {x : T} {v : Value} (h : RepT w ow bs ℓ x v)
    (hl : ∀ b p, ow b = some (ℓ.1, ℓ.2 ++ p) → w'.heap[b]? = w.heap[b]? ∧ ow' b = none) : RepR w' ow' x.toRO v := by
  induction h with
  | ro h => exact (h.mono k).lend
  | nil => rw [toRO_list]; exact .nil
  | @list ℓ a sz es len cap c e fr base spot own blk free hlen hcap fits rows _ ih =>
    rw [toRO_list]
    have hk := hl a.block [] (by simpa using own)
    refine .list spot hk.2 (hk.1.trans blk) (by simpa using hlen) hcap ?_ ?_ ?_
    · have : len * sz ≤ cap * sz := Nat.mul_le_mul_right _ hcap
      omega
    · intro i row hr
      rw [List.getElem?_map] at hr
      obtain ⟨row0, h0, rfl⟩ := Option.map_eq_some_iff.1 hr
      simpa using rows i row0 h0
    · intro i row j x hr hx
      rw [List.getElem?_map] at hr
      obtain ⟨row0, h0, rfl⟩ := Option.map_eq_some_iff.1 hr
      rw [List.getElem?_map] at hx
      obtain ⟨x0, hx0, rfl⟩ := Option.map_eq_some_iff.1 hx
      exact ih i row0 j x0 h0 hx0 (fun b p hb => hl b ((i, j) :: p) (by simpa [Loc.at] using hb))

/-! ### places inside a tree -/

/-- The rows at a path. -/
def nav : Nat → List (List T) → Path → Option (Nat × List (List T))
  | sz, rows, [] => some (sz, rows)
  | _, rows, (i, j) :: p =>
    match (rows.getD i []).getD j .dead with
    | .list true sz' es => nav sz' es p
    | _ => none

def modAt (f : List (List T) → List (List T)) : List (List T) → Path → List (List T)
  | rows, [] => f rows
  | rows, (i, j) :: p =>
    match (rows.getD i []).getD j .dead with
    | .list true sz' es => rows.set i ((rows.getD i []).set j (.list true sz' (modAt f es p)))
    | _ => rows

theorem getD_some {α : Type} {l : List α} {i : Nat} {d x : α} (h : l.getD i d = x) (hne : x ≠ d) : l[i]? = some x := by
  rw [List.getD_eq_getElem?_getD] at h
  cases hi : l[i]? with
  | none => rw [hi] at h; exact absurd h.symm hne
  | some y => rw [hi] at h; simpa using h

theorem cell_some {rows : List (List T)} {i j : Nat} {x : T} (h : (rows.getD i []).getD j .dead = x) (hne : x ≠ .dead) :
    ∃ row, rows[i]? = some row ∧ row[j]? = some x := by
  have h1 := getD_some h hne
  refine ⟨rows.getD i [], ?_, h1⟩
  rw [List.getD_eq_getElem?_getD] at *
  cases hi : rows[i]? with
  | none => rw [hi] at h1; simp at h1
  | some row => simp

/-- Where the tree has rows, memory has them. -/
theorem RepT.nav {w : World} {ow : Own} {bs : Base} : ∀ {p : Path} {ℓ : Loc} {sz rows bv sz' rows'}, RepT w ow bs ℓ (.list true sz rows) bv → VM.nav sz rows p = some (sz', rows') →
    RepT w ow bs (ℓ.1, ℓ.2 ++ p) (.list true sz' rows') (bs (ℓ.1, ℓ.2 ++ p)).2
  | [], ℓ, sz, rows, bv, sz', rows', h, hn => by
    simp only [VM.nav, Option.some.injEq, Prod.mk.injEq] at hn
    obtain ⟨rfl, rfl⟩ := hn
    have := h.base
    simpa [this] using h
  | (i, j) :: p, ℓ, sz, rows, bv, sz', rows', h, hn => by
    simp only [VM.nav] at hn
    split at hn
    · rename_i sz1 es1 hx
      obtain ⟨row, hr, hj⟩ := cell_some hx (by simp)
      cases h with
      | ro h => cases h
      | nil => simp at hr
      | list base spot own blk free hlen hcap fits hrows cells =>
        have := RepT.nav (cells i row j _ hr hj) hn
        simpa [Loc.at] using this
    · simp at hn

theorem getD_of {α : Type} {l : List α} {i : Nat} {d x : α} (h : l[i]? = some x) : l.getD i d = x := by
  rw [List.getD_eq_getElem?_getD, h]; rfl

theorem lt_of_getl {α : Type} {l : List α} {i : Nat} {x : α} (h : l[i]? = some x) : i < l.length := by
  rcases Nat.lt_or_ge i l.length with h' | h'
  · exact h'
  · rw [List.getElem?_eq_none h'] at h; cases h

/-- One place of a tree is turned: where memory stands for what is there now, the whole does. -/
theorem RepT.modAt {w w' : World} {ow ow' : Own} {bs bs' : Base} (hk : Kept w ow w' ow') (f : List (List T) → List (List T)) : ∀ {p : Path} {ℓ : Loc} {sz rows bv sz' rows'},
    RepT w ow bs ℓ (.list true sz rows) bv → VM.nav sz rows p = some (sz', rows') →
    (∀ b q, ow b = some (ℓ.1, ℓ.2 ++ q) → ¬ p <+: q → w'.heap[b]? = w.heap[b]? ∧ ow' b = ow b) → (∀ q, ¬ (p <+: q ∧ p ≠ q) → bs' (ℓ.1, ℓ.2 ++ q) = bs (ℓ.1, ℓ.2 ++ q)) →
    RepT w' ow' bs' (ℓ.1, ℓ.2 ++ p) (.list true sz' (f rows')) (bs (ℓ.1, ℓ.2 ++ p)).2 → RepT w' ow' bs' ℓ (.list true sz (VM.modAt f rows p)) bv
  | [], ℓ, sz, rows, bv, sz', rows', h, hn, hoff, hbs, hnew => by
    simp only [VM.nav, Option.some.injEq, Prod.mk.injEq] at hn
    obtain ⟨rfl, rfl⟩ := hn
    have := h.base
    simpa [VM.modAt, this] using hnew
  | (i, j) :: p, ℓ, sz, rows, bv, sz', rows', h, hn, hoff, hbs, hnew => by
    simp only [VM.nav] at hn
    split at hn
    · rename_i sz1 es1 hx
      obtain ⟨row, hr, hj⟩ := cell_some hx (by simp)
      have hrow : rows.getD i [] = row := getD_of hr
      have hi := lt_of_getl hr
      have hjl := lt_of_getl hj
      cases h with
      | ro h => cases h
      | nil => simp at hr
      | @list _ a _ _ len cap c e fr base spot own blk free hlen hcap fits hrows cells =>
        have hself := hoff a.block [] (by simpa using own) (by simp)
        have hbself := hbs [] (by simp)
        simp only [List.append_nil] at hbself
        have ih := RepT.modAt hk f (p := p) (ℓ := ℓ.at i j) (cells i row j _ hr hj) hn
          (fun b q hb hq => hoff b ((i, j) :: q) (by simpa [Loc.at] using hb) (by simpa using hq))
          (fun q hq => by have := hbs ((i, j) :: q) (by simpa using hq); simpa [Loc.at] using this) (by simpa [Loc.at] using hnew)
        have hm : VM.modAt f rows ((i, j) :: p) = rows.set i (row.set j (.list true sz1 (VM.modAt f es1 p))) := by
          simp only [VM.modAt]; rw [hx]; simp only [hrow]
        rw [hm]
        refine .list (hbself.trans base) spot (hself.2.trans own) (hself.1.trans blk) free (by simpa using hlen) hcap fits ?_ ?_
        · intro i' row' h'
          rw [List.getElem?_set] at h'
          split at h'
          · subst i'
            simp only [hi, if_true, Option.some.injEq] at h'
            subst h'
            simpa using hrows i row hr
          · exact hrows i' row' h'
        · intro i' row' j' x' h' hx'
          have hmove : ∀ (i' j' : Nat) (row0 : List T) (x0 : T), rows[i']? = some row0 → row0[j']? = some x0 → ¬ (i = i' ∧ j = j') →
              RepT w' ow' bs' (ℓ.at i' j') x0 (c.getD (a.off + i' * sz + j') undef) := by
            intro i' j' row0 x0 h0 hx0 hne
            have hpre : ∀ q, ¬ (i, j) :: p <+: (i', j') :: q := by
              intro q; simp; intro e1 e2; exact absurd ⟨e1, e2⟩ hne
            refine (cells i' row0 j' x0 h0 hx0).move hk ⟨fun b q hb => ?_, fun q => ?_⟩
            · have := hoff b ((i', j') :: q) (by simpa [Loc.at] using hb) (hpre q)
              exact ⟨this.1, this.2.trans hb⟩
            · have := hbs ((i', j') :: q) (fun h => hpre q h.1)
              simpa [Loc.at] using this
          rw [List.getElem?_set] at h'
          split at h'
          · subst i'
            simp only [hi, if_true, Option.some.injEq] at h'
            subst h'
            rw [List.getElem?_set] at hx'
            split at hx'
            · subst j'
              simp only [hjl, if_true, Option.some.injEq] at hx'
              subst hx'
              exact ih
            · rename_i hne
              exact hmove i j' row x' hr hx' (fun e => hne e.2)
          · rename_i hne
            exact hmove i' j' row' x' h' hx' (fun e => hne e.1)
    · simp at hn

end Go.VM
