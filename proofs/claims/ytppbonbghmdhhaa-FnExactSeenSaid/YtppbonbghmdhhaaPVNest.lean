/- A list that lies in another one is handed over to a call, turned, and given back. -/
import Derived.Test.YtppbonbghmdhhaaPVBk
namespace Go.VM
set_option linter.unusedSimpArgs false
set_option linter.unusedVariables false

/-- What is plain within needs no memory that others own. -/
theorem RepT.moveC {w w' : World} {ow ow' : Own} {bs bs' : Base} {ℓ : Loc} {x : T} {v : Value} (h : RepT w ow bs ℓ x v) :
    ∀ {ℓ' : Loc}, x.clean = true → Moved w ow bs ℓ w' ow' bs' ℓ' → RepT w' ow' bs' ℓ' x v := by
  induction h with
  | ro h =>
    intro ℓ' hc _
    cases h with
    | int => exact .ro .int
    | bool => exact .ro .bool
    | str => exact .ro .str
    | dead => exact .ro .dead
    | nil => simp [T.clean] at hc
    | list => simp [T.clean] at hc
    | held => simp [T.clean] at hc
  | nil base => exact fun _ m => .nil (by have := m.2 []; simp at this; exact this.trans base)
  | @list ℓ a sz es len cap c e fr base spot own blk free hlen hcap fits rows _ ih =>
    intro ℓ' hc m
    have hk := m.1 a.block [] (by simpa using own)
    refine .list (by have := m.2 []; simp at this; exact this.trans base) spot (by simpa using hk.2) (hk.1.trans blk) free hlen hcap fits rows
      (fun i row j x h1 h2 => ih i row j x h1 h2 ?_ (m.at i j))
    have : cleanRs es = true := by simpa [T.clean] using hc
    exact cleanR_get (cleanRs_get this h1) h2

def sinkOw (ow : Own) (r : Nat) (p : Path) : Own := fun b => match ow b with
  | some (x, q) => if x = r ∧ p.isPrefixOf q = true then some (r, q.drop p.length) else none
  | none => none
def sinkBase (bs : Base) (r : Nat) (p : Path) : Base := fun ℓ => if ℓ.1 = r then bs (r, p ++ ℓ.2) else bs ℓ
def riseOw (ow ow' : Own) (r : Nat) (p : Path) : Own := fun b => match ow b with
  | some (x, q) => if x = r ∧ p.isPrefixOf q = true then (match ow' b with | some (y, q') => if y = r then some (r, p ++ q') else none | none => none) else some (x, q)
  | none => (match ow' b with | some (y, q') => if y = r then some (r, p ++ q') else none | none => none)
def riseBase (bs bs' : Base) (r : Nat) (p : Path) : Base := fun ℓ => if ℓ.1 = r ∧ p.isPrefixOf ℓ.2 = true then bs' (r, ℓ.2.drop p.length) else bs ℓ

theorem pre_append (p q : Path) : p.isPrefixOf (p ++ q) = true := by
  rw [List.isPrefixOf_iff_prefix]; exact List.prefix_append p q
theorem pre_nil {p : Path} (h : p ≠ []) : p.isPrefixOf ([] : Path) = false := by
  cases p with
  | nil => exact absurd rfl h
  | cons a p => rfl

theorem Rel.sink {w ow bs st fr} (h : Rel w ow bs st fr) {r R p sz es} (hr : st r = some R) (hn : nav R.sz R.rows p = some (sz, es)) :
    Rel w (sinkOw ow r p) (sinkBase bs r p) (tabS [(r, some ⟨false, sz, es, []⟩)]) fr ∧ Kept w ow w (sinkOw ow r p) := by
  have hk : Kept w ow w (sinkOw ow r p) := fun b hb _ => ⟨rfl, by simp [sinkOw, hb]⟩
  have hnf : ¬ fr r := fun e => by rw [h.free r e] at hr; cases hr
  refine ⟨⟨fun x R' hx => ?_, fun x R' hx hb => ?_, fun b ℓ hb => ?_, fun x hx => ?_⟩, hk⟩
  · simp only [tabS] at hx
    split at hx
    · rename_i e
      subst e
      simp only [Option.some.injEq] at hx
      subst hx
      have hp := (h.root x R hr).nav hn
      simp only [List.nil_append] at hp
      have e2 : sinkBase bs x p (x, []) = bs (x, p) := by simp [sinkBase]
      rw [e2]
      exact hp.move hk ⟨fun b q hb => ⟨rfl, by simp only [sinkOw, hb, pre_append, and_self, if_true]; simp⟩, fun q => by simp [sinkBase]⟩
    · cases hx
  · simp only [tabS] at hx
    split at hx
    · simp only [Option.some.injEq] at hx; subst hx; cases hb
    · cases hx
  · simp only [sinkOw] at hb
    split at hb
    · rename_i x q hq
      have := h.own b _ hq
      split at hb
      · simp only [Option.some.injEq] at hb; subst hb; exact ⟨hnf, this.2⟩
      · cases hb
    · cases hb
  · simp only [tabS]
    split
    · rename_i e; subst e; exact absurd hx hnf
    · rfl

theorem pre_split {p q : Path} (h : p.isPrefixOf q = true) : ∃ q', q = p ++ q' := by
  rw [List.isPrefixOf_iff_prefix] at h
  obtain ⟨q', rfl⟩ := h
  exact ⟨q', rfl⟩

theorem riseOw_in {ow ow' : Own} {r : Nat} {p q : Path} {b : Nat} (h : ow' b = some (r, q)) (h0 : ow b = none ∨ ∃ q', ow b = some (r, p ++ q')) : riseOw ow ow' r p b = some (r, p ++ q) := by
  rcases h0 with h0 | ⟨q', h0⟩
  · simp [riseOw, h0, h]
  · simp only [riseOw, h0, h, pre_append, and_self, if_true]
theorem riseOw_out {ow ow' : Own} {r : Nat} {p q : Path} {x b : Nat} (h : ow b = some (x, q)) (hn : ¬ (x = r ∧ p.isPrefixOf q = true)) : riseOw ow ow' r p b = some (x, q) := by
  simp only [riseOw, h, if_neg hn]
theorem sinkOw_out {ow : Own} {r : Nat} {p q : Path} {x b : Nat} (h : ow b = some (x, q)) (hn : ¬ (x = r ∧ p.isPrefixOf q = true)) : sinkOw ow r p b = none := by
  simp only [sinkOw, h, if_neg hn]

/-- The nested list comes back to its place. -/
theorem Rel.rise {w w' : World} {ow ow' : Own} {bs bs' : Base} {st st' : St} {fr fr' : Nat → Prop} (h : Rel w ow bs st fr) {r R p sz es es' lg} (hp : p ≠ []) (hr : st r = some R) (hn : nav R.sz R.rows p = some (sz, es))
    (h' : Rel w' ow' bs' st' fr') (hf : ∀ x, fr' x → fr x) (hr' : st' r = some ⟨false, sz, es', lg⟩) (hb' : bs' (r, []) = bs (r, p)) (hs : Steady w (sinkOw ow r p) w' ow') (hcl : cleanRs es' = true) :
    Rel w' (riseOw ow ow' r p) (riseBase bs bs' r p) (st.put r (some { R with rows := modAt (fun _ => es') R.rows p, log := R.log ++ [p] })) fr' ∧ Steady w ow w' (riseOw ow ow' r p) ∧
    Quiet bs st fr (riseBase bs bs' r p) (st.put r (some { R with rows := modAt (fun _ => es') R.rows p, log := R.log ++ [p] })) fr' := by
  have hnf : ¬ fr r := fun e => by rw [h.free r e] at hr; cases hr
  have hk : Kept w ow w' (riseOw ow ow' r p) := fun b hb hlt => by
    have h1 : sinkOw ow r p b = none := by simp [sinkOw, hb]
    obtain ⟨e1, e2⟩ := hs.kept b h1 hlt
    exact ⟨e1, by simp [riseOw, hb, e2]⟩
  have out : ∀ b x q, ow b = some (x, q) → ¬ (x = r ∧ p.isPrefixOf q = true) → w'.heap[b]? = w.heap[b]? ∧ riseOw ow ow' r p b = some (x, q) ∧ ow' b = none := fun b x q hb hn => by
    obtain ⟨e1, e2⟩ := hs.kept b (sinkOw_out hb hn) (h.own b _ hb).2
    exact ⟨e1, riseOw_out hb hn, e2⟩
  have inn : ∀ b q, ow' b = some (r, q) → riseOw ow ow' r p b = some (r, p ++ q) := fun b q hb => by
    cases h0 : ow b with
    | none => exact riseOw_in hb (.inl h0)
    | some ℓ =>
      obtain ⟨x, q0⟩ := ℓ
      by_cases hn : x = r ∧ p.isPrefixOf q0 = true
      · obtain ⟨rfl, hn⟩ := hn
        obtain ⟨q', rfl⟩ := pre_split hn
        exact riseOw_in hb (.inr ⟨q', h0⟩)
      · have := (out b x q0 h0 hn).2.2
        rw [hb] at this; cases this
  have bin : ∀ q, riseBase bs bs' r p (r, p ++ q) = bs' (r, q) := fun q => by simp only [riseBase, pre_append, and_self, if_true]; simp
  have bout : ∀ x q, ¬ (x = r ∧ p.isPrefixOf q = true) → riseBase bs bs' r p (x, q) = bs (x, q) := fun x q hn => by simp only [riseBase, if_neg hn]
  have b0 : riseBase bs bs' r p (r, []) = bs (r, []) := bout r [] (fun e => by rw [pre_nil hp] at e; cases e.2)
  refine ⟨⟨fun x R' hx => ?_, fun x R' hx hb => ?_, fun b ℓ hb => ?_, fun x hx => ?_⟩, ⟨hk, hs.size, hs.os, hs.tape, hs.output⟩, ⟨fun x hx => ?_, fun x q m hx hq hm hst => ?_, fun x R' hx hx' => ?_, hf⟩⟩
  · by_cases e : x = r
    · subst e
      simp only [St.put_eq, Option.some.injEq] at hx
      subst hx
      rw [b0]
      refine RepT.modAt hk (fun _ => es') (h.root x R hr) hn (fun b q hb hq => ?_) (fun q hq => ?_) ?_
      · simp only [List.nil_append] at hb
        have := out b x q hb (fun e => hq (List.isPrefixOf_iff_prefix.1 e.2))
        exact ⟨this.1, this.2.1.trans hb.symm⟩
      · simp only [List.nil_append]
        by_cases hpq : p.isPrefixOf q = true
        · have e1 : p = q := Classical.byContradiction fun hne => hq ⟨List.isPrefixOf_iff_prefix.1 hpq, hne⟩
          subst e1
          have := bin []
          rw [List.append_nil] at this
          rw [this, hb']
        · exact bout x q (fun e => hpq e.2)
      · simp only [List.nil_append]
        have h1 := h'.root x _ hr'
        simp only at h1
        rw [hb'] at h1
        exact h1.moveC (by simpa [T.clean] using hcl) ⟨fun b q hb => ⟨rfl, inn b q (by simpa using hb)⟩, fun q => by rw [List.nil_append]; exact bin q⟩
    · rw [St.put_ne _ _ e] at hx
      rw [bout x [] (fun e' => e e'.1)]
      exact (h.root x R' hx).move hk ⟨fun b q hb => by
        have := out b x _ hb (fun e' => e e'.1)
        exact ⟨this.1, this.2.1⟩, fun q => bout x _ (fun e' => e e'.1)⟩
  · by_cases e : x = r
    · subst e
      simp only [St.put_eq, Option.some.injEq] at hx
      subst hx
      rw [b0]
      exact h.box x R hr hb
    · rw [St.put_ne _ _ e] at hx
      rw [bout x [] (fun e' => e e'.1)]
      exact h.box x R' hx hb
  · have fin : ∀ q, ow' b = some (r, q) → b < w'.heap.size := fun q hq => (h'.own b _ hq).2
    have key : ∀ ℓ, (match ow' b with | some (y, q') => if y = r then some (r, p ++ q') else none | none => none) = some ℓ → ¬ fr' ℓ.1 ∧ b < w'.heap.size := fun ℓ he => by
      split at he
      · rename_i y q' hy
        split at he
        · rename_i e
          subst e
          simp only [Option.some.injEq] at he; subst he
          exact ⟨fun e => hnf (hf _ e), fin q' hy⟩
        · cases he
      · cases he
    unfold riseOw at hb
    split at hb
    · rename_i x q hq
      have h0 := h.own b _ hq
      split at hb
      · exact key _ hb
      · simp only [Option.some.injEq] at hb; subst hb
        exact ⟨fun e => h0.1 (hf _ e), Nat.lt_of_lt_of_le h0.2 hs.size⟩
    · exact key _ hb
  · have hx0 := hf x hx
    by_cases e : x = r
    · subst e; exact absurd hx0 hnf
    · rw [St.put_ne _ _ e]; exact h.free x hx0
  · exact bout x [] (fun e => by rw [pre_nil hp] at e; cases e.2)
  · by_cases e : x = r
    · subst e
      rcases hst with h1 | ⟨R2, h1, h2⟩
      · exact absurd h1 hq
      · simp only [St.put_eq, Option.some.injEq] at h1
        subst h1
        simp only [fresh, Bool.or_eq_true] at h2
        have hqe : q.isEmpty = false := by cases q with | nil => exact absurd rfl hq | cons _ _ => rfl
        rw [hqe] at h2
        simp only [Bool.false_eq_true, false_or] at h2
        rw [List.drop_append_of_le_length (hm R hr), List.all_append] at h2
        simp only [Bool.and_eq_true, List.all_cons, List.all_nil, Bool.and_true, Bool.not_eq_true'] at h2
        refine ⟨.inr ⟨R, hr, by simp only [fresh, Bool.or_eq_true]; exact .inr h2.1⟩, bout x q (fun e => by rw [h2.2] at e; cases e.2)⟩
    · refine ⟨?_, bout x q (fun e' => e e'.1)⟩
      rcases hst with h1 | ⟨R2, h1, h2⟩
      · exact .inl h1
      · rw [St.put_ne _ _ e] at h1; exact .inr ⟨R2, h1, h2⟩
  · by_cases e : x = r
    · subst e
      simp only [St.put_eq, Option.some.injEq] at hx'
      subst hx'
      exact ⟨R, hr, by simp⟩
    · rw [St.put_ne _ _ e] at hx'
      exact ⟨R', hx', Nat.le_refl _⟩

/-- An operation that turns a nested list, shown where that list stands alone. -/
theorem op_nest {P : Program} {fid : Nat} {o : Oper} {env : Nat → VV} {st : St} (env1 : Nat → VV) (r : Nat) (p : Path) (m : Nat) {R : Root} {sz : Nat} {es es' : List (List T)} {lg : List Path} {y : T} {u : Ups} {e : VV}
    (hin : OpOk P fid o env1 (tabS [(r, some ⟨false, sz, es, []⟩)]) ⟨e, u⟩) (he : e = .c y) (hy : y.clean = true ∧ isOwn y = false) (hr : st r = some R) (hn : nav R.sz R.rows p = some (sz, es)) (hp : p ≠ []) (hfr : fresh R m p = true)
    (henv : ∀ t, env1 t = .undef ∨ (∃ z, env1 t = .c z ∧ env t = .c z) ∨ (env1 t = .al r [] 0 sz 0 es.length ∧ env t = .al r p m sz 0 es.length))
    (hu : ((tabS [(r, some ⟨false, sz, es, []⟩)]).ups u) r = some ⟨false, sz, es', lg⟩) (hcl : cleanRs es' = true) :
    OpOk P fid o env st ⟨.c y, [(r, some { R with rows := modAt (fun _ => es') R.rows p, log := R.log ++ [p] })]⟩ := by
  subst he
  intro w ow bs fr a hrel henv0 hroom next Q hk
  have hnf : ¬ fr r := fun e => by rw [hrel.free r e] at hr; cases hr
  obtain ⟨h1, hk1⟩ := hrel.sink hr hn
  have b1 : sinkBase bs r p (r, []) = bs (r, p) := by simp [sinkBase]
  refine hin w _ _ fr a h1 (fun t => ?_) hroom next Q (fun val w' ow' bs' hst hrel' hv hq => ?_)
  · rcases henv t with h | ⟨z, h, h0⟩ | ⟨h, h0⟩
    · rw [h]; exact .undef
    · have := henv0 t
      rw [h0] at this
      rw [h]
      cases this with
      | c hz => exact .c (hz.mono hk1)
    · have := henv0 t
      rw [h0] at this
      rw [h]
      cases this with
      | al a1 a2 a3 a4 =>
        refine .al a1 (fun _ => ?_) a3 (fun _ _ => Nat.zero_le _)
        rw [b1]
        exact a2 (.inr ⟨R, hr, hfr⟩)
  · obtain ⟨g1, g2, g3⟩ := hrel.rise hp hr hn hrel' (fun x hx => hx.1) hu ((hq.base r hnf).trans b1) hst hcl
    refine hk val w' (riseOw ow ow' r p) (riseBase bs bs' r p) g2 ?_ ?_ ?_
    · simpa only [St.ups_cons, St.ups_nil] using g1
    · refine .c ?_
      cases hv with
      | c hz =>
        cases hz with
        | int => exact .int
        | bool => exact .bool
        | str => exact .str
        | dead => exact .dead
        | nil => simp [T.clean] at hy
        | list => simp [T.clean] at hy
        | held => simp [T.clean] at hy
    · simpa only [St.ups_cons, St.ups_nil] using g3
end Go.VM
