/- Frames made small: what is not live is forgotten, roots get other numbers; nothing turns in memory. -/
import Derived.Test.YtcdgdiheoejjgaaVDraw6
namespace Go.VM
set_option linter.unusedSimpArgs false
set_option linter.unusedVariables false

/-- Memory that stands for 's' stands for 's'' as it is. -/
def Norm (n K : Nat) (s s' : FS) : Prop := ∀ w ow bs a, At n K s w ow bs a → ∃ ow' bs', Since K w ow bs w ow' bs' ∧ At n K s' w ow' bs' a

theorem vw_norm {P : Program} {n K : Nat} {c : Code} {Q : Exit → FS → Prop} {s s' : FS} (h : Norm n K s s') (k : VW P n K c Q s') : VW P n K c Q s := by
  intro w ow bs a ha
  obtain ⟨ow', bs', hs, ha'⟩ := h w ow bs a ha
  exact wp_mono (k w ow' bs' a ha') fun e a'' w'' hp => hp.mono hs fun _ h => h

abbrev Ren := List (Nat × Nat)
def Ren.go (ρ : Ren) (r : Nat) : Option Nat := (ρ.find? fun p => p.1 == r).map (·.2)
def Ren.from (ρ : Ren) (r : Nat) : Option Nat := (ρ.find? fun p => p.2 == r).map (·.1)

mutual
def renV (ρ : Ren) : VV → VV
  | .al r p m sz off len => (match ρ.go r with | some r' => .al r' p m sz off len | none => .undef)
  | .ptr r p m i j => (match ρ.go r with | some r' => .ptr r' p m i j | none => .undef)
  | .agg cs => .agg (renVs ρ cs)
  | .tup cs => .tup (renVs ρ cs)
  | x => x
def renVs (ρ : Ren) : List VV → List VV
  | [] => []
  | x :: xs => renV ρ x :: renVs ρ xs
end

theorem renVs_get {ρ : Ren} : ∀ {cs : List VV} {k : Nat} {y : VV}, (renVs ρ cs)[k]? = some y → ∃ x, cs[k]? = some x ∧ y = renV ρ x
  | [], k, y, h => by simp [renVs] at h
  | c :: cs, k, y, h => by
    cases k with
    | zero => simp [renVs] at h; exact ⟨c, rfl, h.symm⟩
    | succ k =>
      obtain ⟨x, h1, h2⟩ := renVs_get (cs := cs) (k := k) (by simpa [renVs] using h)
      exact ⟨x, by simpa using h1, h2⟩
theorem renVs_length {ρ : Ren} : ∀ (cs : List VV), (renVs ρ cs).length = cs.length
  | [] => rfl
  | c :: cs => by simp [renVs, renVs_length cs]

def Ren.ok (ρ : Ren) (K N : Nat) : Bool := decide ((ρ.map (·.1)).Nodup) && decide ((ρ.map (·.2)).Nodup) && ρ.all fun p => decide (p.2 < N) && (p.1 == p.2 || decide (K ≤ p.2))

theorem Ren.go_mem {ρ : Ren} {r r' : Nat} (h : ρ.go r = some r') : (r, r') ∈ ρ := by
  unfold Ren.go at h
  obtain ⟨p, h1, rfl⟩ := Option.map_eq_some_iff.1 h
  have := List.find?_some h1
  simp only [beq_iff_eq] at this
  have hm := List.mem_of_find?_eq_some h1
  rw [← this]; exact hm
theorem nodup_fst {l : List (Nat × Nat)} (h : (l.map (·.1)).Nodup) {a b c : Nat} (h1 : (a, b) ∈ l) (h2 : (a, c) ∈ l) : b = c := by
  induction l with
  | nil => cases h1
  | cons x l ih =>
    simp only [List.map_cons, List.nodup_cons] at h
    rcases List.mem_cons.1 h1 with e1 | e1
    · rcases List.mem_cons.1 h2 with e2 | e2
      · rw [← e1] at e2; simpa using e2.symm
      · exact absurd (List.mem_map.2 ⟨_, e2, by rw [← e1]⟩) h.1
    · rcases List.mem_cons.1 h2 with e2 | e2
      · exact absurd (List.mem_map.2 ⟨_, e1, by rw [← e2]⟩) h.1
      · exact ih h.2 e1 e2
theorem nodup_snd {l : List (Nat × Nat)} (h : (l.map (·.2)).Nodup) {a b c : Nat} (h1 : (b, a) ∈ l) (h2 : (c, a) ∈ l) : b = c := by
  induction l with
  | nil => cases h1
  | cons x l ih =>
    simp only [List.map_cons, List.nodup_cons] at h
    rcases List.mem_cons.1 h1 with e1 | e1
    · rcases List.mem_cons.1 h2 with e2 | e2
      · rw [← e1] at e2; simp at e2; exact e2.symm
      · exact absurd (List.mem_map.2 ⟨_, e2, by rw [← e1]⟩) h.1
    · rcases List.mem_cons.1 h2 with e2 | e2
      · exact absurd (List.mem_map.2 ⟨_, e1, by rw [← e2]⟩) h.1
      · exact ih h.2 e1 e2
theorem Ren.go_of {ρ : Ren} (h : (ρ.map (·.1)).Nodup) {r r' : Nat} (hm : (r, r') ∈ ρ) : ρ.go r = some r' := by
  cases hg : ρ.go r with
  | some x => rw [nodup_fst h (Ren.go_mem hg) hm]
  | none =>
    unfold Ren.go at hg
    simp only [Option.map_eq_none_iff, List.find?_eq_none] at hg
    exact absurd (hg _ hm) (by simp)
theorem Ren.from_mem {ρ : Ren} {r r' : Nat} (h : ρ.from r' = some r) : (r, r') ∈ ρ := by
  unfold Ren.from at h
  obtain ⟨p, h1, rfl⟩ := Option.map_eq_some_iff.1 h
  have := List.find?_some h1
  simp only [beq_iff_eq] at this
  have hm := List.mem_of_find?_eq_some h1
  rw [← this]; exact hm
theorem Ren.from_of {ρ : Ren} (h : (ρ.map (·.2)).Nodup) {r r' : Nat} (hm : (r, r') ∈ ρ) : ρ.from r' = some r := by
  cases hg : ρ.from r' with
  | some x => rw [nodup_snd h (Ren.from_mem hg) hm]
  | none =>
    unfold Ren.from at hg
    simp only [Option.map_eq_none_iff, List.find?_eq_none] at hg
    exact absurd (hg _ hm) (by simp)

def owN (ρ : Ren) (ow : Own) : Own := fun b => match ow b with | some (r, p) => (match ρ.go r with | some r' => some (r', p) | none => none) | none => none
def bsN (ρ : Ren) (bs : Base) : Base := fun ℓ => match ρ.from ℓ.1 with | some r => bs (r, ℓ.2) | none => bs ℓ

theorem renV_rel {w : World} {ow : Own} {bs : Base} {st st' : St} {fr : Nat → Prop} {ρ : Ren} {K N : Nat} (hρ : ρ.ok K N = true) (hst : ∀ r r' R, (r, r') ∈ ρ → st' r' = some R → st r = some R) {x : VV} {v : Value} (h : RelV w ow bs st fr x v) :
    RelV w (owN ρ ow) (bsN ρ bs) st' (fun x => N ≤ x) (renV ρ x) v := by
  simp only [Ren.ok, Bool.and_eq_true, decide_eq_true_eq, List.all_eq_true, Bool.or_eq_true, beq_iff_eq] at hρ
  obtain ⟨⟨hn1, hn2⟩, hall⟩ := hρ
  have hkept : Kept w ow w (owN ρ ow) := fun b hb _ => ⟨rfl, by simp [owN, hb]⟩
  have hbs : ∀ r r' p, (r, r') ∈ ρ → bsN ρ bs (r', p) = bs (r, p) := by
    intro r r' p hm
    simp only [bsN, Ren.from_of hn2 hm]
  have hstill : ∀ r r' p m, (r, r') ∈ ρ → Still st' r' p m → Still st r p m := by
    intro r r' p m hm hs
    rcases hs with hs | ⟨R, h1, h2⟩
    · exact .inl hs
    · exact .inr ⟨R, hst r r' R hm h1, h2⟩
  induction h with
  | c h => simp only [renV]; exact .c (h.mono hkept)
  | nils => simp only [renV]; exact .nils
  | @al r p m sz off len v hf h hv hm =>
    simp only [renV]
    cases hg : ρ.go r with
    | none => exact .undef
    | some r' =>
      have hm' := Ren.go_mem hg
      refine .al ?_ (fun hs => ?_) hv (fun R hR => hm R (hst r r' R hm' hR))
      · have := (hall _ hm').1
        omega
      · rw [hbs r r' p hm']; exact h (hstill r r' p m hm' hs)
  | @ptr r p m i j v hf h hv hm =>
    simp only [renV]
    cases hg : ρ.go r with
    | none => exact .undef
    | some r' =>
      have hm' := Ren.go_mem hg
      refine .ptr ?_ (fun hs => ?_) hv (fun R hR => hm R (hst r r' R hm' hR))
      · have := (hall _ hm').1
        omega
      · rw [hbs r r' p hm']; exact h (hstill r r' p m hm' hs)
  | agg hl _ ih =>
    simp only [renV]
    refine .agg (by rw [renVs_length]; exact hl) (fun k x hx => ?_)
    obtain ⟨y, h1, rfl⟩ := renVs_get hx
    exact ih k y h1
  | tup hl _ ih =>
    simp only [renV]
    refine .tup (by rw [renVs_length]; exact hl) (fun k x hx => ?_)
    obtain ⟨y, h1, rfl⟩ := renVs_get hx
    exact ih k y h1
  | rop spot own blk fits cells =>
    simp only [renV]
    have hb := hkept _ own (lt_of_get blk)
    exact .rop spot hb.2 blk fits (fun j x hx => (cells j x hx).mono hkept)
  | fn hl hh ih =>
    simp only [renV] at ih ⊢
    exact .fn hl ih
  | undef => simp only [renV]; exact .undef

/-! ### frames by tables -/

def tabE : List (Nat × VV) → Nat → VV
  | [], _ => .undef
  | (k, v) :: l, t => if t = k then v else tabE l t
def tabS : List (Nat × Option Root) → St
  | [], _ => none
  | (k, R) :: l, r => if r = k then R else tabS l r

theorem tabE_mem : ∀ {l : List (Nat × VV)} {t : Nat}, tabE l t = .undef ∨ (t, tabE l t) ∈ l
  | [], t => .inl rfl
  | (k, v) :: l, t => by
    simp only [tabE]
    split
    · rename_i e; subst e; exact .inr (by simp)
    · rcases tabE_mem (l := l) (t := t) with h | h
      · exact .inl h
      · exact .inr (List.mem_cons_of_mem _ h)
theorem tabS_mem : ∀ {l : List (Nat × Option Root)} {r : Nat} {R : Root}, tabS l r = some R → (r, some R) ∈ l
  | [], r, R, h => by simp [tabS] at h
  | (k, R0) :: l, r, R, h => by
    simp only [tabS] at h
    split at h
    · rename_i e; subst e; rw [h]; simp
    · exact List.mem_cons_of_mem _ (tabS_mem h)

theorem dstE_tab (l : List (Nat × VV)) (d : Nat) (v : VV) : dstE (tabE l) (some d) v = tabE ((d, v) :: l) := by
  funext t; simp [dstE, setE, tabE]
theorem ups_tab (l : List (Nat × Option Root)) (r : Nat) (R : Option Root) (u : Ups) : (tabS l).ups ((r, R) :: u) = (tabS ((r, R) :: l)).ups u := by
  have h : (tabS l).put r R = tabS ((r, R) :: l) := by
    funext x; simp [St.put, tabS]
  rw [St.ups, h]

/-- The frame's live values and roots, and no more. -/
theorem norm_tab {n K : Nat} {s : FS} (ρ : Ren) (tab : List (Nat × VV)) (rts : List (Nat × Option Root)) (N : Nat) (hρ : ρ.ok K N = true) (hK : K ≤ N)
    (hE : ∀ p ∈ tab, renV ρ (s.env p.1) = p.2) (hR : ∀ p ∈ rts, ∀ R, p.2 = some R → ∃ r, ρ.from p.1 = some r ∧ s.st r = some R) : Norm n K s ⟨tabE tab, tabS rts, N⟩ := by
  intro w ow bs a ha
  have hρ' := hρ
  simp only [Ren.ok, Bool.and_eq_true, decide_eq_true_eq, List.all_eq_true, Bool.or_eq_true, beq_iff_eq] at hρ'
  obtain ⟨⟨hn1, hn2⟩, hall⟩ := hρ'
  have hkept : Kept w ow w (owN ρ ow) := fun b hb _ => ⟨rfl, by simp [owN, hb]⟩
  have hbs : ∀ r r' p, (r, r') ∈ ρ → bsN ρ bs (r', p) = bs (r, p) := by
    intro r r' p hm
    simp only [bsN, Ren.from_of hn2 hm]
  have hst : ∀ r' R, tabS rts r' = some R → ∃ r, (r, r') ∈ ρ ∧ s.st r = some R := by
    intro r' R h
    obtain ⟨r, h1, h2⟩ := hR _ (tabS_mem h) R rfl
    exact ⟨r, Ren.from_mem h1, h2⟩
  have hmoved : ∀ r r', (r, r') ∈ ρ → Moved w ow bs (r, []) w (owN ρ ow) (bsN ρ bs) (r', []) := by
    intro r r' hm
    refine ⟨fun b p hb => ⟨rfl, ?_⟩, fun p => ?_⟩
    · simp only [List.nil_append] at hb
      simp only [owN, hb, Ren.go_of hn1 hm, List.nil_append]
    · simp only [List.nil_append]; exact hbs r r' p hm
  refine ⟨owN ρ ow, bsN ρ bs, ⟨⟨hkept, Nat.le_refl _, rfl, rfl, rfl⟩, fun r hr => ?_⟩, ⟨⟨?_, ?_, ?_, ?_⟩, ?_, ha.size, ha.defers, hK⟩⟩
  · simp only [bsN]
    cases hf : ρ.from r with
    | none => rfl
    | some r0 =>
      have hm := Ren.from_mem hf
      rcases (hall _ hm).2 with e | e
      · simp only at e; rw [e]
      · simp only at e; omega
  · intro r' R h
    obtain ⟨r, hm, h2⟩ := hst r' R h
    rw [hbs r r' [] hm]
    exact (ha.rel.root r R h2).move hkept (hmoved r r' hm)
  · intro r' R h hb
    obtain ⟨r, hm, h2⟩ := hst r' R h
    rw [hbs r r' [] hm]
    exact ha.rel.box r R h2 hb
  · intro b ℓ hb
    simp only [owN] at hb
    split at hb
    · rename_i r p ho
      split at hb
      · rename_i r' hg
        simp only [Option.some.injEq] at hb
        subst hb
        have := (hall _ (Ren.go_mem hg)).1
        simp only at this
        exact ⟨by simp only; omega, (ha.rel.own b _ ho).2⟩
      · cases hb
    · cases hb
  · intro r' hr'
    cases h : tabS rts r' with
    | none => exact h
    | some R =>
      obtain ⟨r, hm, _⟩ := hst r' R h
      have := (hall _ hm).1
      simp only at this hr'
      omega
  · intro t
    rcases tabE_mem (l := tab) (t := t) with h | h
    · show RelV _ _ _ _ _ (tabE tab t) _
      rw [h]; exact .undef
    · have := hE _ h
      simp only at this
      show RelV _ _ _ _ _ (tabE tab t) _
      rw [← this]
      refine renV_rel hρ (fun r r' R hm hR' => ?_) (ha.env t)
      obtain ⟨r2, hm2, h2⟩ := hst r' R hR'
      rw [nodup_snd hn2 hm hm2]; exact h2

/-- Rounds whose heads are tables: 'tab x', 'rts x' at 'x', which gets less. -/
theorem vw_loop_tab {P : Program} {n K : Nat} {c : Code} {Q : Exit → FS → Prop} {α : Type} (μ : α → Nat) (F : α → FS) (I : α → Prop)
    (round : ∀ x, I x → VW P n K c (thenV (fun s' => ∃ y, μ y < μ x ∧ I y ∧ Norm n K s' (F y)) Q) (F x)) {x : α} {s : FS} (h0 : I x) (hn : Norm n K s (F x)) : VW P n K (.loop c) Q s := by
  refine vw_loop (fun m s => ∃ x, μ x = m ∧ I x ∧ Norm n K s (F x)) (fun m s => ?_) ⟨x, rfl, h0, hn⟩
  rintro ⟨x, rfl, hx, hn⟩
  refine vw_norm hn (vw_mono (round x hx) fun e s' h => ?_)
  cases e with
  | normal =>
    obtain ⟨y, h1, h2, h3⟩ := h
    exact ⟨μ y, h1, y, rfl, h2, h3⟩
  | _ => exact h

/-! ### one operation of a region -/

theorem runL_op {P : Program} {ops : Array Oper} {nx i : Nat} {o : Oper} {l : List Oper} {env : Nat → VV} {st : St} {K : (Nat → VV) → St → Prop} {v : VV} {u : Ups} (hw : wantedV ops o env = some true) (hv : vop P (nx + 1024 * i) o env st = some ⟨v, u⟩)
    (h : runL P ops nx (i + 1) l (dstE env o.dst v) (st.ups u) K) : runL P ops nx i (o :: l) env st K := by
  simp only [runL, hw]
  exact ⟨_, vop_ok hv, h⟩
theorem runL_ok {P : Program} {ops : Array Oper} {nx i : Nat} {o : Oper} {l : List Oper} {env : Nat → VV} {st : St} {K : (Nat → VV) → St → Prop} {v : VV} {u : Ups} (hw : wantedV ops o env = some true) (hv : OpOk P (nx + 1024 * i) o env st ⟨v, u⟩)
    (h : runL P ops nx (i + 1) l (dstE env o.dst v) (st.ups u) K) : runL P ops nx i (o :: l) env st K := by
  simp only [runL, hw]
  exact ⟨_, hv, h⟩
theorem runL_no {P : Program} {ops : Array Oper} {nx i : Nat} {o : Oper} {l : List Oper} {env : Nat → VV} {st : St} {K : (Nat → VV) → St → Prop} (hw : wantedV ops o env = some false)
    (h : runL P ops nx (i + 1) l (dstE env o.dst (.tup [])) st K) : runL P ops nx i (o :: l) env st K := by
  simp only [runL, hw]
  exact h

end Go.VM
