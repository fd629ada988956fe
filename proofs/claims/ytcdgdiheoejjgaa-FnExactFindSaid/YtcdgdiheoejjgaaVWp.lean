/- Frames: what code does to a frame's values and roots. Rules for regions, sequences, choices, blocks, rounds. -/
import Derived.Test.YtcdgdiheoejjgaaVVop
namespace Go.VM
set_option linter.unusedSimpArgs false
set_option linter.unusedVariables false

structure FS where
  env : Nat → VV
  st : St
  nx : Nat

/-- Memory and the frame's slots stand for 's'; the numbers below 'K' are the parameters' own. -/
structure At (n K : Nat) (s : FS) (w : World) (ow : Own) (bs : Base) (a : Act) : Prop where
  rel : Rel w ow bs s.st (fun x => s.nx ≤ x)
  env : RelE w ow bs s.st (fun x => s.nx ≤ x) s.env a
  size : a.tmps.size = n
  defers : a.defers = []
  old : K ≤ s.nx

/-- What has stayed since then. -/
structure Since (K : Nat) (w : World) (ow : Own) (bs : Base) (w' : World) (ow' : Own) (bs' : Base) : Prop where
  steady : Steady w ow w' ow'
  base : ∀ r, r < K → bs' (r, []) = bs (r, [])

theorem Since.refl (K : Nat) (w ow bs) : Since K w ow bs w ow bs := ⟨Steady.refl _ _, fun _ _ => rfl⟩
theorem Since.trans {K w ow bs w1 ow1 bs1 w2 ow2 bs2} (h : Since K w ow bs w1 ow1 bs1) (k : Since K w1 ow1 bs1 w2 ow2 bs2) : Since K w ow bs w2 ow2 bs2 :=
  ⟨h.steady.trans k.steady, fun r hr => (k.base r hr).trans (h.base r hr)⟩

def Post (n K : Nat) (Q : Exit → FS → Prop) (w : World) (ow : Own) (bs : Base) (e : Exit) (a' : Act) (w' : World) : Prop :=
  ∃ s' ow' bs', Q e s' ∧ Since K w ow bs w' ow' bs' ∧ At n K s' w' ow' bs' a'

/-- From 's' on, code ends so that 'Q' holds. -/
def VW (P : Program) (n K : Nat) (c : Code) (Q : Exit → FS → Prop) (s : FS) : Prop :=
  ∀ w ow bs a, At n K s w ow bs a → c.wp P (Post n K Q w ow bs) a w

theorem Post.mono {n K : Nat} {Q Q' : Exit → FS → Prop} {w w1 ow ow1 bs bs1 e a' w'} (hs : Since K w ow bs w1 ow1 bs1) (hq : ∀ s, Q e s → Q' e s) (h : Post n K Q w1 ow1 bs1 e a' w') : Post n K Q' w ow bs e a' w' := by
  obtain ⟨s', ow', bs', h1, h2, h3⟩ := h
  exact ⟨s', ow', bs', hq _ h1, hs.trans h2, h3⟩

theorem vw_mono {P : Program} {n K : Nat} {c : Code} {Q Q' : Exit → FS → Prop} {s : FS} (h : VW P n K c Q s) (hq : ∀ e s, Q e s → Q' e s) : VW P n K c Q' s :=
  fun w ow bs a ha => wp_mono (h w ow bs a ha) fun e a' w' hp => hp.mono (Since.refl _ _ _ _) (hq e)

theorem vw_skip {P : Program} {n K : Nat} {Q : Exit → FS → Prop} {s : FS} (h : Q .normal s) : VW P n K .skip Q s :=
  fun w ow bs a ha => wp_skip ⟨s, ow, bs, h, Since.refl _ _ _ _, ha⟩
theorem vw_label {P : Program} {n K : Nat} {l : Nat} {Q : Exit → FS → Prop} {s : FS} (h : Q .normal s) : VW P n K (.label l) Q s :=
  fun w ow bs a ha => wp_label ⟨s, ow, bs, h, Since.refl _ _ _ _, ha⟩
theorem vw_exit {P : Program} {n K : Nat} {id : Nat} {Q : Exit → FS → Prop} {s : FS} (h : Q (.exit id) s) : VW P n K (.exit id) Q s :=
  fun w ow bs a ha => wp_exit ⟨s, ow, bs, h, Since.refl _ _ _ _, ha⟩
theorem vw_ret {P : Program} {n K : Nat} {Q : Exit → FS → Prop} {s : FS} (h : Q .ret s) : VW P n K .ret Q s :=
  fun w ow bs a ha => wp_ret ⟨s, ow, bs, h, Since.refl _ _ _ _, ha⟩

/-- What comes next, where code runs through. -/
def thenV (K : FS → Prop) (Q : Exit → FS → Prop) : Exit → FS → Prop
  | .normal, s => K s
  | e, s => Q e s

theorem vw_seq {P : Program} {n K : Nat} {x y : Code} {Q : Exit → FS → Prop} {s : FS} (h : VW P n K x (thenV (VW P n K y Q) Q) s) : VW P n K (.seq x y) Q s := by
  intro w ow bs a ha
  refine wp_seq (wp_mono (h w ow bs a ha) ?_)
  rintro e a' w' ⟨s', ow', bs', hq, hs, ha'⟩
  cases e with
  | normal => exact wp_mono (hq w' ow' bs' a' ha') fun e a'' w'' hp => hp.mono hs fun _ h => h
  | _ => exact ⟨s', ow', bs', hq, hs, ha'⟩

theorem eval_rel {P : Program} {n K : Nat} {s : FS} {w ow bs a} (ha : At n K s w ow bs a) (t : TypeId) (x : Operand) : RelV w ow bs s.st (fun x => s.nx ≤ x) (ev P s.env t x) (a.eval x) := ev_rel ha.env t x

theorem vw_cond {P : Program} {n K : Nat} {c : Operand} {x y : Code} {t : Bool} {Q : Exit → FS → Prop} {s : FS} (hc : ev P s.env 0 c = .c (.bool t)) (h1 : t = true → VW P n K x Q s) (h2 : t = false → VW P n K y Q s) : VW P n K (.cond c x y) Q s := by
  intro w ow bs a ha
  have := eval_rel (P := P) ha 0 c
  rw [hc] at this
  exact wp_cond_split (rel_bool this) (fun e => h1 e w ow bs a ha) (fun e => h2 e w ow bs a ha)

def blockV (id : Nat) (Q : Exit → FS → Prop) : Exit → FS → Prop
  | .exit i, s => if i = id then Q .normal s else Q (.exit i) s
  | e, s => Q e s

theorem vw_block {P : Program} {n K : Nat} {id : Nat} {c : Code} {Q : Exit → FS → Prop} {s : FS} (h : VW P n K c (blockV id Q) s) : VW P n K (.block id c) Q s := by
  intro w ow bs a ha
  refine wp_block (wp_mono (h w ow bs a ha) ?_)
  rintro e a' w' ⟨s', ow', bs', hq, hs, ha'⟩
  cases e with
  | exit i =>
    simp only [Exit.inBlock, blockV] at hq ⊢
    split at hq
    · rename_i e; simp only [e, if_true]; exact ⟨s', ow', bs', hq, hs, ha'⟩
    · rename_i e; simp only [e, if_false]; exact ⟨s', ow', bs', hq, hs, ha'⟩
  | _ => exact ⟨s', ow', bs', hq, hs, ha'⟩

/-- Rounds: 'I m' holds at the head, and 'm' falls from round to round. -/
theorem vw_loop {P : Program} {n K : Nat} {c : Code} {Q : Exit → FS → Prop} (I : Nat → FS → Prop) (round : ∀ m s, I m s → VW P n K c (thenV (fun s' => ∃ m', m' < m ∧ I m' s') Q) s) {m : Nat} {s : FS} (h0 : I m s) : VW P n K (.loop c) Q s := by
  intro w0 ow0 bs0 a0 ha0 b k cs
  have key : ∀ m s w ow bs a, I m s → Since K w0 ow0 bs0 w ow bs → At n K s w ow bs a → ∃ e a' w', Post n K Q w0 ow0 bs0 e a' w' ∧ Arrives P (lone (b.at a (.code c :: .inLoop c :: k)) cs w) b k cs e a' w' := by
    intro m
    induction m using Nat.strongRecOn with
    | _ m ih =>
      intro s w ow bs a hI hs ha
      obtain ⟨e, a1, w1, ⟨s1, ow1, bs1, hq, hs1, ha1⟩, harr⟩ := round m s hI w ow bs a ha b (.inLoop c :: k) cs
      have post : e ≠ .normal → Post n K Q w0 ow0 bs0 e a1 w1 := fun hne => ⟨s1, ow1, bs1, by cases e <;> first | exact absurd rfl hne | exact hq, hs.trans hs1, ha1⟩
      cases e with
      | normal =>
        obtain ⟨m', hlt, hI'⟩ := hq
        obtain ⟨e2, a2, w2, hq2, harr2⟩ := ih m' hlt s1 w1 ow1 bs1 a1 hI' (hs.trans hs1) ha1
        exact ⟨e2, a2, w2, hq2, .of_steps (Steps.trans harr (.one step_inLoop)) harr2⟩
      | _ => exact ⟨_, a1, w1, post (by simp), .pass (x := .inLoop c) rfl (fun _ _ => .inl (by simp)) harr⟩
  obtain ⟨e, a', w', hq, harr⟩ := key m s w0 ow0 bs0 a0 h0 (Since.refl _ _ _ _) ha0
  exact ⟨e, a', w', hq, .of_steps (.one step_loop) harr⟩

/-! ### one operation -/

def minus (fr : Nat → Prop) (fid : Nat) : Nat → Prop := fun y => fr y ∧ ¬ Mine fid y

/-- Wherever values and roots are these, the operation has that effect. -/
def OpOk (P : Program) (fid : Nat) (o : Oper) (env : Nat → VV) (st : St) (e : Eff) : Prop :=
  ∀ w ow bs fr a, Rel w ow bs st fr → RelE w ow bs st fr env a → Room fr fid → ∀ (next : Act → World → Prop) (Q : Exit → Act → World → Prop),
    (∀ val w' ow' bs', Steady w ow w' ow' → Rel w' ow' bs' (st.ups e.ups) (minus fr fid) → RelV w' ow' bs' (st.ups e.ups) (minus fr fid) e.v val → Quiet bs st fr bs' (st.ups e.ups) (minus fr fid) → next (a.put o.dst val) w') →
    o.wp P a w next Q

theorem vop_ok {P : Program} {fid : Nat} {o : Oper} {env : Nat → VV} {st : St} {e : Eff} (h : vop P fid o env st = some e) : OpOk P fid o env st e := by
  intro w ow bs fr a hr he hroom next Q hk
  obtain ⟨val, w', ow', bs', h1, h2, h3, h4, h5⟩ := vop_sound hr he hroom h
  have hn := hk val w' ow' bs' h4 h2 h3 h5
  unfold Oper.wp
  rcases h1 with h1 | ⟨h1, rfl⟩
  · rw [h1, Oper.upon_value]; exact hn
  · rw [h1, Oper.upon_skip]; exact hn

/-- Is an operation wanted? 'none': we cannot tell. -/
def wantedV (ops : Array Oper) (o : Oper) (env : Nat → VV) : Option Bool :=
  match o.guard with
  | none => some true
  | some (j, want) =>
    match (ops[j]?).bind (·.dst) with
    | none => some false
    | some d =>
      match env d with
      | .c (.bool b) => some (b == want)
      | .tup _ => some false
      | _ => none

theorem wantedV_run {w ow bs st fr} {env : Nat → VV} {a : Act} (he : RelE w ow bs st fr env a) {ops : Array Oper} {o : Oper} {t : Bool} (h : wantedV ops o env = some t) (hd : ∀ (j : Nat) o' d, ops[j]? = some o' → o'.dst = some d → d < a.tmps.size) :
    Region.wanted o (yielded ops a.tmps) = t := by
  unfold wantedV at h
  unfold Region.wanted
  cases hg : o.guard with
  | none => rw [hg] at h; simpa using h
  | some g =>
    obtain ⟨j, want⟩ := g
    rw [hg] at h
    simp only at h ⊢
    cases hj : ops[j]? with
    | none =>
      simp only [hj, Option.bind_none, Option.some.injEq] at h
      subst h
      simp [yielded, hj]
    | some o' =>
      cases hd' : o'.dst with
      | none =>
        simp only [hj, Option.bind_some, hd', Option.some.injEq] at h
        subst h
        simp [yielded, hj, hd']
      | some d =>
        simp only [hj, Option.bind_some, hd'] at h
        have hlt := hd j o' d hj hd'
        have hv := he d
        rw [Array.getD_eq_getD_getElem?, Array.getElem?_eq_getElem hlt] at hv
        simp only [Option.getD_some] at hv
        split at h
        · rename_i b hb
          rw [hb] at hv
          have := rel_bool hv
          simp only [Option.some.injEq] at h
          subst h
          simp [yielded, hj, hd', Array.getElem?_eq_getElem hlt, this]
        · rename_i cs hb
          rw [hb] at hv
          simp only [Option.some.injEq] at h
          subst h
          generalize hx : a.tmps[d] = x at hv
          cases hv with
          | tup => simp [yielded, hj, hd', Array.getElem?_eq_getElem hlt, hx]
        · cases h

def dstOk (n : Nat) (ops : List Oper) : Bool := ops.all fun o => match o.dst with | some d => decide (d < n) | none => true

theorem RelE.mono {w w' ow ow' bs bs' st st' fr fr' env a} (hk : Kept w ow w' ow') (hq : Quiet bs st fr bs' st' fr') (h : RelE w ow bs st fr env a) : RelE w' ow' bs' st' fr' env a := fun t => (h t).mono hk hq

theorem RelE.put {w ow bs st fr env a} (h : RelE w ow bs st fr env a) {dst : Option Tmp} {v : VV} {val : Value} (hv : RelV w ow bs st fr v val) (hd : ∀ d, dst = some d → d < a.tmps.size) : RelE w ow bs st fr (dstE env dst v) (a.put dst val) := by
  intro t
  cases dst with
  | none => exact h t
  | some d =>
    simp only [dstE, Act.put, setE]
    have hlt := hd d rfl
    by_cases e : t = d
    · subst e
      simpa [Array.getD_eq_getD_getElem?, Array.getElem?_setIfInBounds_self_of_lt hlt] using hv
    · simp only [e, if_false, Array.getD_eq_getD_getElem?]
      rw [Array.getElem?_setIfInBounds_ne (fun x => e x.symm), ← Array.getD_eq_getD_getElem?]
      exact h t

theorem put_size (a : Act) (dst : Option Tmp) (v : Value) : (a.put dst v).tmps.size = a.tmps.size := by cases dst <;> simp [Act.put]
theorem put_defers (a : Act) (dst : Option Tmp) (v : Value) : (a.put dst v).defers = a.defers := by cases dst <;> rfl

/-- The operations of a region, one behind the other. -/
def runL (P : Program) (ops : Array Oper) (nx : Nat) : Nat → List Oper → (Nat → VV) → St → ((Nat → VV) → St → Prop) → Prop
  | _, [], env, st, K => K env st
  | i, o :: l, env, st, K =>
    match wantedV ops o env with
    | some true => ∃ e, OpOk P (nx + 1024 * i) o env st e ∧ runL P ops nx (i + 1) l (dstE env o.dst e.v) (st.ups e.ups) K
    | some false => runL P ops nx (i + 1) l (dstE env o.dst (.tup [])) st K
    | none => False

theorem runL_sound {P : Program} {ops : Array Oper} {nx n K : Nat} {Q : Exit → FS → Prop} (hd : dstOk n ops.toList = true) : ∀ (l : List Oper) (i : Nat) {env : Nat → VV} {st : St} {w0 : World} {ow0 : Own} {bs0 : Base} {w ow bs a}, K ≤ nx → ops.toList.drop i = l → i + l.length = ops.size →
    runL P ops nx i l env st (fun env st => Q .normal ⟨env, st, nx + 1024 * ops.size⟩) → Since K w0 ow0 bs0 w ow bs → Rel w ow bs st (fun x => nx + 1024 * i ≤ x) → RelE w ow bs st (fun x => nx + 1024 * i ≤ x) env a → a.tmps.size = n → a.defers = [] →
    wpOps P ops (Post n K Q w0 ow0 bs0) (List.range' i l.length) a w
  | [], i, env, st, w0, ow0, bs0, w, ow, bs, a, hK, hdrop, hlen, h, hs, hr, he, hsz, hdf => by
    simp only [List.length_nil, Nat.add_zero] at hlen
    subst hlen
    exact ⟨⟨env, st, nx + 1024 * ops.size⟩, ow, bs, h, hs, hr, he, hsz, hdf, by show K ≤ nx + 1024 * ops.size; omega⟩
  | o :: l, i, env, st, w0, ow0, bs0, w, ow, bs, a, hK, hdrop, hlen, h, hs, hr, he, hsz, hdf => by
    have hoi : ops.toList[i]? = some o := by
      have : (ops.toList.drop i)[0]? = some o := by rw [hdrop]; rfl
      simpa using this
    have hoi' : ops[i]? = some o := by simpa using hoi
    have hdst : ∀ (j : Nat) o' d, ops[j]? = some o' → o'.dst = some d → d < a.tmps.size := by
      intro j o' d hj hd'
      have hm : o' ∈ ops.toList := by
        have : ops.toList[j]? = some o' := by simpa using hj
        exact List.mem_of_getElem? this
      have := List.all_eq_true.1 hd o' hm
      simp only [hd', decide_eq_true_eq] at this
      rw [hsz]
      exact this
    have hnext : ops.toList.drop (i + 1) = l := by
      have : (ops.toList.drop i).drop 1 = l := by rw [hdrop]; rfl
      simpa [List.drop_drop] using this
    simp only [List.length_cons] at hlen
    simp only [List.length_cons, List.range'_succ, wpOps, hoi']
    simp only [runL] at h
    split at h
    · rename_i hw
      obtain ⟨e, hok, hrest⟩ := h
      rw [wantedV_run he hw hdst]
      simp only [if_true]
      refine .inl (hok w ow bs _ a hr he (fun c hc => by omega) _ _ fun val w' ow' bs' h1 h2 h3 h4 => ?_)
      have hsub : ∀ x, nx + 1024 * (i + 1) ≤ x → minus (fun x => nx + 1024 * i ≤ x) (nx + 1024 * i) x := by
        intro x hx
        exact ⟨by omega, fun hm => by simp only [Mine] at hm; omega⟩
      exact runL_sound hd l (i + 1) hK hnext (by omega) hrest (hs.trans ⟨h1, fun r hr => h4.base r (fun hx => by omega)⟩) (h2.shrink hsub)
        (((he.mono h1.kept h4).put h3 (fun d hd' => hdst i o d hoi' hd')).mono (Kept.refl _ _) (Quiet.shrink hsub)) (by rw [put_size]; exact hsz) (by rw [put_defers]; exact hdf)
    · rename_i hw
      rw [wantedV_run he hw hdst]
      simp only [Bool.false_eq_true, if_false]
      have hsub : ∀ x, nx + 1024 * (i + 1) ≤ x → nx + 1024 * i ≤ x := by intro x hx; omega
      refine runL_sound hd l (i + 1) hK hnext (by omega) h hs (hr.shrink hsub) ((he.put (v := .tup []) (val := undef) ?_ (fun d hd' => hdst i o d hoi' hd')).mono (Kept.refl _ _) (Quiet.shrink hsub)) (by rw [put_size]; exact hsz) (by rw [put_defers]; exact hdf)
      exact .tup (vs := #[]) rfl (fun k x hx => by simp at hx)
    · exact h.elim

theorem vw_region {P : Program} {n K id : Nat} {ops : Array Oper} {Q : Exit → FS → Prop} {s : FS} (hd : dstOk n ops.toList = true) (h : runL P ops s.nx 0 ops.toList s.env s.st (fun env st => Q .normal ⟨env, st, s.nx + 1024 * ops.size⟩)) :
    VW P n K (.region id ops false) Q s := by
  intro w ow bs a ha
  refine wp_region ?_
  have := runL_sound (w0 := w) (ow0 := ow) (bs0 := bs) hd ops.toList 0 ha.old (by simp) (by simp) h (Since.refl _ _ _ _) (by simpa using ha.rel) (by simpa using ha.env) ha.size ha.defers
  rw [List.range_eq_range']
  simpa using this

end Go.VM
